/-
  What the shapes of the laws' arguments say (printed by a program, checked by the kernel).
-/
import Derived.Test.YtgpacebjbdhphaaGreatNames
import Derived.Test.YtgpacebjbdhphaaGreatAs32
namespace Go.Proofs.YtgpacebjbdhphaaGreat
open Go Go.AS Go.RowKit
set_option linter.unusedVariables false
set_option maxRecDepth 100000

abbrev T.RingAgrees : List Nat := [25]
theorem args_RingAgrees {H : Heap} {us : List Value} (h : shzVs en H 7 T.RingAgrees us) :
    (∃ (v1 : Value) (u2 : List Value), us = v1 :: u2 ∧ (∃ l3 : List Value, v1 = .agg ⟨l3⟩ ∧ (∃ (a4 b5 : List Value), l3 = a4 ++ b5 ∧ (∃ b : Bool, a4 = [.bool b]) ∧ (∃ (a6 b7 : List Value), b5 = a6 ++ b7 ∧ (∃ n : Int, a6 = [.int .i64 n] ∧ (Lit.int .i64 n).wf = true) ∧ (∃ (a8 b9 : List Value), b7 = a8 ++ b9 ∧ (∃ n : Int, a8 = [.int .i64 n] ∧ (Lit.int .i64 n).wf = true) ∧ (∃ (a10 b11 : List Value), b9 = a10 ++ b11 ∧ (a10 = [.slice none 0 0] ∨ ∃ (i : Nat) (cs : List (List Value)), a10 = [.slice (some ⟨i, 0, none⟩) cs.length 0] ∧ i < H.next ∧ H.get i = some (AS.Obj.cells false 0 cs.flatten) ∧ (∀ c12 ∈ cs, (c12 = [.slice none 0 0] ∨ ∃ (i : Nat) (cs : List (List Value)), c12 = [.slice (some ⟨i, 0, none⟩) cs.length 0] ∧ i < H.next ∧ H.get i = some (AS.Obj.cells false 0 cs.flatten) ∧ (∀ c13 ∈ cs, (∃ (a14 b15 : List Value), c13 = a14 ++ b15 ∧ (∃ n : Int, a14 = [.int .i64 n] ∧ (Lit.int .i64 n).wf = true) ∧ (∃ (a16 b17 : List Value), b15 = a16 ++ b17 ∧ (∃ (a18 b19 : List Value), a16 = a18 ++ b19 ∧ (∃ n : Int, a18 = [.int .i64 n] ∧ (Lit.int .i64 n).wf = true) ∧ (∃ (a20 b21 : List Value), b19 = a20 ++ b21 ∧ (∃ n : Int, a20 = [.int .u64 n] ∧ (Lit.int .u64 n).wf = true) ∧ (∃ (a22 b23 : List Value), b21 = a22 ++ b23 ∧ (a22 = [.slice none 0 0] ∨ ∃ (i : Nat) (cs : List (List Value)), a22 = [.slice (some ⟨i, 0, none⟩) cs.length 0] ∧ i < H.next ∧ H.get i = some (AS.Obj.cells false 0 cs.flatten) ∧ (∀ c24 ∈ cs, (∃ n : Int, c24 = [.int .u64 n] ∧ (Lit.int .u64 n).wf = true)) ∧ cs.length ≤ 140737488355328) ∧ (∃ (a25 b26 : List Value), b23 = a25 ++ b26 ∧ (∃ n : Int, a25 = [.int .i64 n] ∧ (Lit.int .i64 n).wf = true) ∧ (∃ (a27 b28 : List Value), b26 = a27 ++ b28 ∧ (∃ n : Int, a27 = [.int .i64 n] ∧ (Lit.int .i64 n).wf = true) ∧ b28 = []))))) ∧ (∃ (a29 b30 : List Value), b17 = a29 ++ b30 ∧ (∃ n : Int, a29 = [.int .u64 n] ∧ (Lit.int .u64 n).wf = true) ∧ b30 = [])))) ∧ cs.length ≤ 140737488355328)) ∧ cs.length ≤ 140737488355328) ∧ (∃ (a31 b32 : List Value), b11 = a31 ++ b32 ∧ (a31 = [.slice none 0 0] ∨ ∃ (i : Nat) (cs : List (List Value)), a31 = [.slice (some ⟨i, 0, none⟩) cs.length 0] ∧ i < H.next ∧ H.get i = some (AS.Obj.cells false 0 cs.flatten) ∧ (∀ c33 ∈ cs, (∃ n : Int, c33 = [.int .i64 n] ∧ (Lit.int .i64 n).wf = true)) ∧ cs.length ≤ 140737488355328) ∧ b32 = [])))))) ∧ u2 = []) := by
  apply turnInto h
  kernel_rfl
end Go.Proofs.YtgpacebjbdhphaaGreat
