/-
  What the shapes of the laws' arguments say (printed by a program, checked by the kernel).
-/
import Derived.Test.YtlkmdcncpdadbaaNames
import Derived.Test.YtlkmdcncpdadbaaAs32
namespace Go.Proofs.Ytlkmdcncpdadbaa
open Go Go.AS Go.RowKit
set_option linter.unusedVariables false
set_option maxRecDepth 100000

abbrev T.BloomRuns : List Nat := [35, 55, 56]
theorem args_BloomRuns {H : Heap} {us : List Value} (h : shzVs en H 7 T.BloomRuns us) :
    (∃ (v1 : Value) (u2 : List Value), us = v1 :: u2 ∧ (∃ l3 : List Value, v1 = .agg ⟨l3⟩ ∧ (∃ (a4 b5 : List Value), l3 = a4 ++ b5 ∧ (∃ n : Int, a4 = [.int .i64 n] ∧ (Lit.int .i64 n).wf = true) ∧ (∃ (a6 b7 : List Value), b5 = a6 ++ b7 ∧ (∃ n : Int, a6 = [.int .i64 n] ∧ (Lit.int .i64 n).wf = true) ∧ (∃ (a8 b9 : List Value), b7 = a8 ++ b9 ∧ (∃ n : Int, a8 = [.int .i64 n] ∧ (Lit.int .i64 n).wf = true) ∧ (∃ (a10 b11 : List Value), b9 = a10 ++ b11 ∧ (∃ n : Int, a10 = [.int .i64 n] ∧ (Lit.int .i64 n).wf = true) ∧ (∃ (a12 b13 : List Value), b11 = a12 ++ b13 ∧ (∃ n : Int, a12 = [.int .i64 n] ∧ (Lit.int .i64 n).wf = true) ∧ b13 = [])))))) ∧ (∃ (v14 : Value) (u15 : List Value), u2 = v14 :: u15 ∧ ([v14] = [.slice none 0 0] ∨ ∃ (i : Nat) (cs : List (List Value)), [v14] = [.slice (some ⟨i, 0, none⟩) cs.length 0] ∧ i < H.next ∧ H.get i = some (AS.Obj.cells false 0 cs.flatten) ∧ (∀ c16 ∈ cs, (c16 = [.slice none 0 0] ∨ ∃ (i : Nat) (cs : List (List Value)), c16 = [.slice (some ⟨i, 0, none⟩) cs.length 0] ∧ i < H.next ∧ H.get i = some (AS.Obj.cells false 0 cs.flatten) ∧ (∀ c17 ∈ cs, (∃ (a18 b19 : List Value), c17 = a18 ++ b19 ∧ (∃ n : Int, a18 = [.int .i64 n] ∧ (Lit.int .i64 n).wf = true) ∧ (∃ (a20 b21 : List Value), b19 = a20 ++ b21 ∧ (∃ n : Int, a20 = [.int .u64 n] ∧ (Lit.int .u64 n).wf = true) ∧ (∃ (a22 b23 : List Value), b21 = a22 ++ b23 ∧ (a22 = [.slice none 0 0] ∨ ∃ (i : Nat) (cs : List (List Value)), a22 = [.slice (some ⟨i, 0, none⟩) cs.length 0] ∧ i < H.next ∧ H.get i = some (AS.Obj.cells false 0 cs.flatten) ∧ (∀ c24 ∈ cs, (∃ n : Int, c24 = [.int .u64 n] ∧ (Lit.int .u64 n).wf = true)) ∧ cs.length ≤ 140737488355328) ∧ (∃ (a25 b26 : List Value), b23 = a25 ++ b26 ∧ (∃ n : Int, a25 = [.int .i64 n] ∧ (Lit.int .i64 n).wf = true) ∧ (∃ (a27 b28 : List Value), b26 = a27 ++ b28 ∧ (∃ n : Int, a27 = [.int .i64 n] ∧ (Lit.int .i64 n).wf = true) ∧ b28 = [])))))) ∧ cs.length ≤ 140737488355328)) ∧ cs.length ≤ 140737488355328) ∧ (∃ (v29 : Value) (u30 : List Value), u15 = v29 :: u30 ∧ ([v29] = [.slice none 0 0] ∨ ∃ (i : Nat) (cs : List (List Value)), [v29] = [.slice (some ⟨i, 0, none⟩) cs.length 0] ∧ i < H.next ∧ H.get i = some (AS.Obj.cells false 0 cs.flatten) ∧ (∀ c31 ∈ cs, (∃ n : Int, c31 = [.int .i64 n] ∧ (Lit.int .i64 n).wf = true)) ∧ cs.length ≤ 140737488355328) ∧ u30 = []))) := by
  apply turnInto h
  kernel_rfl
end Go.Proofs.Ytlkmdcncpdadbaa
