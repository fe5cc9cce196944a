/-
  What the shapes of the laws' arguments say (printed by a program, checked by the kernel).
-/
import Derived.Test.YtlkmdcncpdadbaaNames
import Derived.Test.YtlkmdcncpdadbaaAs31
namespace Go.Proofs.Ytlkmdcncpdadbaa
open Go Go.AS Go.RowKit
set_option linter.unusedVariables false
set_option maxRecDepth 100000

abbrev T.DeclTells : List Nat := [35, 35, 29, 29, 3]
theorem args_DeclTells {H : Heap} {us : List Value} (h : shpVs en H 7 T.DeclTells us) :
    (∃ (v1 : Value) (u2 : List Value), us = v1 :: u2 ∧ (∃ l3 : List Value, v1 = .agg ⟨l3⟩ ∧ (∃ (a4 b5 : List Value), l3 = a4 ++ b5 ∧ (∃ n : Int, a4 = [.int .i64 n] ∧ (Lit.int .i64 n).wf = true) ∧ (∃ (a6 b7 : List Value), b5 = a6 ++ b7 ∧ (∃ n : Int, a6 = [.int .i64 n] ∧ (Lit.int .i64 n).wf = true) ∧ (∃ (a8 b9 : List Value), b7 = a8 ++ b9 ∧ (∃ n : Int, a8 = [.int .i64 n] ∧ (Lit.int .i64 n).wf = true) ∧ (∃ (a10 b11 : List Value), b9 = a10 ++ b11 ∧ (∃ n : Int, a10 = [.int .i64 n] ∧ (Lit.int .i64 n).wf = true) ∧ (∃ (a12 b13 : List Value), b11 = a12 ++ b13 ∧ (∃ n : Int, a12 = [.int .i64 n] ∧ (Lit.int .i64 n).wf = true) ∧ b13 = [])))))) ∧ (∃ (v14 : Value) (u15 : List Value), u2 = v14 :: u15 ∧ (∃ l16 : List Value, v14 = .agg ⟨l16⟩ ∧ (∃ (a17 b18 : List Value), l16 = a17 ++ b18 ∧ (∃ n : Int, a17 = [.int .i64 n] ∧ (Lit.int .i64 n).wf = true) ∧ (∃ (a19 b20 : List Value), b18 = a19 ++ b20 ∧ (∃ n : Int, a19 = [.int .i64 n] ∧ (Lit.int .i64 n).wf = true) ∧ (∃ (a21 b22 : List Value), b20 = a21 ++ b22 ∧ (∃ n : Int, a21 = [.int .i64 n] ∧ (Lit.int .i64 n).wf = true) ∧ (∃ (a23 b24 : List Value), b22 = a23 ++ b24 ∧ (∃ n : Int, a23 = [.int .i64 n] ∧ (Lit.int .i64 n).wf = true) ∧ (∃ (a25 b26 : List Value), b24 = a25 ++ b26 ∧ (∃ n : Int, a25 = [.int .i64 n] ∧ (Lit.int .i64 n).wf = true) ∧ b26 = [])))))) ∧ (∃ (v27 : Value) (u28 : List Value), u15 = v27 :: u28 ∧ (∃ n : Int, [v27] = [.int .u64 n] ∧ (Lit.int .u64 n).wf = true) ∧ (∃ (v29 : Value) (u30 : List Value), u28 = v29 :: u30 ∧ (∃ n : Int, [v29] = [.int .u64 n] ∧ (Lit.int .u64 n).wf = true) ∧ (∃ (v31 : Value) (u32 : List Value), u30 = v31 :: u32 ∧ (∃ n : Int, [v31] = [.int .i64 n] ∧ (Lit.int .i64 n).wf = true) ∧ u32 = []))))) := by
  apply turnInto h
  kernel_rfl

abbrev T.DeclChecks : List Nat := [22]
theorem args_DeclChecks {H : Heap} {us : List Value} (h : shpVs en H 7 T.DeclChecks us) :
    (∃ (v33 : Value) (u34 : List Value), us = v33 :: u34 ∧ ([v33] = [.slice none 0 0] ∨ ∃ (i : Nat) (cs : List (List Value)), [v33] = [.slice (some ⟨i, 0, none⟩) cs.length 0] ∧ i < H.next ∧ H.get i = some (AS.Obj.cells false 0 cs.flatten) ∧ ∀ c35 ∈ cs, (∃ (a36 b37 : List Value), c35 = a36 ++ b37 ∧ (∃ n : Int, a36 = [.int .i64 n] ∧ (Lit.int .i64 n).wf = true) ∧ (∃ (a38 b39 : List Value), b37 = a38 ++ b39 ∧ (∃ n : Int, a38 = [.int .i64 n] ∧ (Lit.int .i64 n).wf = true) ∧ (∃ (a40 b41 : List Value), b39 = a40 ++ b41 ∧ (∃ n : Int, a40 = [.int .i64 n] ∧ (Lit.int .i64 n).wf = true) ∧ (∃ (a42 b43 : List Value), b41 = a42 ++ b43 ∧ (∃ n : Int, a42 = [.int .i64 n] ∧ (Lit.int .i64 n).wf = true) ∧ (∃ (a44 b45 : List Value), b43 = a44 ++ b45 ∧ (∃ n : Int, a44 = [.int .i64 n] ∧ (Lit.int .i64 n).wf = true) ∧ b45 = [])))))) ∧ u34 = []) := by
  apply turnInto h
  kernel_rfl

abbrev T.BloomFinds : List Nat := [5, 42, 42]
theorem args_BloomFinds {H : Heap} {us : List Value} (h : shpVs en H 7 T.BloomFinds us) :
    (∃ (v46 : Value) (u47 : List Value), us = v46 :: u47 ∧ (∃ n : Int, [v46] = [.int .u8 n] ∧ (Lit.int .u8 n).wf = true) ∧ (∃ (v48 : Value) (u49 : List Value), u47 = v48 :: u49 ∧ ([v48] = [.slice none 0 0] ∨ ∃ (i : Nat) (cs : List (List Value)), [v48] = [.slice (some ⟨i, 0, none⟩) cs.length 0] ∧ i < H.next ∧ H.get i = some (AS.Obj.cells false 0 cs.flatten) ∧ ∀ c50 ∈ cs, (∃ n : Int, c50 = [.int .u64 n] ∧ (Lit.int .u64 n).wf = true)) ∧ (∃ (v51 : Value) (u52 : List Value), u49 = v51 :: u52 ∧ ([v51] = [.slice none 0 0] ∨ ∃ (i : Nat) (cs : List (List Value)), [v51] = [.slice (some ⟨i, 0, none⟩) cs.length 0] ∧ i < H.next ∧ H.get i = some (AS.Obj.cells false 0 cs.flatten) ∧ ∀ c53 ∈ cs, (∃ n : Int, c53 = [.int .u64 n] ∧ (Lit.int .u64 n).wf = true)) ∧ u52 = []))) := by
  apply turnInto h
  kernel_rfl
end Go.Proofs.Ytlkmdcncpdadbaa
