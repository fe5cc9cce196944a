/-
  What the shapes of the laws' arguments say (printed by a program, checked by the kernel).
-/
import Derived.Test.YtgpacebjbdhphaaNames
import Derived.Test.YtgpacebjbdhphaaAs31
namespace Go.Proofs.Ytgpacebjbdhphaa
open Go Go.AS Go.RowKit
set_option linter.unusedVariables false
set_option maxRecDepth 100000

abbrev T.RecordWhole : List Nat := [3, 3, 3, 47]
theorem args_RecordWhole {H : Heap} {us : List Value} (h : shpVs en H 7 T.RecordWhole us) :
    (∃ (v1 : Value) (u2 : List Value), us = v1 :: u2 ∧ (∃ n : Int, [v1] = [.int .i64 n] ∧ (Lit.int .i64 n).wf = true) ∧ (∃ (v3 : Value) (u4 : List Value), u2 = v3 :: u4 ∧ (∃ n : Int, [v3] = [.int .i64 n] ∧ (Lit.int .i64 n).wf = true) ∧ (∃ (v5 : Value) (u6 : List Value), u4 = v5 :: u6 ∧ (∃ n : Int, [v5] = [.int .i64 n] ∧ (Lit.int .i64 n).wf = true) ∧ (∃ (v7 : Value) (u8 : List Value), u6 = v7 :: u8 ∧ ([v7] = [.slice none 0 0] ∨ ∃ (i : Nat) (cs : List (List Value)), [v7] = [.slice (some ⟨i, 0, none⟩) cs.length 0] ∧ i < H.next ∧ H.get i = some (AS.Obj.cells false 0 cs.flatten) ∧ ∀ c9 ∈ cs, (∃ n : Int, c9 = [.int .i64 n] ∧ (Lit.int .i64 n).wf = true)) ∧ u8 = [])))) := by
  apply turnInto h
  kernel_rfl

abbrev T.RecordAtomic : List Nat := [3, 3, 47]
theorem args_RecordAtomic {H : Heap} {us : List Value} (h : shpVs en H 7 T.RecordAtomic us) :
    (∃ (v10 : Value) (u11 : List Value), us = v10 :: u11 ∧ (∃ n : Int, [v10] = [.int .i64 n] ∧ (Lit.int .i64 n).wf = true) ∧ (∃ (v12 : Value) (u13 : List Value), u11 = v12 :: u13 ∧ (∃ n : Int, [v12] = [.int .i64 n] ∧ (Lit.int .i64 n).wf = true) ∧ (∃ (v14 : Value) (u15 : List Value), u13 = v14 :: u15 ∧ ([v14] = [.slice none 0 0] ∨ ∃ (i : Nat) (cs : List (List Value)), [v14] = [.slice (some ⟨i, 0, none⟩) cs.length 0] ∧ i < H.next ∧ H.get i = some (AS.Obj.cells false 0 cs.flatten) ∧ ∀ c16 ∈ cs, (∃ n : Int, c16 = [.int .i64 n] ∧ (Lit.int .i64 n).wf = true)) ∧ u15 = []))) := by
  apply turnInto h
  kernel_rfl

abbrev T.RingWhole : List Nat := [4, 4, 3, 3, 22]
theorem args_RingWhole {H : Heap} {us : List Value} (h : shpVs en H 7 T.RingWhole us) :
    (∃ (v17 : Value) (u18 : List Value), us = v17 :: u18 ∧ (∃ b : Bool, [v17] = [.bool b]) ∧ (∃ (v19 : Value) (u20 : List Value), u18 = v19 :: u20 ∧ (∃ b : Bool, [v19] = [.bool b]) ∧ (∃ (v21 : Value) (u22 : List Value), u20 = v21 :: u22 ∧ (∃ n : Int, [v21] = [.int .i64 n] ∧ (Lit.int .i64 n).wf = true) ∧ (∃ (v23 : Value) (u24 : List Value), u22 = v23 :: u24 ∧ (∃ n : Int, [v23] = [.int .i64 n] ∧ (Lit.int .i64 n).wf = true) ∧ (∃ (v25 : Value) (u26 : List Value), u24 = v25 :: u26 ∧ ([v25] = [.slice none 0 0] ∨ ∃ (i : Nat) (cs : List (List Value)), [v25] = [.slice (some ⟨i, 0, none⟩) cs.length 0] ∧ i < H.next ∧ H.get i = some (AS.Obj.cells false 0 cs.flatten) ∧ ∀ c27 ∈ cs, (∃ n : Int, c27 = [.int .u64 n] ∧ (Lit.int .u64 n).wf = true)) ∧ u26 = []))))) := by
  apply turnInto h
  kernel_rfl
end Go.Proofs.Ytgpacebjbdhphaa
