/-
  What the shapes of the laws' arguments say (printed by a program, checked by the kernel).
-/
import Derived.Test.YtdkbgjhlpoibdaaNames
import Derived.Test.YtdkbgjhlpoibdaaAs31
namespace Go.Proofs.Ytdkbgjhlpoibdaa
open Go Go.AS Go.RowKit
set_option linter.unusedVariables false
set_option maxRecDepth 100000

abbrev T.GraceFreed : List Nat := [22]
theorem args_GraceFreed {H : Heap} {us : List Value} (h : shpVs en H 7 T.GraceFreed us) :
    (∃ (v1 : Value) (u2 : List Value), us = v1 :: u2 ∧ ([v1] = [.slice none 0 0] ∨ ∃ (i : Nat) (cs : List (List Value)), [v1] = [.slice (some ⟨i, 0, none⟩) cs.length 0] ∧ i < H.next ∧ H.get i = some (AS.Obj.cells false 0 cs.flatten) ∧ ∀ c3 ∈ cs, (∃ (a4 b5 : List Value), c3 = a4 ++ b5 ∧ (∃ n : Int, a4 = [.int .i64 n] ∧ (Lit.int .i64 n).wf = true) ∧ (∃ (a6 b7 : List Value), b5 = a6 ++ b7 ∧ (∃ n : Int, a6 = [.int .i64 n] ∧ (Lit.int .i64 n).wf = true) ∧ b7 = []))) ∧ u2 = []) := by
  apply turnInto h
  kernel_rfl

abbrev T.GracePlays : List Nat := [3, 22]
theorem args_GracePlays {H : Heap} {us : List Value} (h : shpVs en H 7 T.GracePlays us) :
    (∃ (v8 : Value) (u9 : List Value), us = v8 :: u9 ∧ (∃ n : Int, [v8] = [.int .i64 n] ∧ (Lit.int .i64 n).wf = true) ∧ (∃ (v10 : Value) (u11 : List Value), u9 = v10 :: u11 ∧ ([v10] = [.slice none 0 0] ∨ ∃ (i : Nat) (cs : List (List Value)), [v10] = [.slice (some ⟨i, 0, none⟩) cs.length 0] ∧ i < H.next ∧ H.get i = some (AS.Obj.cells false 0 cs.flatten) ∧ ∀ c12 ∈ cs, (∃ (a13 b14 : List Value), c12 = a13 ++ b14 ∧ (∃ n : Int, a13 = [.int .i64 n] ∧ (Lit.int .i64 n).wf = true) ∧ (∃ (a15 b16 : List Value), b14 = a15 ++ b16 ∧ (∃ n : Int, a15 = [.int .i64 n] ∧ (Lit.int .i64 n).wf = true) ∧ b16 = []))) ∧ u11 = [])) := by
  apply turnInto h
  kernel_rfl

abbrev T.GraceSafe : List Nat := [3, 22]
theorem args_GraceSafe {H : Heap} {us : List Value} (h : shpVs en H 7 T.GraceSafe us) :
    (∃ (v17 : Value) (u18 : List Value), us = v17 :: u18 ∧ (∃ n : Int, [v17] = [.int .i64 n] ∧ (Lit.int .i64 n).wf = true) ∧ (∃ (v19 : Value) (u20 : List Value), u18 = v19 :: u20 ∧ ([v19] = [.slice none 0 0] ∨ ∃ (i : Nat) (cs : List (List Value)), [v19] = [.slice (some ⟨i, 0, none⟩) cs.length 0] ∧ i < H.next ∧ H.get i = some (AS.Obj.cells false 0 cs.flatten) ∧ ∀ c21 ∈ cs, (∃ (a22 b23 : List Value), c21 = a22 ++ b23 ∧ (∃ n : Int, a22 = [.int .i64 n] ∧ (Lit.int .i64 n).wf = true) ∧ (∃ (a24 b25 : List Value), b23 = a24 ++ b25 ∧ (∃ n : Int, a24 = [.int .i64 n] ∧ (Lit.int .i64 n).wf = true) ∧ b25 = []))) ∧ u20 = [])) := by
  apply turnInto h
  kernel_rfl
end Go.Proofs.Ytdkbgjhlpoibdaa
