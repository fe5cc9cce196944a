/-
  What the shapes of the laws' arguments say (printed by a program, checked by the kernel).
-/
import Derived.Test.YtjggeoghlicmdaaGreatNames
import Derived.Test.YtjggeoghlicmdaaGreatAs31
namespace Go.Proofs.YtjggeoghlicmdaaGreat
open Go Go.AS Go.RowKit
set_option linter.unusedVariables false
set_option maxRecDepth 100000

abbrev T.LruAge : List Nat := [3, 22]
theorem args_LruAge {H : Heap} {us : List Value} (h : shpVs en H 7 T.LruAge us) :
    (∃ (v1 : Value) (u2 : List Value), us = v1 :: u2 ∧ (∃ n : Int, [v1] = [.int .i64 n] ∧ (Lit.int .i64 n).wf = true) ∧ (∃ (v3 : Value) (u4 : List Value), u2 = v3 :: u4 ∧ ([v3] = [.slice none 0 0] ∨ ∃ (i : Nat) (cs : List (List Value)), [v3] = [.slice (some ⟨i, 0, none⟩) cs.length 0] ∧ i < H.next ∧ H.get i = some (AS.Obj.cells false 0 cs.flatten) ∧ ∀ c5 ∈ cs, (∃ n : Int, c5 = [.int .u64 n] ∧ (Lit.int .u64 n).wf = true)) ∧ u4 = [])) := by
  apply turnInto h
  kernel_rfl

abbrev T.LruGoes : List Nat := [3, 32, 32]
theorem args_LruGoes {H : Heap} {us : List Value} (h : shpVs en H 7 T.LruGoes us) :
    (∃ (v6 : Value) (u7 : List Value), us = v6 :: u7 ∧ (∃ n : Int, [v6] = [.int .i64 n] ∧ (Lit.int .i64 n).wf = true) ∧ (∃ (v8 : Value) (u9 : List Value), u7 = v8 :: u9 ∧ (∃ n : Int, [v8] = [.int .u64 n] ∧ (Lit.int .u64 n).wf = true) ∧ (∃ (v10 : Value) (u11 : List Value), u9 = v10 :: u11 ∧ (∃ n : Int, [v10] = [.int .u64 n] ∧ (Lit.int .u64 n).wf = true) ∧ u11 = []))) := by
  apply turnInto h
  kernel_rfl

abbrev T.HashSteps : List Nat := [3, 3, 22, 52]
theorem args_HashSteps {H : Heap} {us : List Value} (h : shpVs en H 7 T.HashSteps us) :
    (∃ (v12 : Value) (u13 : List Value), us = v12 :: u13 ∧ (∃ n : Int, [v12] = [.int .i64 n] ∧ (Lit.int .i64 n).wf = true) ∧ (∃ (v14 : Value) (u15 : List Value), u13 = v14 :: u15 ∧ (∃ n : Int, [v14] = [.int .i64 n] ∧ (Lit.int .i64 n).wf = true) ∧ (∃ (v16 : Value) (u17 : List Value), u15 = v16 :: u17 ∧ ([v16] = [.slice none 0 0] ∨ ∃ (i : Nat) (cs : List (List Value)), [v16] = [.slice (some ⟨i, 0, none⟩) cs.length 0] ∧ i < H.next ∧ H.get i = some (AS.Obj.cells false 0 cs.flatten) ∧ ∀ c18 ∈ cs, (∃ n : Int, c18 = [.int .u64 n] ∧ (Lit.int .u64 n).wf = true)) ∧ (∃ (v19 : Value) (u20 : List Value), u17 = v19 :: u20 ∧ (∃ l21 : List Value, v19 = .agg ⟨l21⟩ ∧ (∃ (a22 b23 : List Value), l21 = a22 ++ b23 ∧ (∃ n : Int, a22 = [.int .i64 n] ∧ (Lit.int .i64 n).wf = true) ∧ (∃ (a24 b25 : List Value), b23 = a24 ++ b25 ∧ (∃ n : Int, a24 = [.int .u64 n] ∧ (Lit.int .u64 n).wf = true) ∧ (∃ (a26 b27 : List Value), b25 = a26 ++ b27 ∧ (a26 = [.slice none 0 0] ∨ ∃ (i : Nat) (cs : List (List Value)), a26 = [.slice (some ⟨i, 0, none⟩) cs.length 0] ∧ i < H.next ∧ H.get i = some (AS.Obj.cells false 0 cs.flatten) ∧ ∀ c28 ∈ cs, (∃ n : Int, c28 = [.int .u64 n] ∧ (Lit.int .u64 n).wf = true)) ∧ (∃ (a29 b30 : List Value), b27 = a29 ++ b30 ∧ (∃ n : Int, a29 = [.int .i64 n] ∧ (Lit.int .i64 n).wf = true) ∧ (∃ (a31 b32 : List Value), b30 = a31 ++ b32 ∧ (∃ n : Int, a31 = [.int .i64 n] ∧ (Lit.int .i64 n).wf = true) ∧ b32 = [])))))) ∧ u20 = [])))) := by
  apply turnInto h
  kernel_rfl

abbrev T.HashOnce : List Nat := [3, 3, 48]
theorem args_HashOnce {H : Heap} {us : List Value} (h : shpVs en H 7 T.HashOnce us) :
    (∃ (v33 : Value) (u34 : List Value), us = v33 :: u34 ∧ (∃ n : Int, [v33] = [.int .i64 n] ∧ (Lit.int .i64 n).wf = true) ∧ (∃ (v35 : Value) (u36 : List Value), u34 = v35 :: u36 ∧ (∃ n : Int, [v35] = [.int .i64 n] ∧ (Lit.int .i64 n).wf = true) ∧ (∃ (v37 : Value) (u38 : List Value), u36 = v37 :: u38 ∧ ([v37] = [.slice none 0 0] ∨ ∃ (i : Nat) (cs : List (List Value)), [v37] = [.slice (some ⟨i, 0, none⟩) cs.length 0] ∧ i < H.next ∧ H.get i = some (AS.Obj.cells false 0 cs.flatten) ∧ ∀ c39 ∈ cs, (∃ n : Int, c39 = [.int .i64 n] ∧ (Lit.int .i64 n).wf = true)) ∧ u38 = []))) := by
  apply turnInto h
  kernel_rfl
end Go.Proofs.YtjggeoghlicmdaaGreat
