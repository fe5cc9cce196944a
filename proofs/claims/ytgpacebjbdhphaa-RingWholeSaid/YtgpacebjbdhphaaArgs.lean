/-
  What the shapes of the laws' arguments say (printed by a program, checked by the kernel).
-/
import Derived.Test.YtgpacebjbdhphaaNames
import Derived.Test.YtgpacebjbdhphaaAs31
namespace Go.Proofs.Ytgpacebjbdhphaa
open Go Go.AS Go.RowKit
set_option linter.unusedVariables false
set_option maxRecDepth 100000

abbrev T.RecordWhole : List Nat := [3, 3, 3, 47]
theorem args_RecordWhole {H : Heap} {us : List Value} (h : shpVs en H 7 T.RecordWhole us) :
    (∃ (v1 : Value) (u2 : List Value), us = v1 :: u2 ∧ (∃ n : Int, [v1] = [.int .i64 n] ∧ (Lit.int .i64 n).wf = true) ∧ (∃ (v3 : Value) (u4 : List Value), u2 = v3 :: u4 ∧ (∃ n : Int, [v3] = [.int .i64 n] ∧ (Lit.int .i64 n).wf = true) ∧ (∃ (v5 : Value) (u6 : List Value), u4 = v5 :: u6 ∧ (∃ n : Int, [v5] = [.int .i64 n] ∧ (Lit.int .i64 n).wf = true) ∧ (∃ (v7 : Value) (u8 : List Value), u6 = v7 :: u8 ∧ ([v7] = [.slice none 0 0] ∨ ∃ (i : Nat) (cs : List (List Value)), [v7] = [.slice (some ⟨i, 0, none⟩) cs.length 0] ∧ i < H.next ∧ H.get i = some (AS.Obj.cells false 0 cs.flatten) ∧ ∀ c9 ∈ cs, (∃ n : Int, c9 = [.int .i64 n] ∧ (Lit.int .i64 n).wf = true)) ∧ u8 = [])))) := by
  apply turnInto h
  kernel_rfl

abbrev T.RecordAtomic : List Nat := [3, 3, 47]
theorem args_RecordAtomic {H : Heap} {us : List Value} (h : shpVs en H 7 T.RecordAtomic us) :
    (∃ (v10 : Value) (u11 : List Value), us = v10 :: u11 ∧ (∃ n : Int, [v10] = [.int .i64 n] ∧ (Lit.int .i64 n).wf = true) ∧ (∃ (v12 : Value) (u13 : List Value), u11 = v12 :: u13 ∧ (∃ n : Int, [v12] = [.int .i64 n] ∧ (Lit.int .i64 n).wf = true) ∧ (∃ (v14 : Value) (u15 : List Value), u13 = v14 :: u15 ∧ ([v14] = [.slice none 0 0] ∨ ∃ (i : Nat) (cs : List (List Value)), [v14] = [.slice (some ⟨i, 0, none⟩) cs.length 0] ∧ i < H.next ∧ H.get i = some (AS.Obj.cells false 0 cs.flatten) ∧ ∀ c16 ∈ cs, (∃ n : Int, c16 = [.int .i64 n] ∧ (Lit.int .i64 n).wf = true)) ∧ u15 = []))) := by
  apply turnInto h
  kernel_rfl

abbrev T.RingWhole : List Nat := [4, 4, 3, 3, 22]
theorem args_RingWhole {H : Heap} {us : List Value} (h : shpVs en H 7 T.RingWhole us) :
    (∃ (v17 : Value) (u18 : List Value), us = v17 :: u18 ∧ (∃ b : Bool, [v17] = [.bool b]) ∧ (∃ (v19 : Value) (u20 : List Value), u18 = v19 :: u20 ∧ (∃ b : Bool, [v19] = [.bool b]) ∧ (∃ (v21 : Value) (u22 : List Value), u20 = v21 :: u22 ∧ (∃ n : Int, [v21] = [.int .i64 n] ∧ (Lit.int .i64 n).wf = true) ∧ (∃ (v23 : Value) (u24 : List Value), u22 = v23 :: u24 ∧ (∃ n : Int, [v23] = [.int .i64 n] ∧ (Lit.int .i64 n).wf = true) ∧ (∃ (v25 : Value) (u26 : List Value), u24 = v25 :: u26 ∧ ([v25] = [.slice none 0 0] ∨ ∃ (i : Nat) (cs : List (List Value)), [v25] = [.slice (some ⟨i, 0, none⟩) cs.length 0] ∧ i < H.next ∧ H.get i = some (AS.Obj.cells false 0 cs.flatten) ∧ ∀ c27 ∈ cs, (∃ n : Int, c27 = [.int .u64 n] ∧ (Lit.int .u64 n).wf = true)) ∧ u26 = []))))) := by
  apply turnInto h
  kernel_rfl

abbrev T.RecordRuns : List Nat := [24, 64, 47]
theorem args_RecordRuns {H : Heap} {us : List Value} (h : shpVs en H 7 T.RecordRuns us) :
    (∃ (v28 : Value) (u29 : List Value), us = v28 :: u29 ∧ (∃ l30 : List Value, v28 = .agg ⟨l30⟩ ∧ (∃ (a31 b32 : List Value), l30 = a31 ++ b32 ∧ (∃ n : Int, a31 = [.int .i64 n] ∧ (Lit.int .i64 n).wf = true) ∧ (∃ (a33 b34 : List Value), b32 = a33 ++ b34 ∧ (∃ n : Int, a33 = [.int .i64 n] ∧ (Lit.int .i64 n).wf = true) ∧ (∃ (a35 b36 : List Value), b34 = a35 ++ b36 ∧ (∃ n : Int, a35 = [.int .i64 n] ∧ (Lit.int .i64 n).wf = true) ∧ (∃ (a37 b38 : List Value), b36 = a37 ++ b38 ∧ (∃ n : Int, a37 = [.int .i64 n] ∧ (Lit.int .i64 n).wf = true) ∧ (∃ (a39 b40 : List Value), b38 = a39 ++ b40 ∧ (∃ n : Int, a39 = [.int .i64 n] ∧ (Lit.int .i64 n).wf = true) ∧ b40 = [])))))) ∧ (∃ (v41 : Value) (u42 : List Value), u29 = v41 :: u42 ∧ ([v41] = [.slice none 0 0] ∨ ∃ (i : Nat) (cs : List (List Value)), [v41] = [.slice (some ⟨i, 0, none⟩) cs.length 0] ∧ i < H.next ∧ H.get i = some (AS.Obj.cells false 0 cs.flatten) ∧ ∀ c43 ∈ cs, (c43 = [.slice none 0 0] ∨ ∃ (i : Nat) (cs : List (List Value)), c43 = [.slice (some ⟨i, 0, none⟩) cs.length 0] ∧ i < H.next ∧ H.get i = some (AS.Obj.cells false 0 cs.flatten) ∧ ∀ c44 ∈ cs, (∃ (a45 b46 : List Value), c44 = a45 ++ b46 ∧ (∃ n : Int, a45 = [.int .i64 n] ∧ (Lit.int .i64 n).wf = true) ∧ (∃ (a47 b48 : List Value), b46 = a47 ++ b48 ∧ (∃ n : Int, a47 = [.int .u64 n] ∧ (Lit.int .u64 n).wf = true) ∧ (∃ (a49 b50 : List Value), b48 = a49 ++ b50 ∧ (a49 = [.slice none 0 0] ∨ ∃ (i : Nat) (cs : List (List Value)), a49 = [.slice (some ⟨i, 0, none⟩) cs.length 0] ∧ i < H.next ∧ H.get i = some (AS.Obj.cells false 0 cs.flatten) ∧ ∀ c51 ∈ cs, (∃ n : Int, c51 = [.int .u64 n] ∧ (Lit.int .u64 n).wf = true)) ∧ (∃ (a52 b53 : List Value), b50 = a52 ++ b53 ∧ (∃ n : Int, a52 = [.int .i64 n] ∧ (Lit.int .i64 n).wf = true) ∧ (∃ (a54 b55 : List Value), b53 = a54 ++ b55 ∧ (∃ n : Int, a54 = [.int .i64 n] ∧ (Lit.int .i64 n).wf = true) ∧ b55 = []))))))) ∧ (∃ (v56 : Value) (u57 : List Value), u42 = v56 :: u57 ∧ ([v56] = [.slice none 0 0] ∨ ∃ (i : Nat) (cs : List (List Value)), [v56] = [.slice (some ⟨i, 0, none⟩) cs.length 0] ∧ i < H.next ∧ H.get i = some (AS.Obj.cells false 0 cs.flatten) ∧ ∀ c58 ∈ cs, (∃ n : Int, c58 = [.int .i64 n] ∧ (Lit.int .i64 n).wf = true)) ∧ u57 = []))) := by
  apply turnInto h
  kernel_rfl
end Go.Proofs.Ytgpacebjbdhphaa
