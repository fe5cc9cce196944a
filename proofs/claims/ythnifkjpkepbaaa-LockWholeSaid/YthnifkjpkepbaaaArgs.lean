/-
  What the shapes of the laws' arguments say (printed by a program, checked by the kernel).
-/
import Derived.Test.YthnifkjpkepbaaaNames
import Derived.Test.YthnifkjpkepbaaaAs31
namespace Go.Proofs.Ythnifkjpkepbaaa
open Go Go.AS Go.RowKit
set_option linter.unusedVariables false
set_option maxRecDepth 100000

abbrev T.LockTurns : List Nat := [3, 3, 22]
theorem args_LockTurns {H : Heap} {us : List Value} (h : shpVs en H 7 T.LockTurns us) :
    (∃ (v1 : Value) (u2 : List Value), us = v1 :: u2 ∧ (∃ n : Int, [v1] = [.int .i64 n] ∧ (Lit.int .i64 n).wf = true) ∧ (∃ (v3 : Value) (u4 : List Value), u2 = v3 :: u4 ∧ (∃ n : Int, [v3] = [.int .i64 n] ∧ (Lit.int .i64 n).wf = true) ∧ (∃ (v5 : Value) (u6 : List Value), u4 = v5 :: u6 ∧ ([v5] = [.slice none 0 0] ∨ ∃ (i : Nat) (cs : List (List Value)), [v5] = [.slice (some ⟨i, 0, none⟩) cs.length 0] ∧ i < H.next ∧ H.get i = some (AS.Obj.cells false 0 cs.flatten) ∧ ∀ c7 ∈ cs, (∃ n : Int, c7 = [.int .i64 n] ∧ (Lit.int .i64 n).wf = true)) ∧ u6 = []))) := by
  apply turnInto h
  kernel_rfl

abbrev T.LockBound : List Nat := [3, 3, 3]
theorem args_LockBound {H : Heap} {us : List Value} (h : shpVs en H 7 T.LockBound us) :
    (∃ (v8 : Value) (u9 : List Value), us = v8 :: u9 ∧ (∃ n : Int, [v8] = [.int .i64 n] ∧ (Lit.int .i64 n).wf = true) ∧ (∃ (v10 : Value) (u11 : List Value), u9 = v10 :: u11 ∧ (∃ n : Int, [v10] = [.int .i64 n] ∧ (Lit.int .i64 n).wf = true) ∧ (∃ (v12 : Value) (u13 : List Value), u11 = v12 :: u13 ∧ (∃ n : Int, [v12] = [.int .i64 n] ∧ (Lit.int .i64 n).wf = true) ∧ u13 = []))) := by
  apply turnInto h
  kernel_rfl

abbrev T.LockWhole : List Nat := [3, 3, 22]
theorem args_LockWhole {H : Heap} {us : List Value} (h : shpVs en H 7 T.LockWhole us) :
    (∃ (v14 : Value) (u15 : List Value), us = v14 :: u15 ∧ (∃ n : Int, [v14] = [.int .i64 n] ∧ (Lit.int .i64 n).wf = true) ∧ (∃ (v16 : Value) (u17 : List Value), u15 = v16 :: u17 ∧ (∃ n : Int, [v16] = [.int .i64 n] ∧ (Lit.int .i64 n).wf = true) ∧ (∃ (v18 : Value) (u19 : List Value), u17 = v18 :: u19 ∧ ([v18] = [.slice none 0 0] ∨ ∃ (i : Nat) (cs : List (List Value)), [v18] = [.slice (some ⟨i, 0, none⟩) cs.length 0] ∧ i < H.next ∧ H.get i = some (AS.Obj.cells false 0 cs.flatten) ∧ ∀ c20 ∈ cs, (∃ n : Int, c20 = [.int .i64 n] ∧ (Lit.int .i64 n).wf = true)) ∧ u19 = []))) := by
  apply turnInto h
  kernel_rfl

abbrev T.ArrayCells : List Nat := [4, 3, 3, 3, 34]
theorem args_ArrayCells {H : Heap} {us : List Value} (h : shpVs en H 7 T.ArrayCells us) :
    (∃ (v21 : Value) (u22 : List Value), us = v21 :: u22 ∧ (∃ b : Bool, [v21] = [.bool b]) ∧ (∃ (v23 : Value) (u24 : List Value), u22 = v23 :: u24 ∧ (∃ n : Int, [v23] = [.int .i64 n] ∧ (Lit.int .i64 n).wf = true) ∧ (∃ (v25 : Value) (u26 : List Value), u24 = v25 :: u26 ∧ (∃ n : Int, [v25] = [.int .i64 n] ∧ (Lit.int .i64 n).wf = true) ∧ (∃ (v27 : Value) (u28 : List Value), u26 = v27 :: u28 ∧ (∃ n : Int, [v27] = [.int .i64 n] ∧ (Lit.int .i64 n).wf = true) ∧ (∃ (v29 : Value) (u30 : List Value), u28 = v29 :: u30 ∧ (∃ n : Int, [v29] = [.int .u64 n] ∧ (Lit.int .u64 n).wf = true) ∧ u30 = []))))) := by
  apply turnInto h
  kernel_rfl

abbrev T.ArrayAgrees : List Nat := [60]
theorem args_ArrayAgrees {H : Heap} {us : List Value} (h : shpVs en H 7 T.ArrayAgrees us) :
    (∃ (v31 : Value) (u32 : List Value), us = v31 :: u32 ∧ (∃ l33 : List Value, v31 = .agg ⟨l33⟩ ∧ (∃ (a34 b35 : List Value), l33 = a34 ++ b35 ∧ (∃ n : Int, a34 = [.int .i64 n] ∧ (Lit.int .i64 n).wf = true) ∧ (∃ (a36 b37 : List Value), b35 = a36 ++ b37 ∧ (∃ n : Int, a36 = [.int .i64 n] ∧ (Lit.int .i64 n).wf = true) ∧ (∃ (a38 b39 : List Value), b37 = a38 ++ b39 ∧ (∃ n : Int, a38 = [.int .i64 n] ∧ (Lit.int .i64 n).wf = true) ∧ (∃ (a40 b41 : List Value), b39 = a40 ++ b41 ∧ (a40 = [.slice none 0 0] ∨ ∃ (i : Nat) (cs : List (List Value)), a40 = [.slice (some ⟨i, 0, none⟩) cs.length 0] ∧ i < H.next ∧ H.get i = some (AS.Obj.cells false 0 cs.flatten) ∧ ∀ c42 ∈ cs, (c42 = [.slice none 0 0] ∨ ∃ (i : Nat) (cs : List (List Value)), c42 = [.slice (some ⟨i, 0, none⟩) cs.length 0] ∧ i < H.next ∧ H.get i = some (AS.Obj.cells false 0 cs.flatten) ∧ ∀ c43 ∈ cs, (∃ (a44 b45 : List Value), c43 = a44 ++ b45 ∧ (∃ n : Int, a44 = [.int .i64 n] ∧ (Lit.int .i64 n).wf = true) ∧ (∃ (a46 b47 : List Value), b45 = a46 ++ b47 ∧ (∃ (a48 b49 : List Value), a46 = a48 ++ b49 ∧ (∃ n : Int, a48 = [.int .i64 n] ∧ (Lit.int .i64 n).wf = true) ∧ (∃ (a50 b51 : List Value), b49 = a50 ++ b51 ∧ (∃ n : Int, a50 = [.int .u64 n] ∧ (Lit.int .u64 n).wf = true) ∧ (∃ (a52 b53 : List Value), b51 = a52 ++ b53 ∧ (a52 = [.slice none 0 0] ∨ ∃ (i : Nat) (cs : List (List Value)), a52 = [.slice (some ⟨i, 0, none⟩) cs.length 0] ∧ i < H.next ∧ H.get i = some (AS.Obj.cells false 0 cs.flatten) ∧ ∀ c54 ∈ cs, (∃ n : Int, c54 = [.int .u64 n] ∧ (Lit.int .u64 n).wf = true)) ∧ (∃ (a55 b56 : List Value), b53 = a55 ++ b56 ∧ (∃ n : Int, a55 = [.int .i64 n] ∧ (Lit.int .i64 n).wf = true) ∧ (∃ (a57 b58 : List Value), b56 = a57 ++ b58 ∧ (∃ n : Int, a57 = [.int .i64 n] ∧ (Lit.int .i64 n).wf = true) ∧ b58 = []))))) ∧ (∃ (a59 b60 : List Value), b47 = a59 ++ b60 ∧ (∃ n : Int, a59 = [.int .u64 n] ∧ (Lit.int .u64 n).wf = true) ∧ b60 = []))))) ∧ (∃ (a61 b62 : List Value), b41 = a61 ++ b62 ∧ (a61 = [.slice none 0 0] ∨ ∃ (i : Nat) (cs : List (List Value)), a61 = [.slice (some ⟨i, 0, none⟩) cs.length 0] ∧ i < H.next ∧ H.get i = some (AS.Obj.cells false 0 cs.flatten) ∧ ∀ c63 ∈ cs, (∃ n : Int, c63 = [.int .i64 n] ∧ (Lit.int .i64 n).wf = true)) ∧ b62 = [])))))) ∧ u32 = []) := by
  apply turnInto h
  kernel_rfl
end Go.Proofs.Ythnifkjpkepbaaa
