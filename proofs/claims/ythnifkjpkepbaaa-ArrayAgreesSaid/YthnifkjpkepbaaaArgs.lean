/-
  What the shapes of the laws' arguments say (printed by a program, checked by the kernel).
-/
import Derived.Test.YthnifkjpkepbaaaNames
import Derived.Test.YthnifkjpkepbaaaAs31
namespace Go.Proofs.Ythnifkjpkepbaaa
open Go Go.AS Go.RowKit
set_option linter.unusedVariables false
set_option maxRecDepth 100000

abbrev T.ArrayCells : List Nat := [4, 3, 3, 3, 34]
theorem args_ArrayCells {H : Heap} {us : List Value} (h : shpVs en H 7 T.ArrayCells us) :
    (∃ (v1 : Value) (u2 : List Value), us = v1 :: u2 ∧ (∃ b : Bool, [v1] = [.bool b]) ∧ (∃ (v3 : Value) (u4 : List Value), u2 = v3 :: u4 ∧ (∃ n : Int, [v3] = [.int .i64 n] ∧ (Lit.int .i64 n).wf = true) ∧ (∃ (v5 : Value) (u6 : List Value), u4 = v5 :: u6 ∧ (∃ n : Int, [v5] = [.int .i64 n] ∧ (Lit.int .i64 n).wf = true) ∧ (∃ (v7 : Value) (u8 : List Value), u6 = v7 :: u8 ∧ (∃ n : Int, [v7] = [.int .i64 n] ∧ (Lit.int .i64 n).wf = true) ∧ (∃ (v9 : Value) (u10 : List Value), u8 = v9 :: u10 ∧ (∃ n : Int, [v9] = [.int .u64 n] ∧ (Lit.int .u64 n).wf = true) ∧ u10 = []))))) := by
  apply turnInto h
  kernel_rfl
end Go.Proofs.Ythnifkjpkepbaaa
