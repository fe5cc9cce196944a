/-
  What functions of this seat's program need (printed by a program, checked by the kernel).
-/
import Derived.Test.YtgpacebjbdhphaaNames
import Derived.Test.YtgpacebjbdhphaaAs41
namespace Go.Proofs.Ytgpacebjbdhphaa
open Go Go.AS Go.RowKit
set_option linter.unusedVariables false
set_option maxRecDepth 100000
set_option maxHeartbeats 2000000

/-! decl_kinds -/

theorem vc_decl_kinds (x0 : Int) (H : Heap) (R : Value → Heap → Prop) :
    (
 nwH H (.cells true 0 [(.int .i64 0), (.bool false), (.bool false), (.slice none 0 0), (.bool false)]) fun i1 H2 =>
 nwH H2 (.cells true 1 [(.int .i64 1), (.int .i64 2), (.int .i64 4)]) fun i3 H4 =>
 nwH H4 (.cells true 1 [(.int .i64 6), (.int .i64 7), (.int .i64 8)]) fun i5 H6 =>
 nwH H6 (.cells true 1 [(.int .i64 3), (.int .i64 5)]) fun i7 H8 =>
 ∃ l9, rowOf H8 1 (some ⟨i3, 0, none⟩) 3 = some l9 ∧
 apd H8 8 1 (some ⟨i7, 0, none⟩) 2 3 l9 fun a10 i11 H12 =>
 nwH H12 (.cells true 1 [(.int .i64 3)]) fun i13 H14 =>
 ∃ l15, rowOf H14 1 (some ⟨i3, 0, none⟩) 3 = some l15 ∧
 apd H14 8 1 (some ⟨i13, 0, none⟩) 1 3 l15 fun a16 i17 H18 =>
 nwH H18 (.cells true 1 [(.int .i64 6), (.int .i64 8)]) fun i19 H20 =>
 nwH H20 (.cells true 0 [(.int .i64 0), (.bool false), (.bool false), (.slice none 0 0), (.bool false), (.int .i64 0), (.bool false), (.bool false), (.slice none 0 0), (.bool false), (.int .i64 0), (.bool false), (.bool false), (.slice none 0 0), (.bool false), (.int .i64 0), (.bool false), (.bool false), (.slice none 0 0), (.bool false), (.int .i64 0), (.bool false), (.bool false), (.slice none 0 0), (.bool false), (.int .i64 0), (.bool false), (.bool false), (.slice none 0 0), (.bool false), (.int .i64 0), (.bool false), (.bool false), (.slice none 0 0), (.bool false), (.int .i64 0), (.bool false), (.bool false), (.slice none 0 0), (.bool false), (.int .i64 0), (.bool false), (.bool false), (.slice none 0 0), (.bool false), (.int .i64 0), (.bool false), (.bool false), (.slice none 0 0), (.bool false), (.int .i64 0), (.bool false), (.bool false), (.slice none 0 0), (.bool false)]) fun i21 H22 =>
 stc H22 i21 0 [(.int .i64 0), (.bool false), (.bool false), (.slice none 0 0), (.bool false), (.int .i64 1), (.bool false), (.bool false), (.slice (some ⟨i3, 0, none⟩) 3 0), (.bool false), (.int .i64 1), (.bool false), (.bool false), (.slice (some ⟨i3, 0, none⟩) 3 0), (.bool false), (.int .i64 4), (.bool false), (.bool false), (.slice (some ⟨i3, 0, none⟩) 3 0), (.bool false), (.int .i64 1), (.bool true), (.bool false), (.slice a10 i11 0), (.bool true), (.int .i64 1), (.bool false), (.bool false), (.slice a10 i11 0), (.bool false), (.int .i64 4), (.bool false), (.bool false), (.slice (some ⟨i5, 0, none⟩) 3 0), (.bool false), (.int .i64 4), (.bool false), (.bool false), (.slice (some ⟨i5, 0, none⟩) 3 0), (.bool false), (.int .i64 1), (.bool true), (.bool false), (.slice (some ⟨i19, 0, none⟩) 2 0), (.bool false), (.int .i64 1), (.bool false), (.bool true), (.slice a16 i17 0), (.bool false), (.int .i64 1), (.bool true), (.bool true), (.slice a16 i17 0), (.bool true)] fun H23 =>
 bif (decide (x0 < 1)) then (
 stc H23 i1 0 [(.int .i64 0), (.bool false), (.bool false), (.slice none 0 0), (.bool false)] fun H24 =>
 ∃ n25, ∃ b26, ∃ b27, ∃ a28 i29, ∃ b30, H24.cellsAt i1 0 5 = some [(.int .i64 n25), (.bool b26), (.bool b27), (.slice a28 i29 0), (.bool b30)] ∧
 R (.tuple #[(.agg #[(.int .i64 n25), (.bool b26), (.bool b27), (.slice a28 i29 0), (.bool b30)]), (.bool false)]) H24)
 else (
 bif (decide (x0 ≥ 11)) then (
 stc H23 i1 0 [(.int .i64 0), (.bool false), (.bool false), (.slice none 0 0), (.bool false)] fun H31 =>
 ∃ n32, ∃ b33, ∃ b34, ∃ a35 i36, ∃ b37, H31.cellsAt i1 0 5 = some [(.int .i64 n32), (.bool b33), (.bool b34), (.slice a35 i36 0), (.bool b37)] ∧
 R (.tuple #[(.agg #[(.int .i64 n32), (.bool b33), (.bool b34), (.slice a35 i36 0), (.bool b37)]), (.bool false)]) H31)
 else (
 inB x0 11 ∧
 ∃ n38, ∃ b39, ∃ b40, ∃ a41 i42, ∃ b43, H23.cellsAt i21 (0 + (x0.toNat * 5)) 5 = some [(.int .i64 n38), (.bool b39), (.bool b40), (.slice a41 i42 0), (.bool b43)] ∧
 stc H23 i1 0 [(.int .i64 n38), (.bool b39), (.bool b40), (.slice a41 i42 0), (.bool b43)] fun H44 =>
 ∃ n45, ∃ b46, ∃ b47, ∃ a48 i49, ∃ b50, H44.cellsAt i1 0 5 = some [(.int .i64 n45), (.bool b46), (.bool b47), (.slice a48 i49 0), (.bool b50)] ∧
 R (.tuple #[(.agg #[(.int .i64 n45), (.bool b46), (.bool b47), (.slice a48 i49 0), (.bool b50)]), (.bool true)]) H44))) →
    CA en F.decl_kinds [(.int .i64 x0)] H R := by
  intro h
  refine wpFn_ok (Z := []) (fn := Go.Proofs.Try.f89) ?_ ?_ ?_
  · kernel_rfl
  · kernel_rfl
  · apply turnInto h
    kernel_rfl


/-! decl_within -/

theorem vc_decl_within (x0 : Int) (x1 : Int) (H : Heap) (R : Value → Heap → Prop) :
    (
 bif (decide (x0 ≥ 1)) then (
 R (.bool (decide (x0 ≤ x1))) H)
 else (
 R (.bool false) H)) →
    CA en F.decl_within [(.int .i64 x0), (.int .i64 x1)] H R := by
  intro h
  refine wpFn_ok (Z := []) (fn := Go.Proofs.Try.f90) ?_ ?_ ?_
  · kernel_rfl
  · kernel_rfl
  · apply turnInto h
    kernel_rfl

end Go.Proofs.Ytgpacebjbdhphaa
