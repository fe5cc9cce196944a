/-
  What functions of this seat's program need (printed by a program, checked by the kernel).
-/
import Derived.Test.YtlkmdcncpdadbaaNames
import Derived.Test.YtlkmdcncpdadbaaAs41
namespace Go.Proofs.Ytlkmdcncpdadbaa
open Go Go.AS Go.RowKit
set_option linter.unusedVariables false
set_option maxRecDepth 100000

/-! decl_Like -/

theorem vc_decl_Like (x0_0 : Int) (x0_1 : Int) (x0_2 : Int) (x0_3 : Int) (x0_4 : Int) (x1_0 : Int) (x1_1 : Int) (x1_2 : Int) (x1_3 : Int) (x1_4 : Int) (H : Heap) (R : Value → Heap → Prop) :
    (
 nwH H (.cells true 0 [(.int .i64 x0_0), (.int .i64 x0_1), (.int .i64 x0_2), (.int .i64 x0_3), (.int .i64 x0_4)]) fun i1 H2 =>
 nwH H2 (.cells true 0 [(.int .i64 x1_0), (.int .i64 x1_1), (.int .i64 x1_2), (.int .i64 x1_3), (.int .i64 x1_4)]) fun i3 H4 =>
 ∃ n5, ∃ n6, ∃ n7, ∃ n8, ∃ n9, H4.cellsAt i1 0 5 = some [(.int .i64 n5), (.int .i64 n6), (.int .i64 n7), (.int .i64 n8), (.int .i64 n9)] ∧
 ∃ n10, ∃ n11, ∃ n12, ∃ n13, ∃ n14, H4.cellsAt i3 0 5 = some [(.int .i64 n10), (.int .i64 n11), (.int .i64 n12), (.int .i64 n13), (.int .i64 n14)] ∧
 R (.bool ((n5 == n10) && ((n6 == n11) && ((n7 == n12) && ((n8 == n13) && (n9 == n14)))))) H4) →
    CA en F.decl_Like [(.agg #[(.int .i64 x0_0), (.int .i64 x0_1), (.int .i64 x0_2), (.int .i64 x0_3), (.int .i64 x0_4)]), (.agg #[(.int .i64 x1_0), (.int .i64 x1_1), (.int .i64 x1_2), (.int .i64 x1_3), (.int .i64 x1_4)])] H R := by
  intro h
  refine wpFn_ok (Z := []) (fn := Go.Proofs.Try.f21) ?_ ?_ ?_
  · kernel_rfl
  · kernel_rfl
  · apply turnInto h
    kernel_rfl


/-! crossbarref07_Like -/

theorem vc_crossbarref07_Like (x0_0 : Int) (x0_1 : Int) (x0_2 : Int) (x0_3 : Int) (x0_4 : Int) (x1_0 : Int) (x1_1 : Int) (x1_2 : Int) (x1_3 : Int) (x1_4 : Int) (H : Heap) (R : Value → Heap → Prop) :
    (
 nwH H (.cells true 0 [(.int .i64 x0_0), (.int .i64 x0_1), (.int .i64 x0_2), (.int .i64 x0_3), (.int .i64 x0_4)]) fun i1 H2 =>
 nwH H2 (.cells true 0 [(.int .i64 x1_0), (.int .i64 x1_1), (.int .i64 x1_2), (.int .i64 x1_3), (.int .i64 x1_4)]) fun i3 H4 =>
 ∃ n5, H4.cell i1 0 = some (.int .i64 n5) ∧
 ∃ n6, H4.cell i3 0 = some (.int .i64 n6) ∧
 bif (n5 == n6) then (
 ∃ n7, H4.cell i1 1 = some (.int .i64 n7) ∧
 ∃ n8, H4.cell i3 1 = some (.int .i64 n8) ∧
 bif (n7 == n8) then (
 ∃ n9, H4.cell i1 2 = some (.int .i64 n9) ∧
 ∃ n10, H4.cell i3 2 = some (.int .i64 n10) ∧
 bif (n9 == n10) then (
 ∃ n11, H4.cell i1 3 = some (.int .i64 n11) ∧
 ∃ n12, H4.cell i3 3 = some (.int .i64 n12) ∧
 bif (n11 == n12) then (
 ∃ n13, H4.cell i1 4 = some (.int .i64 n13) ∧
 ∃ n14, H4.cell i3 4 = some (.int .i64 n14) ∧
 R (.bool (n13 == n14)) H4)
 else (
 R (.bool false) H4))
 else (
 R (.bool false) H4))
 else (
 R (.bool false) H4))
 else (
 R (.bool false) H4)) →
    CA en F.crossbarref07_Like [(.agg #[(.int .i64 x0_0), (.int .i64 x0_1), (.int .i64 x0_2), (.int .i64 x0_3), (.int .i64 x0_4)]), (.agg #[(.int .i64 x1_0), (.int .i64 x1_1), (.int .i64 x1_2), (.int .i64 x1_3), (.int .i64 x1_4)])] H R := by
  intro h
  refine wpFn_ok (Z := []) (fn := Go.Proofs.Try.f22) ?_ ?_ ?_
  · kernel_rfl
  · kernel_rfl
  · apply turnInto h
    kernel_rfl


/-! decl_May -/

theorem vc_decl_May (x0 : Int) (x1 : Int) (H : Heap) (R : Value → Heap → Prop) :
    (
 CA en F.decl_kinds [(.int .i64 x0)] H fun v1 H2 =>
 ∃ n3, ∃ b4, ∃ b5, ∃ a6 i7, ∃ b8, ∃ b9, v1 = (.tuple #[(.agg #[(.int .i64 n3), (.bool b4), (.bool b5), (.slice a6 i7 0), (.bool b8)]), (.bool b9)]) ∧
 nwH H2 (.cells true 0 [(.int .i64 0), (.bool false), (.bool false), (.slice none 0 0), (.bool false)]) fun i10 H11 =>
 stc H11 i10 0 [(.int .i64 n3), (.bool b4), (.bool b5), (.slice a6 i7 0), (.bool b8)] fun H12 =>
 bif b9 then (
 ∃ a13 i14, H12.cell i10 3 = some (.slice a13 i14 0) ∧
 CA en F.slices_Contains_int_int [(.slice a13 i14 0), (.int .i64 x1)] H12 fun v15 H16 =>
 ∃ b17, v15 = (.bool b17) ∧
 R (.bool b17) H16)
 else (
 R (.bool false) H12)) →
    CA en F.decl_May [(.int .i64 x0), (.int .i64 x1)] H R := by
  intro h
  refine wpFn_ok (Z := []) (fn := Go.Proofs.Try.f23) ?_ ?_ ?_
  · kernel_rfl
  · kernel_rfl
  · apply turnInto h
    kernel_rfl


/-! crossbarref07_May -/

theorem vc_crossbarref07_May (x0 : Int) (x1 : Int) (H : Heap) (R : Value → Heap → Prop) :
    (
 bif (x0 == 1) then (
 bif (x0 == 4) then (
 bif (x0 == 6) then (
 bif (x1 == 1) then (
 R (.bool true) H)
 else (
 bif (x1 == 2) then (
 R (.bool true) H)
 else (
 bif (x1 == 4) then (
 R (.bool true) H)
 else (
 bif (x1 == 3) then (
 R (.bool true) H)
 else (
 bif (x1 == 5) then (
 R (.bool true) H)
 else (
 bif (x1 == 6) then (
 R (.bool true) H)
 else (
 bif (x1 == 8) then (
 R (.bool true) H)
 else (
 bif (x1 == 7) then (
 R (.bool true) H)
 else (
 R (.bool false) H)))))))))
 else (
 bif (x1 == 1) then (
 R (.bool true) H)
 else (
 bif (x1 == 2) then (
 R (.bool true) H)
 else (
 bif (x1 == 4) then (
 R (.bool true) H)
 else (
 bif (x1 == 3) then (
 R (.bool true) H)
 else (
 bif (x1 == 5) then (
 R (.bool true) H)
 else (
 bif (x1 == 6) then (
 bif (x0 == 7) then (
 R (.bool true) H)
 else (
 R (.bool (x0 == 8)) H))
 else (
 bif (x1 == 8) then (
 bif (x0 == 7) then (
 R (.bool true) H)
 else (
 R (.bool (x0 == 8)) H))
 else (
 bif (x1 == 7) then (
 R (.bool (x0 == 7)) H)
 else (
 R (.bool false) H))))))))))
 else (
 bif (x0 == 6) then (
 bif (x1 == 1) then (
 R (.bool true) H)
 else (
 bif (x1 == 2) then (
 R (.bool true) H)
 else (
 bif (x1 == 4) then (
 R (.bool true) H)
 else (
 bif (x1 == 3) then (
 bif (x0 == 5) then (
 R (.bool true) H)
 else (
 CA en F.crossbarref07_Nested [(.int .i64 x0)] H fun v1 H2 =>
 ∃ b3, v1 = (.bool b3) ∧
 R (.bool b3) H2))
 else (
 bif (x1 == 5) then (
 R (.bool (x0 == 5)) H)
 else (
 bif (x1 == 6) then (
 R (.bool true) H)
 else (
 bif (x1 == 8) then (
 R (.bool true) H)
 else (
 bif (x1 == 7) then (
 R (.bool true) H)
 else (
 R (.bool false) H)))))))))
 else (
 bif (x1 == 1) then (
 R (.bool true) H)
 else (
 bif (x1 == 2) then (
 R (.bool true) H)
 else (
 bif (x1 == 4) then (
 R (.bool true) H)
 else (
 bif (x1 == 3) then (
 bif (x0 == 5) then (
 R (.bool true) H)
 else (
 CA en F.crossbarref07_Nested [(.int .i64 x0)] H fun v4 H5 =>
 ∃ b6, v4 = (.bool b6) ∧
 R (.bool b6) H5))
 else (
 bif (x1 == 5) then (
 R (.bool (x0 == 5)) H)
 else (
 bif (x1 == 6) then (
 bif (x0 == 7) then (
 R (.bool true) H)
 else (
 R (.bool (x0 == 8)) H))
 else (
 bif (x1 == 8) then (
 bif (x0 == 7) then (
 R (.bool true) H)
 else (
 R (.bool (x0 == 8)) H))
 else (
 bif (x1 == 7) then (
 R (.bool (x0 == 7)) H)
 else (
 R (.bool false) H)))))))))))
 else (
 bif (x0 == 2) then (
 bif (x0 == 4) then (
 bif (x0 == 6) then (
 bif (x1 == 1) then (
 R (.bool true) H)
 else (
 bif (x1 == 2) then (
 R (.bool true) H)
 else (
 bif (x1 == 4) then (
 R (.bool true) H)
 else (
 bif (x1 == 3) then (
 R (.bool true) H)
 else (
 bif (x1 == 5) then (
 R (.bool true) H)
 else (
 bif (x1 == 6) then (
 R (.bool true) H)
 else (
 bif (x1 == 8) then (
 R (.bool true) H)
 else (
 bif (x1 == 7) then (
 R (.bool true) H)
 else (
 R (.bool false) H)))))))))
 else (
 bif (x1 == 1) then (
 R (.bool true) H)
 else (
 bif (x1 == 2) then (
 R (.bool true) H)
 else (
 bif (x1 == 4) then (
 R (.bool true) H)
 else (
 bif (x1 == 3) then (
 R (.bool true) H)
 else (
 bif (x1 == 5) then (
 R (.bool true) H)
 else (
 bif (x1 == 6) then (
 bif (x0 == 7) then (
 R (.bool true) H)
 else (
 R (.bool (x0 == 8)) H))
 else (
 bif (x1 == 8) then (
 bif (x0 == 7) then (
 R (.bool true) H)
 else (
 R (.bool (x0 == 8)) H))
 else (
 bif (x1 == 7) then (
 R (.bool (x0 == 7)) H)
 else (
 R (.bool false) H))))))))))
 else (
 bif (x0 == 6) then (
 bif (x1 == 1) then (
 R (.bool true) H)
 else (
 bif (x1 == 2) then (
 R (.bool true) H)
 else (
 bif (x1 == 4) then (
 R (.bool true) H)
 else (
 bif (x1 == 3) then (
 bif (x0 == 5) then (
 R (.bool true) H)
 else (
 CA en F.crossbarref07_Nested [(.int .i64 x0)] H fun v7 H8 =>
 ∃ b9, v7 = (.bool b9) ∧
 R (.bool b9) H8))
 else (
 bif (x1 == 5) then (
 R (.bool (x0 == 5)) H)
 else (
 bif (x1 == 6) then (
 R (.bool true) H)
 else (
 bif (x1 == 8) then (
 R (.bool true) H)
 else (
 bif (x1 == 7) then (
 R (.bool true) H)
 else (
 R (.bool false) H)))))))))
 else (
 bif (x1 == 1) then (
 R (.bool true) H)
 else (
 bif (x1 == 2) then (
 R (.bool true) H)
 else (
 bif (x1 == 4) then (
 R (.bool true) H)
 else (
 bif (x1 == 3) then (
 bif (x0 == 5) then (
 R (.bool true) H)
 else (
 CA en F.crossbarref07_Nested [(.int .i64 x0)] H fun v10 H11 =>
 ∃ b12, v10 = (.bool b12) ∧
 R (.bool b12) H11))
 else (
 bif (x1 == 5) then (
 R (.bool (x0 == 5)) H)
 else (
 bif (x1 == 6) then (
 bif (x0 == 7) then (
 R (.bool true) H)
 else (
 R (.bool (x0 == 8)) H))
 else (
 bif (x1 == 8) then (
 bif (x0 == 7) then (
 R (.bool true) H)
 else (
 R (.bool (x0 == 8)) H))
 else (
 bif (x1 == 7) then (
 R (.bool (x0 == 7)) H)
 else (
 R (.bool false) H)))))))))))
 else (
 bif (x0 == 4) then (
 bif (x0 == 6) then (
 bif (x1 == 1) then (
 bif (x0 == 3) then (
 R (.bool true) H)
 else (
 R (.bool true) H))
 else (
 bif (x1 == 2) then (
 bif (x0 == 3) then (
 R (.bool true) H)
 else (
 R (.bool true) H))
 else (
 bif (x1 == 4) then (
 bif (x0 == 3) then (
 R (.bool true) H)
 else (
 R (.bool true) H))
 else (
 bif (x1 == 3) then (
 R (.bool true) H)
 else (
 bif (x1 == 5) then (
 R (.bool true) H)
 else (
 bif (x1 == 6) then (
 R (.bool true) H)
 else (
 bif (x1 == 8) then (
 R (.bool true) H)
 else (
 bif (x1 == 7) then (
 R (.bool true) H)
 else (
 R (.bool false) H)))))))))
 else (
 bif (x1 == 1) then (
 bif (x0 == 3) then (
 R (.bool true) H)
 else (
 R (.bool true) H))
 else (
 bif (x1 == 2) then (
 bif (x0 == 3) then (
 R (.bool true) H)
 else (
 R (.bool true) H))
 else (
 bif (x1 == 4) then (
 bif (x0 == 3) then (
 R (.bool true) H)
 else (
 R (.bool true) H))
 else (
 bif (x1 == 3) then (
 R (.bool true) H)
 else (
 bif (x1 == 5) then (
 R (.bool true) H)
 else (
 bif (x1 == 6) then (
 bif (x0 == 7) then (
 R (.bool true) H)
 else (
 R (.bool (x0 == 8)) H))
 else (
 bif (x1 == 8) then (
 bif (x0 == 7) then (
 R (.bool true) H)
 else (
 R (.bool (x0 == 8)) H))
 else (
 bif (x1 == 7) then (
 R (.bool (x0 == 7)) H)
 else (
 R (.bool false) H))))))))))
 else (
 bif (x0 == 6) then (
 bif (x1 == 1) then (
 bif (x0 == 3) then (
 R (.bool true) H)
 else (
 bif (x0 == 5) then (
 R (.bool true) H)
 else (
 CA en F.crossbarref07_Nested [(.int .i64 x0)] H fun v13 H14 =>
 ∃ b15, v13 = (.bool b15) ∧
 R (.bool b15) H14)))
 else (
 bif (x1 == 2) then (
 bif (x0 == 3) then (
 R (.bool true) H)
 else (
 bif (x0 == 5) then (
 R (.bool true) H)
 else (
 CA en F.crossbarref07_Nested [(.int .i64 x0)] H fun v16 H17 =>
 ∃ b18, v16 = (.bool b18) ∧
 R (.bool b18) H17)))
 else (
 bif (x1 == 4) then (
 bif (x0 == 3) then (
 R (.bool true) H)
 else (
 bif (x0 == 5) then (
 R (.bool true) H)
 else (
 CA en F.crossbarref07_Nested [(.int .i64 x0)] H fun v19 H20 =>
 ∃ b21, v19 = (.bool b21) ∧
 R (.bool b21) H20)))
 else (
 bif (x1 == 3) then (
 bif (x0 == 5) then (
 R (.bool true) H)
 else (
 CA en F.crossbarref07_Nested [(.int .i64 x0)] H fun v22 H23 =>
 ∃ b24, v22 = (.bool b24) ∧
 R (.bool b24) H23))
 else (
 bif (x1 == 5) then (
 R (.bool (x0 == 5)) H)
 else (
 bif (x1 == 6) then (
 R (.bool true) H)
 else (
 bif (x1 == 8) then (
 R (.bool true) H)
 else (
 bif (x1 == 7) then (
 R (.bool true) H)
 else (
 R (.bool false) H)))))))))
 else (
 bif (x1 == 1) then (
 bif (x0 == 3) then (
 R (.bool true) H)
 else (
 bif (x0 == 5) then (
 R (.bool true) H)
 else (
 CA en F.crossbarref07_Nested [(.int .i64 x0)] H fun v25 H26 =>
 ∃ b27, v25 = (.bool b27) ∧
 R (.bool b27) H26)))
 else (
 bif (x1 == 2) then (
 bif (x0 == 3) then (
 R (.bool true) H)
 else (
 bif (x0 == 5) then (
 R (.bool true) H)
 else (
 CA en F.crossbarref07_Nested [(.int .i64 x0)] H fun v28 H29 =>
 ∃ b30, v28 = (.bool b30) ∧
 R (.bool b30) H29)))
 else (
 bif (x1 == 4) then (
 bif (x0 == 3) then (
 R (.bool true) H)
 else (
 bif (x0 == 5) then (
 R (.bool true) H)
 else (
 CA en F.crossbarref07_Nested [(.int .i64 x0)] H fun v31 H32 =>
 ∃ b33, v31 = (.bool b33) ∧
 R (.bool b33) H32)))
 else (
 bif (x1 == 3) then (
 bif (x0 == 5) then (
 R (.bool true) H)
 else (
 CA en F.crossbarref07_Nested [(.int .i64 x0)] H fun v34 H35 =>
 ∃ b36, v34 = (.bool b36) ∧
 R (.bool b36) H35))
 else (
 bif (x1 == 5) then (
 R (.bool (x0 == 5)) H)
 else (
 bif (x1 == 6) then (
 bif (x0 == 7) then (
 R (.bool true) H)
 else (
 R (.bool (x0 == 8)) H))
 else (
 bif (x1 == 8) then (
 bif (x0 == 7) then (
 R (.bool true) H)
 else (
 R (.bool (x0 == 8)) H))
 else (
 bif (x1 == 7) then (
 R (.bool (x0 == 7)) H)
 else (
 R (.bool false) H))))))))))))) →
    CA en F.crossbarref07_May [(.int .i64 x0), (.int .i64 x1)] H R := by
  intro h
  refine wpFn_ok (Z := []) (fn := Go.Proofs.Try.f24) ?_ ?_ ?_
  · kernel_rfl
  · kernel_rfl
  · apply turnInto h
    kernel_rfl


/-! crossbarref07_Nested -/

theorem vc_crossbarref07_Nested (x0 : Int) (H : Heap) (R : Value → Heap → Prop) :
    (
 bif (x0 == 9) then (
 R (.bool true) H)
 else (
 R (.bool (x0 == 10)) H)) →
    CA en F.crossbarref07_Nested [(.int .i64 x0)] H R := by
  intro h
  refine wpFn_ok (Z := []) (fn := Go.Proofs.Try.f43) ?_ ?_ ?_
  · kernel_rfl
  · kernel_rfl
  · apply turnInto h
    kernel_rfl


/-! crossbarlaw07_DeclTells -/

theorem vc_crossbarlaw07_DeclTells (x0_0 : Int) (x0_1 : Int) (x0_2 : Int) (x0_3 : Int) (x0_4 : Int) (x1_0 : Int) (x1_1 : Int) (x1_2 : Int) (x1_3 : Int) (x1_4 : Int) (x2 : Int) (x3 : Int) (x4 : Int) (H : Heap) (R : Value → Heap → Prop) :
    (
 nwH H (.cells true 0 [(.int .i64 x0_0), (.int .i64 x0_1), (.int .i64 x0_2), (.int .i64 x0_3), (.int .i64 x0_4)]) fun i1 H2 =>
 nwH H2 (.cells true 0 [(.int .i64 x1_0), (.int .i64 x1_1), (.int .i64 x1_2), (.int .i64 x1_3), (.int .i64 x1_4)]) fun i3 H4 =>
 CA en F.decl_Bloom [(.int .u64 x2), (.int .i64 x4)] H4 fun v5 H6 =>
 ∃ n7, ∃ n8, v5 = (.tuple #[(.int .i64 n7), (.int .u64 n8)]) ∧
 CA en F.crossbarref07_Bloom [(.int .u64 x2), (.int .i64 x4)] H6 fun v9 H10 =>
 ∃ n11, ∃ n12, v9 = (.tuple #[(.int .i64 n11), (.int .u64 n12)]) ∧
 ∃ n13, ∃ n14, ∃ n15, ∃ n16, ∃ n17, (H10.bump 63).cellsAt i1 0 5 = some [(.int .i64 n13), (.int .i64 n14), (.int .i64 n15), (.int .i64 n16), (.int .i64 n17)] ∧
 ∃ n18, ∃ n19, ∃ n20, ∃ n21, ∃ n22, (H10.bump 63).cellsAt i3 0 5 = some [(.int .i64 n18), (.int .i64 n19), (.int .i64 n20), (.int .i64 n21), (.int .i64 n22)] ∧
 CA en F.decl_Like [(.agg #[(.int .i64 n13), (.int .i64 n14), (.int .i64 n15), (.int .i64 n16), (.int .i64 n17)]), (.agg #[(.int .i64 n18), (.int .i64 n19), (.int .i64 n20), (.int .i64 n21), (.int .i64 n22)])] (H10.bump 63) fun v23 H24 =>
 ∃ b25, v23 = (.bool b25) ∧
 ∃ n26, ∃ n27, ∃ n28, ∃ n29, ∃ n30, H24.cellsAt i1 0 5 = some [(.int .i64 n26), (.int .i64 n27), (.int .i64 n28), (.int .i64 n29), (.int .i64 n30)] ∧
 ∃ n31, ∃ n32, ∃ n33, ∃ n34, ∃ n35, H24.cellsAt i3 0 5 = some [(.int .i64 n31), (.int .i64 n32), (.int .i64 n33), (.int .i64 n34), (.int .i64 n35)] ∧
 CA en F.crossbarref07_Like [(.agg #[(.int .i64 n26), (.int .i64 n27), (.int .i64 n28), (.int .i64 n29), (.int .i64 n30)]), (.agg #[(.int .i64 n31), (.int .i64 n32), (.int .i64 n33), (.int .i64 n34), (.int .i64 n35)])] H24 fun v36 H37 =>
 ∃ b38, v36 = (.bool b38) ∧
 bif (b25 == b38) then (
 ∃ n39, H37.cell i1 0 = some (.int .i64 n39) ∧
 CA en F.decl_May [(.int .i64 n39), (.int .i64 x4)] H37 fun v40 H41 =>
 ∃ b42, v40 = (.bool b42) ∧
 ∃ n43, H41.cell i1 0 = some (.int .i64 n43) ∧
 CA en F.crossbarref07_May [(.int .i64 n43), (.int .i64 x4)] H41 fun v44 H45 =>
 ∃ b46, v44 = (.bool b46) ∧
 bif (b42 == b46) then (
 ∃ n47, H45.cell i3 0 = some (.int .i64 n47) ∧
 CA en F.decl_May [(.int .i64 x4), (.int .i64 n47)] H45 fun v48 H49 =>
 ∃ b50, v48 = (.bool b50) ∧
 ∃ n51, H49.cell i3 0 = some (.int .i64 n51) ∧
 CA en F.crossbarref07_May [(.int .i64 x4), (.int .i64 n51)] H49 fun v52 H53 =>
 ∃ b54, v52 = (.bool b54) ∧
 bif (b50 == b54) then (
 CA en F.decl_Bucket [(.int .u64 x2), (.int .i64 x4)] H53 fun v55 H56 =>
 ∃ n57, v55 = (.int .i64 n57) ∧
 CA en F.crossbarref07_Bucket [(.int .u64 x2), (.int .i64 x4)] H56 fun v58 H59 =>
 ∃ n60, v58 = (.int .i64 n60) ∧
 bif (n57 == n60) then (
 ∃ n61, ∃ n62, ∃ n63, ∃ n64, ∃ n65, H59.cellsAt i1 0 5 = some [(.int .i64 n61), (.int .i64 n62), (.int .i64 n63), (.int .i64 n64), (.int .i64 n65)] ∧
 CA en F.decl_Ahead [(.agg #[(.int .i64 n61), (.int .i64 n62), (.int .i64 n63), (.int .i64 n64), (.int .i64 n65)]), (.int .u64 x2), (.int .u64 x3)] H59 fun v66 H67 =>
 ∃ b68, v66 = (.bool b68) ∧
 ∃ n69, ∃ n70, ∃ n71, ∃ n72, ∃ n73, H67.cellsAt i1 0 5 = some [(.int .i64 n69), (.int .i64 n70), (.int .i64 n71), (.int .i64 n72), (.int .i64 n73)] ∧
 CA en F.crossbarref07_Ahead [(.agg #[(.int .i64 n69), (.int .i64 n70), (.int .i64 n71), (.int .i64 n72), (.int .i64 n73)]), (.int .u64 x2), (.int .u64 x3)] H67 fun v74 H75 =>
 ∃ b76, v74 = (.bool b76) ∧
 bif (b68 == b76) then (
 bif (n7 == n11) then (
 bif (n8 == n12) then (
 CA en F.crossbarlaw07_works [] H75 fun v77 H78 =>
 ∃ b79, v77 = (.bool b79) ∧
 (
 R (.bool b79) H78) ∧
 ((∃ n85, ∃ n86, ∃ n87, ∃ n88, ∃ n89, H59.cellsAt i1 0 5 = some [(.int .i64 n85), (.int .i64 n86), (.int .i64 n87), (.int .i64 n88), (.int .i64 n89)] ∧
 sameN 8 (.agg #[(.int .i64 n69), (.int .i64 n70), (.int .i64 n71), (.int .i64 n72), (.int .i64 n73)]) (.agg #[(.int .i64 n85), (.int .i64 n86), (.int .i64 n87), (.int .i64 n88), (.int .i64 n89)]) = true) ∧ (∃ n80, ∃ n81, ∃ n82, ∃ n83, ∃ n84, H67.cellsAt i1 0 5 = some [(.int .i64 n80), (.int .i64 n81), (.int .i64 n82), (.int .i64 n83), (.int .i64 n84)] ∧
 sameN 8 (.agg #[(.int .i64 n69), (.int .i64 n70), (.int .i64 n71), (.int .i64 n72), (.int .i64 n73)]) (.agg #[(.int .i64 n80), (.int .i64 n81), (.int .i64 n82), (.int .i64 n83), (.int .i64 n84)]) = true) ∧ True) ∧
 ((∃ n91, H45.cell i3 0 = some (.int .i64 n91) ∧
 n51 = n91) ∧ (∃ n90, H49.cell i3 0 = some (.int .i64 n90) ∧
 n51 = n90) ∧ True) ∧
 ((∃ n93, H37.cell i1 0 = some (.int .i64 n93) ∧
 n43 = n93) ∧ (∃ n92, H41.cell i1 0 = some (.int .i64 n92) ∧
 n43 = n92) ∧ True) ∧
 ((∃ n99, ∃ n100, ∃ n101, ∃ n102, ∃ n103, (H10.bump 63).cellsAt i3 0 5 = some [(.int .i64 n99), (.int .i64 n100), (.int .i64 n101), (.int .i64 n102), (.int .i64 n103)] ∧
 sameN 8 (.agg #[(.int .i64 n31), (.int .i64 n32), (.int .i64 n33), (.int .i64 n34), (.int .i64 n35)]) (.agg #[(.int .i64 n99), (.int .i64 n100), (.int .i64 n101), (.int .i64 n102), (.int .i64 n103)]) = true) ∧ (∃ n94, ∃ n95, ∃ n96, ∃ n97, ∃ n98, H24.cellsAt i3 0 5 = some [(.int .i64 n94), (.int .i64 n95), (.int .i64 n96), (.int .i64 n97), (.int .i64 n98)] ∧
 sameN 8 (.agg #[(.int .i64 n31), (.int .i64 n32), (.int .i64 n33), (.int .i64 n34), (.int .i64 n35)]) (.agg #[(.int .i64 n94), (.int .i64 n95), (.int .i64 n96), (.int .i64 n97), (.int .i64 n98)]) = true) ∧ True) ∧
 ((∃ n109, ∃ n110, ∃ n111, ∃ n112, ∃ n113, (H10.bump 63).cellsAt i1 0 5 = some [(.int .i64 n109), (.int .i64 n110), (.int .i64 n111), (.int .i64 n112), (.int .i64 n113)] ∧
 sameN 8 (.agg #[(.int .i64 n26), (.int .i64 n27), (.int .i64 n28), (.int .i64 n29), (.int .i64 n30)]) (.agg #[(.int .i64 n109), (.int .i64 n110), (.int .i64 n111), (.int .i64 n112), (.int .i64 n113)]) = true) ∧ (∃ n104, ∃ n105, ∃ n106, ∃ n107, ∃ n108, H24.cellsAt i1 0 5 = some [(.int .i64 n104), (.int .i64 n105), (.int .i64 n106), (.int .i64 n107), (.int .i64 n108)] ∧
 sameN 8 (.agg #[(.int .i64 n26), (.int .i64 n27), (.int .i64 n28), (.int .i64 n29), (.int .i64 n30)]) (.agg #[(.int .i64 n104), (.int .i64 n105), (.int .i64 n106), (.int .i64 n107), (.int .i64 n108)]) = true) ∧ True) ∧
 True)
 else (
 (
 R (.bool false) H75) ∧
 ((∃ n119, ∃ n120, ∃ n121, ∃ n122, ∃ n123, H59.cellsAt i1 0 5 = some [(.int .i64 n119), (.int .i64 n120), (.int .i64 n121), (.int .i64 n122), (.int .i64 n123)] ∧
 sameN 8 (.agg #[(.int .i64 n69), (.int .i64 n70), (.int .i64 n71), (.int .i64 n72), (.int .i64 n73)]) (.agg #[(.int .i64 n119), (.int .i64 n120), (.int .i64 n121), (.int .i64 n122), (.int .i64 n123)]) = true) ∧ (∃ n114, ∃ n115, ∃ n116, ∃ n117, ∃ n118, H67.cellsAt i1 0 5 = some [(.int .i64 n114), (.int .i64 n115), (.int .i64 n116), (.int .i64 n117), (.int .i64 n118)] ∧
 sameN 8 (.agg #[(.int .i64 n69), (.int .i64 n70), (.int .i64 n71), (.int .i64 n72), (.int .i64 n73)]) (.agg #[(.int .i64 n114), (.int .i64 n115), (.int .i64 n116), (.int .i64 n117), (.int .i64 n118)]) = true) ∧ True) ∧
 ((∃ n125, H45.cell i3 0 = some (.int .i64 n125) ∧
 n51 = n125) ∧ (∃ n124, H49.cell i3 0 = some (.int .i64 n124) ∧
 n51 = n124) ∧ True) ∧
 ((∃ n127, H37.cell i1 0 = some (.int .i64 n127) ∧
 n43 = n127) ∧ (∃ n126, H41.cell i1 0 = some (.int .i64 n126) ∧
 n43 = n126) ∧ True) ∧
 ((∃ n133, ∃ n134, ∃ n135, ∃ n136, ∃ n137, (H10.bump 63).cellsAt i3 0 5 = some [(.int .i64 n133), (.int .i64 n134), (.int .i64 n135), (.int .i64 n136), (.int .i64 n137)] ∧
 sameN 8 (.agg #[(.int .i64 n31), (.int .i64 n32), (.int .i64 n33), (.int .i64 n34), (.int .i64 n35)]) (.agg #[(.int .i64 n133), (.int .i64 n134), (.int .i64 n135), (.int .i64 n136), (.int .i64 n137)]) = true) ∧ (∃ n128, ∃ n129, ∃ n130, ∃ n131, ∃ n132, H24.cellsAt i3 0 5 = some [(.int .i64 n128), (.int .i64 n129), (.int .i64 n130), (.int .i64 n131), (.int .i64 n132)] ∧
 sameN 8 (.agg #[(.int .i64 n31), (.int .i64 n32), (.int .i64 n33), (.int .i64 n34), (.int .i64 n35)]) (.agg #[(.int .i64 n128), (.int .i64 n129), (.int .i64 n130), (.int .i64 n131), (.int .i64 n132)]) = true) ∧ True) ∧
 ((∃ n143, ∃ n144, ∃ n145, ∃ n146, ∃ n147, (H10.bump 63).cellsAt i1 0 5 = some [(.int .i64 n143), (.int .i64 n144), (.int .i64 n145), (.int .i64 n146), (.int .i64 n147)] ∧
 sameN 8 (.agg #[(.int .i64 n26), (.int .i64 n27), (.int .i64 n28), (.int .i64 n29), (.int .i64 n30)]) (.agg #[(.int .i64 n143), (.int .i64 n144), (.int .i64 n145), (.int .i64 n146), (.int .i64 n147)]) = true) ∧ (∃ n138, ∃ n139, ∃ n140, ∃ n141, ∃ n142, H24.cellsAt i1 0 5 = some [(.int .i64 n138), (.int .i64 n139), (.int .i64 n140), (.int .i64 n141), (.int .i64 n142)] ∧
 sameN 8 (.agg #[(.int .i64 n26), (.int .i64 n27), (.int .i64 n28), (.int .i64 n29), (.int .i64 n30)]) (.agg #[(.int .i64 n138), (.int .i64 n139), (.int .i64 n140), (.int .i64 n141), (.int .i64 n142)]) = true) ∧ True) ∧
 True))
 else (
 (
 R (.bool false) H75) ∧
 ((∃ n153, ∃ n154, ∃ n155, ∃ n156, ∃ n157, H59.cellsAt i1 0 5 = some [(.int .i64 n153), (.int .i64 n154), (.int .i64 n155), (.int .i64 n156), (.int .i64 n157)] ∧
 sameN 8 (.agg #[(.int .i64 n69), (.int .i64 n70), (.int .i64 n71), (.int .i64 n72), (.int .i64 n73)]) (.agg #[(.int .i64 n153), (.int .i64 n154), (.int .i64 n155), (.int .i64 n156), (.int .i64 n157)]) = true) ∧ (∃ n148, ∃ n149, ∃ n150, ∃ n151, ∃ n152, H67.cellsAt i1 0 5 = some [(.int .i64 n148), (.int .i64 n149), (.int .i64 n150), (.int .i64 n151), (.int .i64 n152)] ∧
 sameN 8 (.agg #[(.int .i64 n69), (.int .i64 n70), (.int .i64 n71), (.int .i64 n72), (.int .i64 n73)]) (.agg #[(.int .i64 n148), (.int .i64 n149), (.int .i64 n150), (.int .i64 n151), (.int .i64 n152)]) = true) ∧ True) ∧
 ((∃ n159, H45.cell i3 0 = some (.int .i64 n159) ∧
 n51 = n159) ∧ (∃ n158, H49.cell i3 0 = some (.int .i64 n158) ∧
 n51 = n158) ∧ True) ∧
 ((∃ n161, H37.cell i1 0 = some (.int .i64 n161) ∧
 n43 = n161) ∧ (∃ n160, H41.cell i1 0 = some (.int .i64 n160) ∧
 n43 = n160) ∧ True) ∧
 ((∃ n167, ∃ n168, ∃ n169, ∃ n170, ∃ n171, (H10.bump 63).cellsAt i3 0 5 = some [(.int .i64 n167), (.int .i64 n168), (.int .i64 n169), (.int .i64 n170), (.int .i64 n171)] ∧
 sameN 8 (.agg #[(.int .i64 n31), (.int .i64 n32), (.int .i64 n33), (.int .i64 n34), (.int .i64 n35)]) (.agg #[(.int .i64 n167), (.int .i64 n168), (.int .i64 n169), (.int .i64 n170), (.int .i64 n171)]) = true) ∧ (∃ n162, ∃ n163, ∃ n164, ∃ n165, ∃ n166, H24.cellsAt i3 0 5 = some [(.int .i64 n162), (.int .i64 n163), (.int .i64 n164), (.int .i64 n165), (.int .i64 n166)] ∧
 sameN 8 (.agg #[(.int .i64 n31), (.int .i64 n32), (.int .i64 n33), (.int .i64 n34), (.int .i64 n35)]) (.agg #[(.int .i64 n162), (.int .i64 n163), (.int .i64 n164), (.int .i64 n165), (.int .i64 n166)]) = true) ∧ True) ∧
 ((∃ n177, ∃ n178, ∃ n179, ∃ n180, ∃ n181, (H10.bump 63).cellsAt i1 0 5 = some [(.int .i64 n177), (.int .i64 n178), (.int .i64 n179), (.int .i64 n180), (.int .i64 n181)] ∧
 sameN 8 (.agg #[(.int .i64 n26), (.int .i64 n27), (.int .i64 n28), (.int .i64 n29), (.int .i64 n30)]) (.agg #[(.int .i64 n177), (.int .i64 n178), (.int .i64 n179), (.int .i64 n180), (.int .i64 n181)]) = true) ∧ (∃ n172, ∃ n173, ∃ n174, ∃ n175, ∃ n176, H24.cellsAt i1 0 5 = some [(.int .i64 n172), (.int .i64 n173), (.int .i64 n174), (.int .i64 n175), (.int .i64 n176)] ∧
 sameN 8 (.agg #[(.int .i64 n26), (.int .i64 n27), (.int .i64 n28), (.int .i64 n29), (.int .i64 n30)]) (.agg #[(.int .i64 n172), (.int .i64 n173), (.int .i64 n174), (.int .i64 n175), (.int .i64 n176)]) = true) ∧ True) ∧
 True))
 else (
 (
 R (.bool false) H75) ∧
 ((∃ n187, ∃ n188, ∃ n189, ∃ n190, ∃ n191, H59.cellsAt i1 0 5 = some [(.int .i64 n187), (.int .i64 n188), (.int .i64 n189), (.int .i64 n190), (.int .i64 n191)] ∧
 sameN 8 (.agg #[(.int .i64 n69), (.int .i64 n70), (.int .i64 n71), (.int .i64 n72), (.int .i64 n73)]) (.agg #[(.int .i64 n187), (.int .i64 n188), (.int .i64 n189), (.int .i64 n190), (.int .i64 n191)]) = true) ∧ (∃ n182, ∃ n183, ∃ n184, ∃ n185, ∃ n186, H67.cellsAt i1 0 5 = some [(.int .i64 n182), (.int .i64 n183), (.int .i64 n184), (.int .i64 n185), (.int .i64 n186)] ∧
 sameN 8 (.agg #[(.int .i64 n69), (.int .i64 n70), (.int .i64 n71), (.int .i64 n72), (.int .i64 n73)]) (.agg #[(.int .i64 n182), (.int .i64 n183), (.int .i64 n184), (.int .i64 n185), (.int .i64 n186)]) = true) ∧ True) ∧
 ((∃ n193, H45.cell i3 0 = some (.int .i64 n193) ∧
 n51 = n193) ∧ (∃ n192, H49.cell i3 0 = some (.int .i64 n192) ∧
 n51 = n192) ∧ True) ∧
 ((∃ n195, H37.cell i1 0 = some (.int .i64 n195) ∧
 n43 = n195) ∧ (∃ n194, H41.cell i1 0 = some (.int .i64 n194) ∧
 n43 = n194) ∧ True) ∧
 ((∃ n201, ∃ n202, ∃ n203, ∃ n204, ∃ n205, (H10.bump 63).cellsAt i3 0 5 = some [(.int .i64 n201), (.int .i64 n202), (.int .i64 n203), (.int .i64 n204), (.int .i64 n205)] ∧
 sameN 8 (.agg #[(.int .i64 n31), (.int .i64 n32), (.int .i64 n33), (.int .i64 n34), (.int .i64 n35)]) (.agg #[(.int .i64 n201), (.int .i64 n202), (.int .i64 n203), (.int .i64 n204), (.int .i64 n205)]) = true) ∧ (∃ n196, ∃ n197, ∃ n198, ∃ n199, ∃ n200, H24.cellsAt i3 0 5 = some [(.int .i64 n196), (.int .i64 n197), (.int .i64 n198), (.int .i64 n199), (.int .i64 n200)] ∧
 sameN 8 (.agg #[(.int .i64 n31), (.int .i64 n32), (.int .i64 n33), (.int .i64 n34), (.int .i64 n35)]) (.agg #[(.int .i64 n196), (.int .i64 n197), (.int .i64 n198), (.int .i64 n199), (.int .i64 n200)]) = true) ∧ True) ∧
 ((∃ n211, ∃ n212, ∃ n213, ∃ n214, ∃ n215, (H10.bump 63).cellsAt i1 0 5 = some [(.int .i64 n211), (.int .i64 n212), (.int .i64 n213), (.int .i64 n214), (.int .i64 n215)] ∧
 sameN 8 (.agg #[(.int .i64 n26), (.int .i64 n27), (.int .i64 n28), (.int .i64 n29), (.int .i64 n30)]) (.agg #[(.int .i64 n211), (.int .i64 n212), (.int .i64 n213), (.int .i64 n214), (.int .i64 n215)]) = true) ∧ (∃ n206, ∃ n207, ∃ n208, ∃ n209, ∃ n210, H24.cellsAt i1 0 5 = some [(.int .i64 n206), (.int .i64 n207), (.int .i64 n208), (.int .i64 n209), (.int .i64 n210)] ∧
 sameN 8 (.agg #[(.int .i64 n26), (.int .i64 n27), (.int .i64 n28), (.int .i64 n29), (.int .i64 n30)]) (.agg #[(.int .i64 n206), (.int .i64 n207), (.int .i64 n208), (.int .i64 n209), (.int .i64 n210)]) = true) ∧ True) ∧
 True))
 else (
 (
 R (.bool false) H59) ∧
 ((∃ n217, H45.cell i3 0 = some (.int .i64 n217) ∧
 n51 = n217) ∧ (∃ n216, H49.cell i3 0 = some (.int .i64 n216) ∧
 n51 = n216) ∧ True) ∧
 ((∃ n219, H37.cell i1 0 = some (.int .i64 n219) ∧
 n43 = n219) ∧ (∃ n218, H41.cell i1 0 = some (.int .i64 n218) ∧
 n43 = n218) ∧ True) ∧
 ((∃ n225, ∃ n226, ∃ n227, ∃ n228, ∃ n229, (H10.bump 63).cellsAt i3 0 5 = some [(.int .i64 n225), (.int .i64 n226), (.int .i64 n227), (.int .i64 n228), (.int .i64 n229)] ∧
 sameN 8 (.agg #[(.int .i64 n31), (.int .i64 n32), (.int .i64 n33), (.int .i64 n34), (.int .i64 n35)]) (.agg #[(.int .i64 n225), (.int .i64 n226), (.int .i64 n227), (.int .i64 n228), (.int .i64 n229)]) = true) ∧ (∃ n220, ∃ n221, ∃ n222, ∃ n223, ∃ n224, H24.cellsAt i3 0 5 = some [(.int .i64 n220), (.int .i64 n221), (.int .i64 n222), (.int .i64 n223), (.int .i64 n224)] ∧
 sameN 8 (.agg #[(.int .i64 n31), (.int .i64 n32), (.int .i64 n33), (.int .i64 n34), (.int .i64 n35)]) (.agg #[(.int .i64 n220), (.int .i64 n221), (.int .i64 n222), (.int .i64 n223), (.int .i64 n224)]) = true) ∧ True) ∧
 ((∃ n235, ∃ n236, ∃ n237, ∃ n238, ∃ n239, (H10.bump 63).cellsAt i1 0 5 = some [(.int .i64 n235), (.int .i64 n236), (.int .i64 n237), (.int .i64 n238), (.int .i64 n239)] ∧
 sameN 8 (.agg #[(.int .i64 n26), (.int .i64 n27), (.int .i64 n28), (.int .i64 n29), (.int .i64 n30)]) (.agg #[(.int .i64 n235), (.int .i64 n236), (.int .i64 n237), (.int .i64 n238), (.int .i64 n239)]) = true) ∧ (∃ n230, ∃ n231, ∃ n232, ∃ n233, ∃ n234, H24.cellsAt i1 0 5 = some [(.int .i64 n230), (.int .i64 n231), (.int .i64 n232), (.int .i64 n233), (.int .i64 n234)] ∧
 sameN 8 (.agg #[(.int .i64 n26), (.int .i64 n27), (.int .i64 n28), (.int .i64 n29), (.int .i64 n30)]) (.agg #[(.int .i64 n230), (.int .i64 n231), (.int .i64 n232), (.int .i64 n233), (.int .i64 n234)]) = true) ∧ True) ∧
 True))
 else (
 (
 R (.bool false) H53) ∧
 ((∃ n241, H45.cell i3 0 = some (.int .i64 n241) ∧
 n51 = n241) ∧ (∃ n240, H49.cell i3 0 = some (.int .i64 n240) ∧
 n51 = n240) ∧ True) ∧
 ((∃ n243, H37.cell i1 0 = some (.int .i64 n243) ∧
 n43 = n243) ∧ (∃ n242, H41.cell i1 0 = some (.int .i64 n242) ∧
 n43 = n242) ∧ True) ∧
 ((∃ n249, ∃ n250, ∃ n251, ∃ n252, ∃ n253, (H10.bump 63).cellsAt i3 0 5 = some [(.int .i64 n249), (.int .i64 n250), (.int .i64 n251), (.int .i64 n252), (.int .i64 n253)] ∧
 sameN 8 (.agg #[(.int .i64 n31), (.int .i64 n32), (.int .i64 n33), (.int .i64 n34), (.int .i64 n35)]) (.agg #[(.int .i64 n249), (.int .i64 n250), (.int .i64 n251), (.int .i64 n252), (.int .i64 n253)]) = true) ∧ (∃ n244, ∃ n245, ∃ n246, ∃ n247, ∃ n248, H24.cellsAt i3 0 5 = some [(.int .i64 n244), (.int .i64 n245), (.int .i64 n246), (.int .i64 n247), (.int .i64 n248)] ∧
 sameN 8 (.agg #[(.int .i64 n31), (.int .i64 n32), (.int .i64 n33), (.int .i64 n34), (.int .i64 n35)]) (.agg #[(.int .i64 n244), (.int .i64 n245), (.int .i64 n246), (.int .i64 n247), (.int .i64 n248)]) = true) ∧ True) ∧
 ((∃ n259, ∃ n260, ∃ n261, ∃ n262, ∃ n263, (H10.bump 63).cellsAt i1 0 5 = some [(.int .i64 n259), (.int .i64 n260), (.int .i64 n261), (.int .i64 n262), (.int .i64 n263)] ∧
 sameN 8 (.agg #[(.int .i64 n26), (.int .i64 n27), (.int .i64 n28), (.int .i64 n29), (.int .i64 n30)]) (.agg #[(.int .i64 n259), (.int .i64 n260), (.int .i64 n261), (.int .i64 n262), (.int .i64 n263)]) = true) ∧ (∃ n254, ∃ n255, ∃ n256, ∃ n257, ∃ n258, H24.cellsAt i1 0 5 = some [(.int .i64 n254), (.int .i64 n255), (.int .i64 n256), (.int .i64 n257), (.int .i64 n258)] ∧
 sameN 8 (.agg #[(.int .i64 n26), (.int .i64 n27), (.int .i64 n28), (.int .i64 n29), (.int .i64 n30)]) (.agg #[(.int .i64 n254), (.int .i64 n255), (.int .i64 n256), (.int .i64 n257), (.int .i64 n258)]) = true) ∧ True) ∧
 True))
 else (
 (
 R (.bool false) H45) ∧
 ((∃ n265, H37.cell i1 0 = some (.int .i64 n265) ∧
 n43 = n265) ∧ (∃ n264, H41.cell i1 0 = some (.int .i64 n264) ∧
 n43 = n264) ∧ True) ∧
 ((∃ n271, ∃ n272, ∃ n273, ∃ n274, ∃ n275, (H10.bump 63).cellsAt i3 0 5 = some [(.int .i64 n271), (.int .i64 n272), (.int .i64 n273), (.int .i64 n274), (.int .i64 n275)] ∧
 sameN 8 (.agg #[(.int .i64 n31), (.int .i64 n32), (.int .i64 n33), (.int .i64 n34), (.int .i64 n35)]) (.agg #[(.int .i64 n271), (.int .i64 n272), (.int .i64 n273), (.int .i64 n274), (.int .i64 n275)]) = true) ∧ (∃ n266, ∃ n267, ∃ n268, ∃ n269, ∃ n270, H24.cellsAt i3 0 5 = some [(.int .i64 n266), (.int .i64 n267), (.int .i64 n268), (.int .i64 n269), (.int .i64 n270)] ∧
 sameN 8 (.agg #[(.int .i64 n31), (.int .i64 n32), (.int .i64 n33), (.int .i64 n34), (.int .i64 n35)]) (.agg #[(.int .i64 n266), (.int .i64 n267), (.int .i64 n268), (.int .i64 n269), (.int .i64 n270)]) = true) ∧ True) ∧
 ((∃ n281, ∃ n282, ∃ n283, ∃ n284, ∃ n285, (H10.bump 63).cellsAt i1 0 5 = some [(.int .i64 n281), (.int .i64 n282), (.int .i64 n283), (.int .i64 n284), (.int .i64 n285)] ∧
 sameN 8 (.agg #[(.int .i64 n26), (.int .i64 n27), (.int .i64 n28), (.int .i64 n29), (.int .i64 n30)]) (.agg #[(.int .i64 n281), (.int .i64 n282), (.int .i64 n283), (.int .i64 n284), (.int .i64 n285)]) = true) ∧ (∃ n276, ∃ n277, ∃ n278, ∃ n279, ∃ n280, H24.cellsAt i1 0 5 = some [(.int .i64 n276), (.int .i64 n277), (.int .i64 n278), (.int .i64 n279), (.int .i64 n280)] ∧
 sameN 8 (.agg #[(.int .i64 n26), (.int .i64 n27), (.int .i64 n28), (.int .i64 n29), (.int .i64 n30)]) (.agg #[(.int .i64 n276), (.int .i64 n277), (.int .i64 n278), (.int .i64 n279), (.int .i64 n280)]) = true) ∧ True) ∧
 True))
 else (
 (
 R (.bool false) H37) ∧
 ((∃ n291, ∃ n292, ∃ n293, ∃ n294, ∃ n295, (H10.bump 63).cellsAt i3 0 5 = some [(.int .i64 n291), (.int .i64 n292), (.int .i64 n293), (.int .i64 n294), (.int .i64 n295)] ∧
 sameN 8 (.agg #[(.int .i64 n31), (.int .i64 n32), (.int .i64 n33), (.int .i64 n34), (.int .i64 n35)]) (.agg #[(.int .i64 n291), (.int .i64 n292), (.int .i64 n293), (.int .i64 n294), (.int .i64 n295)]) = true) ∧ (∃ n286, ∃ n287, ∃ n288, ∃ n289, ∃ n290, H24.cellsAt i3 0 5 = some [(.int .i64 n286), (.int .i64 n287), (.int .i64 n288), (.int .i64 n289), (.int .i64 n290)] ∧
 sameN 8 (.agg #[(.int .i64 n31), (.int .i64 n32), (.int .i64 n33), (.int .i64 n34), (.int .i64 n35)]) (.agg #[(.int .i64 n286), (.int .i64 n287), (.int .i64 n288), (.int .i64 n289), (.int .i64 n290)]) = true) ∧ True) ∧
 ((∃ n301, ∃ n302, ∃ n303, ∃ n304, ∃ n305, (H10.bump 63).cellsAt i1 0 5 = some [(.int .i64 n301), (.int .i64 n302), (.int .i64 n303), (.int .i64 n304), (.int .i64 n305)] ∧
 sameN 8 (.agg #[(.int .i64 n26), (.int .i64 n27), (.int .i64 n28), (.int .i64 n29), (.int .i64 n30)]) (.agg #[(.int .i64 n301), (.int .i64 n302), (.int .i64 n303), (.int .i64 n304), (.int .i64 n305)]) = true) ∧ (∃ n296, ∃ n297, ∃ n298, ∃ n299, ∃ n300, H24.cellsAt i1 0 5 = some [(.int .i64 n296), (.int .i64 n297), (.int .i64 n298), (.int .i64 n299), (.int .i64 n300)] ∧
 sameN 8 (.agg #[(.int .i64 n26), (.int .i64 n27), (.int .i64 n28), (.int .i64 n29), (.int .i64 n30)]) (.agg #[(.int .i64 n296), (.int .i64 n297), (.int .i64 n298), (.int .i64 n299), (.int .i64 n300)]) = true) ∧ True) ∧
 True)) →
    CA en F.crossbarlaw07_DeclTells [(.agg #[(.int .i64 x0_0), (.int .i64 x0_1), (.int .i64 x0_2), (.int .i64 x0_3), (.int .i64 x0_4)]), (.agg #[(.int .i64 x1_0), (.int .i64 x1_1), (.int .i64 x1_2), (.int .i64 x1_3), (.int .i64 x1_4)]), (.int .u64 x2), (.int .u64 x3), (.int .i64 x4)] H R := by
  intro h
  refine wpFn_ok (Z := []) (fn := Go.Proofs.Try.f6) ?_ ?_ ?_
  · kernel_rfl
  · kernel_rfl
  · apply turnInto h
    kernel_rfl

end Go.Proofs.Ytlkmdcncpdadbaa
