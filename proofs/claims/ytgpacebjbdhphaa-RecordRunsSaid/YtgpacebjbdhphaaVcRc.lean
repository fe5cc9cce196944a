/-
  What functions of this seat's program need (printed by a program, checked by the kernel).
-/
import Derived.Test.YtgpacebjbdhphaaNames
import Derived.Test.YtgpacebjbdhphaaAs41
namespace Go.Proofs.Ytgpacebjbdhphaa
open Go Go.AS Go.RowKit
set_option linter.unusedVariables false
set_option maxRecDepth 100000
set_option maxHeartbeats 2000000

/-! record_Map_Begin -/

theorem vc_record_Map_Begin (x0 : Option Addr) (x1_0 : Int) (x1_1 : Int) (x1_2 : Option Addr) (x1_2l : Nat) (x1_3 : Int) (x1_4 : Int) (H : Heap) (R : Value → Heap → Prop) :
    (
 nwH H (.cells true 0 [(.int .i64 x1_0), (.int .u64 x1_1), (.slice x1_2 x1_2l 0), (.int .i64 x1_3), (.int .i64 x1_4)]) fun i1 H2 =>
 ∃ n3, ∃ n4, ∃ a5 i6, ∃ n7, ∃ n8, H2.cellsAt i1 0 5 = some [(.int .i64 n3), (.int .u64 n4), (.slice a5 i6 0), (.int .i64 n7), (.int .i64 n8)] ∧
 nwH H2 (.cells true 0 [(.pointer x0), (.int .i64 n3), (.int .u64 n4), (.slice a5 i6 0), (.int .i64 n7), (.int .i64 n8), (.int .i64 0), (.slice none 0 0), (.int .u64 0), (.int .i64 0), .nilFunc, (.pointer none), (.int .i64 0), (.int .i64 0), (.int .u64 0)]) fun i9 H10 =>
 ∃ n11, (H10.bump 10).cell i1 1 = some (.int .u64 n11) ∧
 AS.asAddr (.pointer x0) fun i12 i13 =>
 ∃ n14, (H10.bump 10).cell i12 ((i13 + 1) + 1) = some (.int .i64 n14) ∧
 (
 ∃ n15, (H10.bump 10).cell i1 0 = some (.int .i64 n15) ∧
 bif (n15 == 4) then (
 ∃ n16, ∃ n17, ∃ a18 i19, ∃ n20, ∃ n21, (H10.bump 10).cellsAt i1 0 5 = some [(.int .i64 n16), (.int .u64 n17), (.slice a18 i19 0), (.int .i64 n20), (.int .i64 n21)] ∧
 CA en F.record_Map_behind [(.pointer x0), (.agg #[(.int .i64 n16), (.int .u64 n17), (.slice a18 i19 0), (.int .i64 n20), (.int .i64 n21)])] (H10.bump 10) fun v22 H23 =>
 ∃ n24, ∃ a25 i26, ∃ n27, ∃ n28, v22 = (.agg #[(.int .i64 n24), (.slice a25 i26 0), (.int .u64 n27), (.int .i64 n28)]) ∧
 CA en F.record_Run_now [(.pointer (some ⟨i9, 0, none⟩)), (.agg #[(.int .i64 n24), (.slice a25 i26 0), (.int .u64 n27), (.int .i64 n28)])] H23 fun v29 H30 =>
 v29 = undef ∧
 R (.pointer (some ⟨i9, 0, none⟩)) H30)
 else (
 bif (!(decide (n11 < (IntKind.u64.wrap n14)))) then (
 ∃ n31, (H10.bump 10).cell i1 0 = some (.int .i64 n31) ∧
 bif (n31 == 1) then (
 CA en F.record_Run_now [(.pointer (some ⟨i9, 0, none⟩)), (.agg #[(.int .i64 2), (.slice none 0 0), (.int .u64 0), (.int .i64 0)])] (H10.bump 10) fun v32 H33 =>
 v32 = undef ∧
 R (.pointer (some ⟨i9, 0, none⟩)) H33)
 else (
 bif (!(decide (n11 < (IntKind.u64.wrap n14)))) then (
 CA en F.record_Run_now [(.pointer (some ⟨i9, 0, none⟩)), (.agg #[(.int .i64 4), (.slice none 0 0), (.int .u64 0), (.int .i64 0)])] (H10.bump 10) fun v34 H35 =>
 v34 = undef ∧
 R (.pointer (some ⟨i9, 0, none⟩)) H35)
 else (
 ∃ n36, (H10.bump 10).cell i1 0 = some (.int .i64 n36) ∧
 bif (n36 == 1) then (
 ∃ n37, ((H10.bump 10).bump 20).cell i1 1 = some (.int .u64 n37) ∧
 AS.asAddr (.pointer x0) fun i38 i39 =>
 ∃ n40, ((H10.bump 10).bump 20).cell i38 ((i39 + 1) + 2) = some (.int .i64 n40) ∧
 stc ((H10.bump 10).bump 20) i9 12 [(.int .i64 (IntKind.i64.wrap ((IntKind.i64.wrap n37) * (IntKind.i64.wrap (3 + n40)))))] fun H41 =>
 stc H41 i9 10 [(.func (.func F.record_Run_look) #[(.pointer (some ⟨i9, 0, none⟩))] #[])] fun H42 =>
 (
 R (.pointer (some ⟨i9, 0, none⟩)) H42) ∧
 True)
 else (
 ∃ n43, (H10.bump 10).cell i1 3 = some (.int .i64 n43) ∧
 bif (n43 == 1) then (
 CA en F.record_Run_now [(.pointer (some ⟨i9, 0, none⟩)), (.agg #[(.int .i64 3), (.slice none 0 0), (.int .u64 0), (.int .i64 0)])] (H10.bump 10) fun v44 H45 =>
 v44 = undef ∧
 R (.pointer (some ⟨i9, 0, none⟩)) H45)
 else (
 ∃ n46, ((H10.bump 10).bump 14).cell i1 1 = some (.int .u64 n46) ∧
 AS.asAddr (.pointer x0) fun i47 i48 =>
 ∃ n49, ((H10.bump 10).bump 14).cell i47 ((i48 + 1) + 2) = some (.int .i64 n49) ∧
 stc ((H10.bump 10).bump 14) i9 12 [(.int .i64 (IntKind.i64.wrap ((IntKind.i64.wrap n46) * (IntKind.i64.wrap (3 + n49)))))] fun H50 =>
 (
 ∃ a51 i52, H50.cell i1 2 = some (.slice a51 i52 0) ∧
 ∃ l53, rowOf H50 1 a51 i52 = some l53 ∧
 apd H50 8 1 none 0 i52 l53 fun a54 i55 H56 =>
 stc H56 i9 3 [(.slice a54 i55 0)] fun H57 =>
 AS.asAddr (.pointer x0) fun i58 i59 =>
 ∃ a60, (H57.bump 23).cell i58 i59 = some (.pointer a60) ∧
 AS.asAddr (.pointer x0) fun i61 i62 =>
 ∃ n63, (H57.bump 23).cell i61 (i62 + 6) = some (.int .i64 n63) ∧
 ∃ n64, (H57.bump 23).cell i9 12 = some (.int .i64 n64) ∧
 CA en F.lock_Take [(.pointer a60), (.int .i64 n63), (.int .i64 n64)] (H57.bump 23) fun v65 H66 =>
 ∃ a67, v65 = (.pointer a67) ∧
 stc H66 i9 11 [(.pointer a67)] fun H68 =>
 stc H68 i9 10 [(.func (.func F.record_Run_take) #[(.pointer (some ⟨i9, 0, none⟩))] #[])] fun H69 =>
 (
 R (.pointer (some ⟨i9, 0, none⟩)) H69) ∧
 True) ∧
 True)))))
 else (
 bif (!(decide (n11 < (IntKind.u64.wrap n14)))) then (
 CA en F.record_Run_now [(.pointer (some ⟨i9, 0, none⟩)), (.agg #[(.int .i64 4), (.slice none 0 0), (.int .u64 0), (.int .i64 0)])] (H10.bump 10) fun v70 H71 =>
 v70 = undef ∧
 R (.pointer (some ⟨i9, 0, none⟩)) H71)
 else (
 ∃ n72, (H10.bump 10).cell i1 0 = some (.int .i64 n72) ∧
 bif (n72 == 1) then (
 ∃ n73, ((H10.bump 10).bump 20).cell i1 1 = some (.int .u64 n73) ∧
 AS.asAddr (.pointer x0) fun i74 i75 =>
 ∃ n76, ((H10.bump 10).bump 20).cell i74 ((i75 + 1) + 2) = some (.int .i64 n76) ∧
 stc ((H10.bump 10).bump 20) i9 12 [(.int .i64 (IntKind.i64.wrap ((IntKind.i64.wrap n73) * (IntKind.i64.wrap (3 + n76)))))] fun H77 =>
 stc H77 i9 10 [(.func (.func F.record_Run_look) #[(.pointer (some ⟨i9, 0, none⟩))] #[])] fun H78 =>
 (
 R (.pointer (some ⟨i9, 0, none⟩)) H78) ∧
 True)
 else (
 ∃ n79, (H10.bump 10).cell i1 3 = some (.int .i64 n79) ∧
 bif (n79 == 1) then (
 CA en F.record_Run_now [(.pointer (some ⟨i9, 0, none⟩)), (.agg #[(.int .i64 3), (.slice none 0 0), (.int .u64 0), (.int .i64 0)])] (H10.bump 10) fun v80 H81 =>
 v80 = undef ∧
 R (.pointer (some ⟨i9, 0, none⟩)) H81)
 else (
 ∃ n82, ((H10.bump 10).bump 14).cell i1 1 = some (.int .u64 n82) ∧
 AS.asAddr (.pointer x0) fun i83 i84 =>
 ∃ n85, ((H10.bump 10).bump 14).cell i83 ((i84 + 1) + 2) = some (.int .i64 n85) ∧
 stc ((H10.bump 10).bump 14) i9 12 [(.int .i64 (IntKind.i64.wrap ((IntKind.i64.wrap n82) * (IntKind.i64.wrap (3 + n85)))))] fun H86 =>
 (
 ∃ a87 i88, H86.cell i1 2 = some (.slice a87 i88 0) ∧
 ∃ l89, rowOf H86 1 a87 i88 = some l89 ∧
 apd H86 8 1 none 0 i88 l89 fun a90 i91 H92 =>
 stc H92 i9 3 [(.slice a90 i91 0)] fun H93 =>
 AS.asAddr (.pointer x0) fun i94 i95 =>
 ∃ a96, (H93.bump 23).cell i94 i95 = some (.pointer a96) ∧
 AS.asAddr (.pointer x0) fun i97 i98 =>
 ∃ n99, (H93.bump 23).cell i97 (i98 + 6) = some (.int .i64 n99) ∧
 ∃ n100, (H93.bump 23).cell i9 12 = some (.int .i64 n100) ∧
 CA en F.lock_Take [(.pointer a96), (.int .i64 n99), (.int .i64 n100)] (H93.bump 23) fun v101 H102 =>
 ∃ a103, v101 = (.pointer a103) ∧
 stc H102 i9 11 [(.pointer a103)] fun H104 =>
 stc H104 i9 10 [(.func (.func F.record_Run_take) #[(.pointer (some ⟨i9, 0, none⟩))] #[])] fun H105 =>
 (
 R (.pointer (some ⟨i9, 0, none⟩)) H105) ∧
 True) ∧
 True)))))) ∧
 True) →
    CA en F.record_Map_Begin [(.pointer x0), (.agg #[(.int .i64 x1_0), (.int .u64 x1_1), (.slice x1_2 x1_2l 0), (.int .i64 x1_3), (.int .i64 x1_4)])] H R := by
  intro h
  refine wpFn_ok (Z := []) (fn := Go.Proofs.Try.f23) ?_ ?_ ?_
  · kernel_rfl
  · kernel_rfl
  · apply turnInto h
    kernel_rfl


/-! record_Run_Step -/

theorem vc_record_Run_Step (x0 : Option Addr) (H : Heap) (R : Value → Heap → Prop) :
    (
 AS.asAddr (.pointer x0) fun i1 i2 =>
 ∃ v3, H.cell i1 (i2 + 10) = some v3 ∧
 AS.asFn v3 fun f4 l5 l6 =>
 (∃ fn, en.fn f4 = some fn) ∧
 CA en f4 (l5 ++ [] ++ l6) H fun v7 H8 =>
 ∃ b9, ∃ b10, v7 = (.tuple #[(.bool b9), (.bool b10)]) ∧
 R (.tuple #[(.bool b9), (.bool b10)]) H8) →
    CA en F.record_Run_Step [(.pointer x0)] H R := by
  intro h
  refine wpFn_ok (Z := []) (fn := Go.Proofs.Try.f24) ?_ ?_ ?_
  · kernel_rfl
  · kernel_rfl
  · apply turnInto h
    kernel_rfl


/-! record_Run_Result -/

theorem vc_record_Run_Result (x0 : Option Addr) (H : Heap) (R : Value → Heap → Prop) :
    (
 nwH H (.cells true 0 [(.int .i64 0), (.slice none 0 0), (.int .u64 0), (.int .i64 0)]) fun i1 H2 =>
 AS.asAddr (.pointer x0) fun i3 i4 =>
 ∃ n5, ∃ a6 i7, ∃ n8, ∃ n9, H2.cellsAt i3 (i4 + 6) 4 = some [(.int .i64 n5), (.slice a6 i7 0), (.int .u64 n8), (.int .i64 n9)] ∧
 nwH H2 (.cells true 0 [(.int .i64 0), (.slice none 0 0), (.int .u64 0), (.int .i64 0)]) fun i10 H11 =>
 stc H11 i10 0 [(.int .i64 n5), (.slice a6 i7 0), (.int .u64 n8), (.int .i64 n9)] fun H12 =>
 ∃ a13 i14, H12.cell i10 1 = some (.slice a13 i14 0) ∧
 ∃ l15, rowOf H12 1 a13 i14 = some l15 ∧
 apd H12 8 1 none 0 i14 l15 fun a16 i17 H18 =>
 stc H18 i10 1 [(.slice a16 i17 0)] fun H19 =>
 ∃ n20, ∃ a21 i22, ∃ n23, ∃ n24, H19.cellsAt i10 0 4 = some [(.int .i64 n20), (.slice a21 i22 0), (.int .u64 n23), (.int .i64 n24)] ∧
 stc H19 i1 0 [(.int .i64 n20), (.slice a21 i22 0), (.int .u64 n23), (.int .i64 n24)] fun H25 =>
 ∃ n26, ∃ a27 i28, ∃ n29, ∃ n30, H25.cellsAt i1 0 4 = some [(.int .i64 n26), (.slice a27 i28 0), (.int .u64 n29), (.int .i64 n30)] ∧
 R (.agg #[(.int .i64 n26), (.slice a27 i28 0), (.int .u64 n29), (.int .i64 n30)]) H25) →
    CA en F.record_Run_Result [(.pointer x0)] H R := by
  intro h
  refine wpFn_ok (Z := []) (fn := Go.Proofs.Try.f25) ?_ ?_ ?_
  · kernel_rfl
  · kernel_rfl
  · apply turnInto h
    kernel_rfl


/-! record_New -/

theorem vc_record_New (x0 : Option Addr) (x1 : Option Addr) (x2_0 : Int) (x2_1 : Int) (x2_2 : Int) (x2_3 : Int) (x2_4 : Int) (x3 : Int) (H : Heap) (R : Value → Heap → Prop) :
    (
 nwH H (.cells true 0 [(.int .i64 x2_0), (.int .i64 x2_1), (.int .i64 x2_2), (.int .i64 x2_3), (.int .i64 x2_4)]) fun i1 H2 =>
 ∃ n3, ∃ n4, ∃ n5, ∃ n6, ∃ n7, H2.cellsAt i1 0 5 = some [(.int .i64 n3), (.int .i64 n4), (.int .i64 n5), (.int .i64 n6), (.int .i64 n7)] ∧
 nwH H2 (.cells true 5 [(.int .i64 n3), (.int .i64 n4), (.int .i64 n5), (.int .i64 n6), (.int .i64 n7)]) fun i8 H9 =>
 CA en F.decl_Check [(.slice (some ⟨i8, 0, none⟩) 1 0)] H9 fun v10 H11 =>
 ∃ n12, v10 = (.int .i64 n12) ∧
 bif (n12 != 0) then (
 R (.tuple #[(.pointer none), (.int .i64 1)]) H11)
 else (
 ∃ n13, H11.cell i1 0 = some (.int .i64 n13) ∧
 bif (n13 != 3) then (
 R (.tuple #[(.pointer none), (.int .i64 1)]) H11)
 else (
 ∃ n14, H11.cell i1 1 = some (.int .i64 n14) ∧
 ∃ n15, H11.cell i1 2 = some (.int .i64 n15) ∧
 CA en F.smem_Mem_Make [(.pointer x0), (.int .i64 (IntKind.i64.wrap (n14 * (IntKind.i64.wrap (3 + n15)))))] H11 fun v16 H17 =>
 ∃ n18, ∃ n19, v16 = (.tuple #[(.int .i64 n18), (.int .i64 n19)]) ∧
 bif (n19 != 0) then (
 R (.tuple #[(.pointer none), (.int .i64 n19)]) H17)
 else (
 ∃ n20, ∃ n21, ∃ n22, ∃ n23, ∃ n24, H17.cellsAt i1 0 5 = some [(.int .i64 n20), (.int .i64 n21), (.int .i64 n22), (.int .i64 n23), (.int .i64 n24)] ∧
 nwH H17 (.cells true 0 [(.pointer x0), (.int .i64 n20), (.int .i64 n21), (.int .i64 n22), (.int .i64 n23), (.int .i64 n24), (.int .i64 n18)]) fun i25 H26 =>
 R (.tuple #[(.pointer (some ⟨i25, 0, none⟩)), (.int .i64 0)]) H26)))) →
    CA en F.record_New [(.pointer x0), (.pointer x1), (.agg #[(.int .i64 x2_0), (.int .i64 x2_1), (.int .i64 x2_2), (.int .i64 x2_3), (.int .i64 x2_4)]), (.int .i64 x3)] H R := by
  intro h
  refine wpFn_ok (Z := []) (fn := Go.Proofs.Try.f43) ?_ ?_ ?_
  · kernel_rfl
  · kernel_rfl
  · apply turnInto h
    kernel_rfl


/-! record_Run_now -/

theorem vc_record_Run_now (x0 : Option Addr) (x1_0 : Int) (x1_1 : Option Addr) (x1_1l : Nat) (x1_2 : Int) (x1_3 : Int) (H : Heap) (R : Value → Heap → Prop) :
    (
 nwH H (.cells true 0 [(.pointer x0)]) fun i1 H2 =>
 nwH H2 (.cells true 0 [(.int .i64 x1_0), (.slice x1_1 x1_1l 0), (.int .u64 x1_2), (.int .i64 x1_3)]) fun i3 H4 =>
 ∃ a5, H4.cell i1 0 = some (.pointer a5) ∧
 AS.asAddr (.pointer a5) fun i6 i7 =>
 stc H4 i6 (i7 + 10) [(.func (.func F.record_Run_now_1) #[] #[(.pointer (some ⟨i3, 0, none⟩)), (.pointer (some ⟨i1, 0, none⟩))])] fun H8 =>
 R undef H8) →
    CA en F.record_Run_now [(.pointer x0), (.agg #[(.int .i64 x1_0), (.slice x1_1 x1_1l 0), (.int .u64 x1_2), (.int .i64 x1_3)])] H R := by
  intro h
  refine wpFn_ok (Z := []) (fn := Go.Proofs.Try.f45) ?_ ?_ ?_
  · kernel_rfl
  · kernel_rfl
  · apply turnInto h
    kernel_rfl


/-! record_Map_behind -/

theorem vc_record_Map_behind (x0 : Option Addr) (x1_0 : Int) (x1_1 : Int) (x1_2 : Option Addr) (x1_2l : Nat) (x1_3 : Int) (x1_4 : Int) (H : Heap) (R : Value → Heap → Prop) :
    (
 nwH H (.cells true 0 [(.int .i64 x1_0), (.int .u64 x1_1), (.slice x1_2 x1_2l 0), (.int .i64 x1_3), (.int .i64 x1_4)]) fun i1 H2 =>
 nwH H2 (.cells true 0 [(.int .i64 0), (.slice none 0 0), (.int .u64 0), (.int .i64 0)]) fun i3 H4 =>
 AS.asAddr (.pointer x0) fun i5 i6 =>
 ∃ n7, H4.cell i5 ((i6 + 1) + 1) = some (.int .i64 n7) ∧
 ∃ n8, H4.cell i1 3 = some (.int .i64 n8) ∧
 bif (n8 == 1) then (
 stc H4 i3 0 [(.int .i64 0), (.slice none 0 0), (.int .u64 0), (.int .i64 0)] fun H9 =>
 ∃ n10, ∃ a11 i12, ∃ n13, ∃ n14, H9.cellsAt i3 0 4 = some [(.int .i64 n10), (.slice a11 i12 0), (.int .u64 n13), (.int .i64 n14)] ∧
 R (.agg #[(.int .i64 n10), (.slice a11 i12 0), (.int .u64 n13), (.int .i64 n14)]) H9)
 else (
 ∃ n15, H4.cell i1 1 = some (.int .u64 n15) ∧
 bif (decide (n15 > (IntKind.u64.wrap (IntKind.i64.wrap (n7 - 1))))) then (
 stc H4 i3 0 [(.int .i64 0), (.slice none 0 0), (.int .u64 0), (.int .i64 0)] fun H16 =>
 ∃ n17, ∃ a18 i19, ∃ n20, ∃ n21, H16.cellsAt i3 0 4 = some [(.int .i64 n17), (.slice a18 i19 0), (.int .u64 n20), (.int .i64 n21)] ∧
 R (.agg #[(.int .i64 n17), (.slice a18 i19 0), (.int .u64 n20), (.int .i64 n21)]) H16)
 else (
 ∃ n22, H4.cell i1 1 = some (.int .u64 n22) ∧
 bif (n22 == (IntKind.u64.wrap (IntKind.i64.wrap (n7 - 1)))) then (
 stc H4 i3 0 [(.int .i64 2), (.slice none 0 0), (.int .u64 0), (.int .i64 0)] fun H23 =>
 ∃ n24, ∃ a25 i26, ∃ n27, ∃ n28, H23.cellsAt i3 0 4 = some [(.int .i64 n24), (.slice a25 i26 0), (.int .u64 n27), (.int .i64 n28)] ∧
 R (.agg #[(.int .i64 n24), (.slice a25 i26 0), (.int .u64 n27), (.int .i64 n28)]) H23)
 else (
 ∃ n29, H4.cell i1 1 = some (.int .u64 n29) ∧
 stc H4 i3 0 [(.int .i64 0), (.slice none 0 0), (.int .u64 (IntKind.u64.wrap (n29 + 1))), (.int .i64 0)] fun H30 =>
 ∃ n31, ∃ a32 i33, ∃ n34, ∃ n35, H30.cellsAt i3 0 4 = some [(.int .i64 n31), (.slice a32 i33 0), (.int .u64 n34), (.int .i64 n35)] ∧
 R (.agg #[(.int .i64 n31), (.slice a32 i33 0), (.int .u64 n34), (.int .i64 n35)]) H30)))) →
    CA en F.record_Map_behind [(.pointer x0), (.agg #[(.int .i64 x1_0), (.int .u64 x1_1), (.slice x1_2 x1_2l 0), (.int .i64 x1_3), (.int .i64 x1_4)])] H R := by
  intro h
  refine wpFn_ok (Z := []) (fn := Go.Proofs.Try.f46) ?_ ?_ ?_
  · kernel_rfl
  · kernel_rfl
  · apply turnInto h
    kernel_rfl


/-! record_Run_look -/

theorem vc_record_Run_look (x0 : Option Addr) (H : Heap) (R : Value → Heap → Prop) :
    (
 AS.asAddr (.pointer x0) fun i1 i2 =>
 ∃ a3, (H.bump 25).cell i1 i2 = some (.pointer a3) ∧
 AS.asAddr (.pointer a3) fun i4 i5 =>
 ∃ a6, (H.bump 25).cell i4 i5 = some (.pointer a6) ∧
 AS.asAddr (.pointer x0) fun i7 i8 =>
 ∃ a9, (H.bump 25).cell i7 i8 = some (.pointer a9) ∧
 AS.asAddr (.pointer a9) fun i10 i11 =>
 ∃ n12, (H.bump 25).cell i10 (i11 + 6) = some (.int .i64 n12) ∧
 AS.asAddr (.pointer x0) fun i13 i14 =>
 ∃ n15, (H.bump 25).cell i13 (i14 + 12) = some (.int .i64 n15) ∧
 CA en F.lock_Read [(.pointer a6), (.int .i64 n12), (.int .i64 (IntKind.i64.wrap (n15 + 2)))] (H.bump 25) fun v16 H17 =>
 ∃ n18, ∃ b19, v16 = (.tuple #[(.int .u64 n18), (.bool b19)]) ∧
 (
 bif b19 then (
 AS.asAddr (.pointer x0) fun i20 i21 =>
 stc H17 i20 (i21 + 14) [(.int .u64 n18)] fun H22 =>
 AS.asAddr (.pointer x0) fun i23 i24 =>
 stc H22 i23 (i24 + 13) [(.int .i64 0)] fun H25 =>
 AS.asAddr (.pointer x0) fun i26 i27 =>
 stc H25 i26 ((i27 + 6) + 1) [(.slice none 0 0)] fun H28 =>
 AS.asAddr (.pointer x0) fun i29 i30 =>
 stc H28 i29 (i30 + 10) [(.func (.func F.record_Run_load) #[(.pointer x0)] #[])] fun H31 =>
 R (.tuple #[(.bool false), (.bool false)]) H31)
 else (
 R (.tuple #[(.bool false), (.bool false)]) H17)) ∧
 True) →
    CA en F.record_Run_look [(.pointer x0)] H R := by
  intro h
  refine wpFn_ok (Z := []) (fn := Go.Proofs.Try.f47) ?_ ?_ ?_
  · kernel_rfl
  · kernel_rfl
  · apply turnInto h
    kernel_rfl


/-! record_Run_take -/

theorem vc_record_Run_take (x0 : Option Addr) (H : Heap) (R : Value → Heap → Prop) :
    (
 AS.asAddr (.pointer x0) fun i1 i2 =>
 ∃ a3, H.cell i1 (i2 + 11) = some (.pointer a3) ∧
 CA en F.lock_Taker_Step [(.pointer a3)] H fun v4 H5 =>
 ∃ b6, v4 = (.bool b6) ∧
 bif b6 then (
 AS.asAddr (.pointer x0) fun i7 i8 =>
 stc H5 i7 (i8 + 10) [(.func (.func F.record_Run_begin) #[(.pointer x0)] #[])] fun H9 =>
 R (.tuple #[(.bool false), (.bool false)]) H9)
 else (
 R (.tuple #[(.bool false), (.bool false)]) H5)) →
    CA en F.record_Run_take [(.pointer x0)] H R := by
  intro h
  refine wpFn_ok (Z := []) (fn := Go.Proofs.Try.f48) ?_ ?_ ?_
  · kernel_rfl
  · kernel_rfl
  · apply turnInto h
    kernel_rfl


/-! record_Run_now_1 -/

theorem vc_record_Run_now_1 (c0 : Option Addr) (c1 : Option Addr) (H : Heap) (R : Value → Heap → Prop) :
    (
 AS.asAddr (.pointer c1) fun i1 i2 =>
 ∃ a3, (H.bump 11).cell i1 i2 = some (.pointer a3) ∧
 AS.asAddr (.pointer c1) fun i4 i5 =>
 ∃ a6, (H.bump 11).cell i4 i5 = some (.pointer a6) ∧
 AS.asAddr (.pointer c0) fun i7 i8 =>
 ∃ n9, ∃ a10 i11, ∃ n12, ∃ n13, (H.bump 11).cellsAt i7 i8 4 = some [(.int .i64 n9), (.slice a10 i11 0), (.int .u64 n12), (.int .i64 n13)] ∧
 AS.asAddr (.pointer c1) fun i14 i15 =>
 ∃ a16, (H.bump 11).cell i14 i15 = some (.pointer a16) ∧
 AS.asAddr (.pointer a3) fun i17 i18 =>
 stc (H.bump 11) i17 (i18 + 6) [(.int .i64 n9), (.slice a10 i11 0), (.int .u64 n12), (.int .i64 n13)] fun H19 =>
 AS.asAddr (.pointer a6) fun i20 i21 =>
 stc H19 i20 (i21 + 10) [(.func (.func F.record_Run_over) #[(.pointer a16)] #[])] fun H22 =>
 (
 R (.tuple #[(.bool true), (.bool true)]) H22) ∧
 ((AS.asAddr (.pointer c1) fun i26 i27 =>
 ∃ a28, (H.bump 11).cell i26 i27 = some (.pointer a28) ∧
 a16 = a28) ∧ (AS.asAddr (.pointer c1) fun i23 i24 =>
 ∃ a25, H19.cell i23 i24 = some (.pointer a25) ∧
 a16 = a25) ∧ True) ∧
 ((AS.asAddr (.pointer c1) fun i32 i33 =>
 ∃ a34, (H.bump 11).cell i32 i33 = some (.pointer a34) ∧
 a6 = a34) ∧ (AS.asAddr (.pointer c1) fun i29 i30 =>
 ∃ a31, H19.cell i29 i30 = some (.pointer a31) ∧
 a6 = a31) ∧ True) ∧
 True) →
    CA en F.record_Run_now_1 [(.pointer c0), (.pointer c1)] H R := by
  intro h
  refine wpFn_ok (Z := []) (fn := Go.Proofs.Try.f67) ?_ ?_ ?_
  · kernel_rfl
  · kernel_rfl
  · apply turnInto h
    kernel_rfl


/-! record_Run_over -/

theorem vc_record_Run_over (x0 : Option Addr) (H : Heap) (R : Value → Heap → Prop) :
    (
 R (.tuple #[(.bool false), (.bool true)]) H) →
    CA en F.record_Run_over [(.pointer x0)] H R := by
  intro h
  refine wpFn_ok (Z := []) (fn := Go.Proofs.Try.f68) ?_ ?_ ?_
  · kernel_rfl
  · kernel_rfl
  · apply turnInto h
    kernel_rfl


/-! record_Run_load -/

theorem vc_record_Run_load (x0 : Option Addr) (H : Heap) (R : Value → Heap → Prop) :
    (
 AS.asAddr (.pointer x0) fun i1 i2 =>
 ∃ a3, (H.bump 30).cell i1 i2 = some (.pointer a3) ∧
 AS.asAddr (.pointer a3) fun i4 i5 =>
 ∃ a6, (H.bump 30).cell i4 i5 = some (.pointer a6) ∧
 AS.asAddr (.pointer x0) fun i7 i8 =>
 ∃ a9, (H.bump 30).cell i7 i8 = some (.pointer a9) ∧
 AS.asAddr (.pointer a9) fun i10 i11 =>
 ∃ n12, (H.bump 30).cell i10 (i11 + 6) = some (.int .i64 n12) ∧
 AS.asAddr (.pointer x0) fun i13 i14 =>
 ∃ n15, (H.bump 30).cell i13 (i14 + 12) = some (.int .i64 n15) ∧
 AS.asAddr (.pointer x0) fun i16 i17 =>
 ∃ n18, (H.bump 30).cell i16 (i17 + 13) = some (.int .i64 n18) ∧
 CA en F.smem_Mem_Load [(.pointer a6), (.int .i64 n12), (.int .i64 (IntKind.i64.wrap ((IntKind.i64.wrap (n15 + 3)) + n18)))] (H.bump 30) fun v19 H20 =>
 ∃ n21, ∃ b22, v19 = (.tuple #[(.int .u64 n21), (.bool b22)]) ∧
 (
 AS.asAddr (.pointer x0) fun i23 i24 =>
 ∃ a25 i26, H20.cell i23 ((i24 + 6) + 1) = some (.slice a25 i26 0) ∧
 nwH H20 (.cells true 1 [(.int .u64 n21)]) fun i27 H28 =>
 ∃ l29, rowOf H28 1 (some ⟨i27, 0, none⟩) 1 = some l29 ∧
 apd H28 8 1 a25 i26 1 l29 fun a30 i31 H32 =>
 AS.asAddr (.pointer x0) fun i33 i34 =>
 stc H32 i33 ((i34 + 6) + 1) [(.slice a30 i31 0)] fun H35 =>
 AS.asAddr (.pointer x0) fun i36 i37 =>
 ∃ n38, H35.cell i36 (i37 + 13) = some (.int .i64 n38) ∧
 AS.asAddr (.pointer x0) fun i39 i40 =>
 stc H35 i39 (i40 + 13) [(.int .i64 (IntKind.i64.wrap (n38 + 1)))] fun H41 =>
 AS.asAddr (.pointer x0) fun i42 i43 =>
 ∃ n44, (H41.bump 13).cell i42 (i43 + 13) = some (.int .i64 n44) ∧
 AS.asAddr (.pointer x0) fun i45 i46 =>
 ∃ a47, (H41.bump 13).cell i45 i46 = some (.pointer a47) ∧
 AS.asAddr (.pointer a47) fun i48 i49 =>
 ∃ n50, (H41.bump 13).cell i48 ((i49 + 1) + 2) = some (.int .i64 n50) ∧
 (
 bif (n44 == n50) then (
 AS.asAddr (.pointer x0) fun i51 i52 =>
 stc (H41.bump 13) i51 (i52 + 10) [(.func (.func F.record_Run_same) #[(.pointer x0)] #[])] fun H53 =>
 R (.tuple #[(.bool false), (.bool false)]) H53)
 else (
 R (.tuple #[(.bool false), (.bool false)]) (H41.bump 13))) ∧
 True) ∧
 True) →
    CA en F.record_Run_load [(.pointer x0)] H R := by
  intro h
  refine wpFn_ok (Z := []) (fn := Go.Proofs.Try.f70) ?_ ?_ ?_
  · kernel_rfl
  · kernel_rfl
  · apply turnInto h
    kernel_rfl


/-! record_Run_begin -/

theorem vc_record_Run_begin (x0 : Option Addr) (H : Heap) (R : Value → Heap → Prop) :
    (
 AS.asAddr (.pointer x0) fun i1 i2 =>
 ∃ a3, (H.bump 20).cell i1 i2 = some (.pointer a3) ∧
 AS.asAddr (.pointer a3) fun i4 i5 =>
 ∃ a6, (H.bump 20).cell i4 i5 = some (.pointer a6) ∧
 AS.asAddr (.pointer x0) fun i7 i8 =>
 ∃ a9, (H.bump 20).cell i7 i8 = some (.pointer a9) ∧
 AS.asAddr (.pointer a9) fun i10 i11 =>
 ∃ n12, (H.bump 20).cell i10 (i11 + 6) = some (.int .i64 n12) ∧
 AS.asAddr (.pointer x0) fun i13 i14 =>
 ∃ n15, (H.bump 20).cell i13 (i14 + 12) = some (.int .i64 n15) ∧
 CA en F.lock_Begin [(.pointer a6), (.int .i64 n12), (.int .i64 (IntKind.i64.wrap (n15 + 2)))] (H.bump 20) fun v16 H17 =>
 ∃ b18, v16 = (.bool b18) ∧
 (
 AS.asAddr (.pointer x0) fun i19 i20 =>
 stc H17 i19 (i20 + 10) [(.func (.func F.record_Run_store) #[(.pointer x0)] #[])] fun H21 =>
 R (.tuple #[(.bool false), (.bool false)]) H21) ∧
 True) →
    CA en F.record_Run_begin [(.pointer x0)] H R := by
  intro h
  refine wpFn_ok (Z := []) (fn := Go.Proofs.Try.f71) ?_ ?_ ?_
  · kernel_rfl
  · kernel_rfl
  · apply turnInto h
    kernel_rfl


/-! record_Run_same -/

theorem vc_record_Run_same (x0 : Option Addr) (H : Heap) (R : Value → Heap → Prop) :
    (
 AS.asAddr (.pointer x0) fun i1 i2 =>
 ∃ a3, (H.bump 25).cell i1 i2 = some (.pointer a3) ∧
 AS.asAddr (.pointer a3) fun i4 i5 =>
 ∃ a6, (H.bump 25).cell i4 i5 = some (.pointer a6) ∧
 AS.asAddr (.pointer x0) fun i7 i8 =>
 ∃ a9, (H.bump 25).cell i7 i8 = some (.pointer a9) ∧
 AS.asAddr (.pointer a9) fun i10 i11 =>
 ∃ n12, (H.bump 25).cell i10 (i11 + 6) = some (.int .i64 n12) ∧
 AS.asAddr (.pointer x0) fun i13 i14 =>
 ∃ n15, (H.bump 25).cell i13 (i14 + 12) = some (.int .i64 n15) ∧
 AS.asAddr (.pointer x0) fun i16 i17 =>
 ∃ n18, (H.bump 25).cell i16 (i17 + 14) = some (.int .u64 n18) ∧
 CA en F.lock_Same [(.pointer a6), (.int .i64 n12), (.int .i64 (IntKind.i64.wrap (n15 + 2))), (.int .u64 n18)] (H.bump 25) fun v19 H20 =>
 ∃ b21, v19 = (.bool b21) ∧
 (
 bif (!b21) then (
 AS.asAddr (.pointer x0) fun i22 i23 =>
 stc H20 i22 (i23 + 10) [(.func (.func F.record_Run_look) #[(.pointer x0)] #[])] fun H24 =>
 R (.tuple #[(.bool false), (.bool false)]) H24)
 else (
 AS.asAddr (.pointer x0) fun i25 i26 =>
 stc H20 i25 (i26 + 10) [(.func (.func F.record_Run_over) #[(.pointer x0)] #[])] fun H27 =>
 R (.tuple #[(.bool true), (.bool true)]) H27)) ∧
 True) →
    CA en F.record_Run_same [(.pointer x0)] H R := by
  intro h
  refine wpFn_ok (Z := []) (fn := Go.Proofs.Try.f86) ?_ ?_ ?_
  · kernel_rfl
  · kernel_rfl
  · apply turnInto h
    kernel_rfl


/-! record_Run_store -/

theorem vc_record_Run_store (x0 : Option Addr) (H : Heap) (R : Value → Heap → Prop) :
    (
 AS.asAddr (.pointer x0) fun i1 i2 =>
 ∃ a3, (H.bump 36).cell i1 i2 = some (.pointer a3) ∧
 AS.asAddr (.pointer a3) fun i4 i5 =>
 ∃ a6, (H.bump 36).cell i4 i5 = some (.pointer a6) ∧
 AS.asAddr (.pointer x0) fun i7 i8 =>
 ∃ a9, (H.bump 36).cell i7 i8 = some (.pointer a9) ∧
 AS.asAddr (.pointer a9) fun i10 i11 =>
 ∃ n12, (H.bump 36).cell i10 (i11 + 6) = some (.int .i64 n12) ∧
 AS.asAddr (.pointer x0) fun i13 i14 =>
 ∃ n15, (H.bump 36).cell i13 (i14 + 12) = some (.int .i64 n15) ∧
 AS.asAddr (.pointer x0) fun i16 i17 =>
 ∃ n18, (H.bump 36).cell i16 (i17 + 13) = some (.int .i64 n18) ∧
 AS.asAddr (.pointer x0) fun i19 i20 =>
 ∃ a21 i22, (H.bump 36).cell i19 ((i20 + 1) + 2) = some (.slice a21 i22 0) ∧
 AS.asAddr (.pointer x0) fun i23 i24 =>
 ∃ n25, (H.bump 36).cell i23 (i24 + 13) = some (.int .i64 n25) ∧
 inB n25 i22 ∧
 asRow a21 fun i26 i27 =>
 ∃ n28, (H.bump 36).cell i26 (i27 + (n25.toNat * 1)) = some (.int .u64 n28) ∧
 CA en F.smem_Mem_Store [(.pointer a6), (.int .i64 n12), (.int .i64 (IntKind.i64.wrap ((IntKind.i64.wrap (n15 + 3)) + n18))), (.int .u64 n28)] (H.bump 36) fun v29 H30 =>
 ∃ b31, v29 = (.bool b31) ∧
 (
 AS.asAddr (.pointer x0) fun i32 i33 =>
 ∃ n34, H30.cell i32 (i33 + 13) = some (.int .i64 n34) ∧
 AS.asAddr (.pointer x0) fun i35 i36 =>
 stc H30 i35 (i36 + 13) [(.int .i64 (IntKind.i64.wrap (n34 + 1)))] fun H37 =>
 AS.asAddr (.pointer x0) fun i38 i39 =>
 ∃ n40, (H37.bump 13).cell i38 (i39 + 13) = some (.int .i64 n40) ∧
 AS.asAddr (.pointer x0) fun i41 i42 =>
 ∃ a43, (H37.bump 13).cell i41 i42 = some (.pointer a43) ∧
 AS.asAddr (.pointer a43) fun i44 i45 =>
 ∃ n46, (H37.bump 13).cell i44 ((i45 + 1) + 2) = some (.int .i64 n46) ∧
 (
 bif (n40 == n46) then (
 AS.asAddr (.pointer x0) fun i47 i48 =>
 stc (H37.bump 13) i47 (i48 + 10) [(.func (.func F.record_Run_end) #[(.pointer x0)] #[])] fun H49 =>
 R (.tuple #[(.bool false), (.bool false)]) H49)
 else (
 R (.tuple #[(.bool false), (.bool false)]) (H37.bump 13))) ∧
 True) ∧
 True) →
    CA en F.record_Run_store [(.pointer x0)] H R := by
  intro h
  refine wpFn_ok (Z := []) (fn := Go.Proofs.Try.f88) ?_ ?_ ?_
  · kernel_rfl
  · kernel_rfl
  · apply turnInto h
    kernel_rfl


/-! record_Run_end -/

theorem vc_record_Run_end (x0 : Option Addr) (H : Heap) (R : Value → Heap → Prop) :
    (
 AS.asAddr (.pointer x0) fun i1 i2 =>
 ∃ a3, (H.bump 20).cell i1 i2 = some (.pointer a3) ∧
 AS.asAddr (.pointer a3) fun i4 i5 =>
 ∃ a6, (H.bump 20).cell i4 i5 = some (.pointer a6) ∧
 AS.asAddr (.pointer x0) fun i7 i8 =>
 ∃ a9, (H.bump 20).cell i7 i8 = some (.pointer a9) ∧
 AS.asAddr (.pointer a9) fun i10 i11 =>
 ∃ n12, (H.bump 20).cell i10 (i11 + 6) = some (.int .i64 n12) ∧
 AS.asAddr (.pointer x0) fun i13 i14 =>
 ∃ n15, (H.bump 20).cell i13 (i14 + 12) = some (.int .i64 n15) ∧
 CA en F.lock_End [(.pointer a6), (.int .i64 n12), (.int .i64 (IntKind.i64.wrap (n15 + 2)))] (H.bump 20) fun v16 H17 =>
 ∃ b18, v16 = (.bool b18) ∧
 (
 AS.asAddr (.pointer x0) fun i19 i20 =>
 stc H17 i19 (i20 + 10) [(.func (.func F.record_Run_drop) #[(.pointer x0)] #[])] fun H21 =>
 R (.tuple #[(.bool true), (.bool false)]) H21) ∧
 True) →
    CA en F.record_Run_end [(.pointer x0)] H R := by
  intro h
  refine wpFn_ok (Z := []) (fn := Go.Proofs.Try.f99) ?_ ?_ ?_
  · kernel_rfl
  · kernel_rfl
  · apply turnInto h
    kernel_rfl


/-! record_Run_drop -/

theorem vc_record_Run_drop (x0 : Option Addr) (H : Heap) (R : Value → Heap → Prop) :
    (
 AS.asAddr (.pointer x0) fun i1 i2 =>
 ∃ a3, (H.bump 19).cell i1 i2 = some (.pointer a3) ∧
 AS.asAddr (.pointer a3) fun i4 i5 =>
 ∃ a6, (H.bump 19).cell i4 i5 = some (.pointer a6) ∧
 AS.asAddr (.pointer x0) fun i7 i8 =>
 ∃ a9, (H.bump 19).cell i7 i8 = some (.pointer a9) ∧
 AS.asAddr (.pointer a9) fun i10 i11 =>
 ∃ n12, (H.bump 19).cell i10 (i11 + 6) = some (.int .i64 n12) ∧
 AS.asAddr (.pointer x0) fun i13 i14 =>
 ∃ n15, (H.bump 19).cell i13 (i14 + 12) = some (.int .i64 n15) ∧
 CA en F.lock_Drop [(.pointer a6), (.int .i64 n12), (.int .i64 n15)] (H.bump 19) fun v16 H17 =>
 ∃ b18, v16 = (.bool b18) ∧
 (
 AS.asAddr (.pointer x0) fun i19 i20 =>
 stc H17 i19 (i20 + 10) [(.func (.func F.record_Run_over) #[(.pointer x0)] #[])] fun H21 =>
 R (.tuple #[(.bool false), (.bool true)]) H21) ∧
 True) →
    CA en F.record_Run_drop [(.pointer x0)] H R := by
  intro h
  refine wpFn_ok (Z := []) (fn := Go.Proofs.Try.f107) ?_ ?_ ?_
  · kernel_rfl
  · kernel_rfl
  · apply turnInto h
    kernel_rfl


/-! crossbarlaw14_made -/

theorem vc_crossbarlaw14_made (x0_0 : Int) (x0_1 : Int) (x0_2 : Int) (x0_3 : Int) (x0_4 : Int) (x1 : Int) (H : Heap) (R : Value → Heap → Prop) :
    (
 nwH H (.cells true 0 [(.int .i64 x0_0), (.int .i64 x0_1), (.int .i64 x0_2), (.int .i64 x0_3), (.int .i64 x0_4)]) fun i1 H2 =>
 CA en F.smem_New [(.int .i64 x1)] H2 fun v3 H4 =>
 ∃ a5, v3 = (.pointer a5) ∧
 bif a5.isNone then (
 R (.tuple #[(.pointer none), (.pointer none)]) H4)
 else (
 CA en F.grace_New [(.int .i64 1), (.pointer a5)] (H4.bump 10) fun v6 H7 =>
 ∃ a8, v6 = (.pointer a8) ∧
 ∃ n9, ∃ n10, ∃ n11, ∃ n12, ∃ n13, H7.cellsAt i1 0 5 = some [(.int .i64 n9), (.int .i64 n10), (.int .i64 n11), (.int .i64 n12), (.int .i64 n13)] ∧
 CA en F.record_New [(.pointer a5), (.pointer a8), (.agg #[(.int .i64 n9), (.int .i64 n10), (.int .i64 n11), (.int .i64 n12), (.int .i64 n13)]), (.int .i64 1)] H7 fun v14 H15 =>
 ∃ a16, ∃ n17, v14 = (.tuple #[(.pointer a16), (.int .i64 n17)]) ∧
 (
 bif (n17 != 0) then (
 R (.tuple #[(.pointer none), (.pointer none)]) H15)
 else (
 R (.tuple #[(.pointer a5), (.pointer a16)]) H15)) ∧
 ((∃ n23, ∃ n24, ∃ n25, ∃ n26, ∃ n27, (H4.bump 10).cellsAt i1 0 5 = some [(.int .i64 n23), (.int .i64 n24), (.int .i64 n25), (.int .i64 n26), (.int .i64 n27)] ∧
 sameN 8 (.agg #[(.int .i64 n9), (.int .i64 n10), (.int .i64 n11), (.int .i64 n12), (.int .i64 n13)]) (.agg #[(.int .i64 n23), (.int .i64 n24), (.int .i64 n25), (.int .i64 n26), (.int .i64 n27)]) = true) ∧ (∃ n18, ∃ n19, ∃ n20, ∃ n21, ∃ n22, H7.cellsAt i1 0 5 = some [(.int .i64 n18), (.int .i64 n19), (.int .i64 n20), (.int .i64 n21), (.int .i64 n22)] ∧
 sameN 8 (.agg #[(.int .i64 n9), (.int .i64 n10), (.int .i64 n11), (.int .i64 n12), (.int .i64 n13)]) (.agg #[(.int .i64 n18), (.int .i64 n19), (.int .i64 n20), (.int .i64 n21), (.int .i64 n22)]) = true) ∧ True) ∧
 True)) →
    CA en F.crossbarlaw14_made [(.agg #[(.int .i64 x0_0), (.int .i64 x0_1), (.int .i64 x0_2), (.int .i64 x0_3), (.int .i64 x0_4)]), (.int .i64 x1)] H R := by
  intro h
  refine wpFn_ok (Z := []) (fn := Go.Proofs.Try.f22) ?_ ?_ ?_
  · kernel_rfl
  · kernel_rfl
  · apply turnInto h
    kernel_rfl


/-! grace_New -/

theorem vc_grace_New (x0 : Int) (x1 : Option Addr) (H : Heap) (R : Value → Heap → Prop) :
    (
 nwH H (.map [] 0) fun i1 H2 =>
 nwH H2 (.cells true 0 [(.pointer x1), (.int .i64 x0), (.map (some i1)), (.slice none 0 0)]) fun i3 H4 =>
 R (.pointer (some ⟨i3, 0, none⟩)) H4) →
    CA en F.grace_New [(.int .i64 x0), (.pointer x1)] H R := by
  intro h
  refine wpFn_ok (Z := []) (fn := Go.Proofs.Try.f44) ?_ ?_ ?_
  · kernel_rfl
  · kernel_rfl
  · apply turnInto h
    kernel_rfl

end Go.Proofs.Ytgpacebjbdhphaa
