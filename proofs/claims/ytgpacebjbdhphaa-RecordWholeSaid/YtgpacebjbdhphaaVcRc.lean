/-
  What functions of this seat's program need (printed by a program, checked by the kernel).
-/
import Derived.Test.YtgpacebjbdhphaaNames
import Derived.Test.YtgpacebjbdhphaaAs41
namespace Go.Proofs.Ytgpacebjbdhphaa
open Go Go.AS Go.RowKit
set_option linter.unusedVariables false
set_option maxRecDepth 100000
set_option maxHeartbeats 2000000

/-! record_Map_Begin -/

theorem vc_record_Map_Begin (x0 : Option Addr) (x1_0 : Int) (x1_1 : Int) (x1_2 : Option Addr) (x1_2l : Nat) (x1_3 : Int) (x1_4 : Int) (H : Heap) (R : Value → Heap → Prop) :
    (
 nwH H (.cells true 0 [(.int .i64 x1_0), (.int .u64 x1_1), (.slice x1_2 x1_2l 0), (.int .i64 x1_3), (.int .i64 x1_4)]) fun i1 H2 =>
 ∃ n3, ∃ n4, ∃ a5 i6, ∃ n7, ∃ n8, H2.cellsAt i1 0 5 = some [(.int .i64 n3), (.int .u64 n4), (.slice a5 i6 0), (.int .i64 n7), (.int .i64 n8)] ∧
 nwH H2 (.cells true 0 [(.pointer x0), (.int .i64 n3), (.int .u64 n4), (.slice a5 i6 0), (.int .i64 n7), (.int .i64 n8), (.int .i64 0), (.slice none 0 0), (.int .u64 0), (.int .i64 0), .nilFunc, (.pointer none), (.int .i64 0), (.int .i64 0), (.int .u64 0)]) fun i9 H10 =>
 ∃ n11, (H10.bump 10).cell i1 1 = some (.int .u64 n11) ∧
 AS.asAddr (.pointer x0) fun i12 i13 =>
 ∃ n14, (H10.bump 10).cell i12 ((i13 + 1) + 1) = some (.int .i64 n14) ∧
 (
 ∃ n15, (H10.bump 10).cell i1 0 = some (.int .i64 n15) ∧
 bif (n15 == 4) then (
 ∃ n16, ∃ n17, ∃ a18 i19, ∃ n20, ∃ n21, (H10.bump 10).cellsAt i1 0 5 = some [(.int .i64 n16), (.int .u64 n17), (.slice a18 i19 0), (.int .i64 n20), (.int .i64 n21)] ∧
 CA en F.record_Map_behind [(.pointer x0), (.agg #[(.int .i64 n16), (.int .u64 n17), (.slice a18 i19 0), (.int .i64 n20), (.int .i64 n21)])] (H10.bump 10) fun v22 H23 =>
 ∃ n24, ∃ a25 i26, ∃ n27, ∃ n28, v22 = (.agg #[(.int .i64 n24), (.slice a25 i26 0), (.int .u64 n27), (.int .i64 n28)]) ∧
 CA en F.record_Run_now [(.pointer (some ⟨i9, 0, none⟩)), (.agg #[(.int .i64 n24), (.slice a25 i26 0), (.int .u64 n27), (.int .i64 n28)])] H23 fun v29 H30 =>
 v29 = undef ∧
 R (.pointer (some ⟨i9, 0, none⟩)) H30)
 else (
 bif (!(decide (n11 < (IntKind.u64.wrap n14)))) then (
 ∃ n31, (H10.bump 10).cell i1 0 = some (.int .i64 n31) ∧
 bif (n31 == 1) then (
 CA en F.record_Run_now [(.pointer (some ⟨i9, 0, none⟩)), (.agg #[(.int .i64 2), (.slice none 0 0), (.int .u64 0), (.int .i64 0)])] (H10.bump 10) fun v32 H33 =>
 v32 = undef ∧
 R (.pointer (some ⟨i9, 0, none⟩)) H33)
 else (
 bif (!(decide (n11 < (IntKind.u64.wrap n14)))) then (
 CA en F.record_Run_now [(.pointer (some ⟨i9, 0, none⟩)), (.agg #[(.int .i64 4), (.slice none 0 0), (.int .u64 0), (.int .i64 0)])] (H10.bump 10) fun v34 H35 =>
 v34 = undef ∧
 R (.pointer (some ⟨i9, 0, none⟩)) H35)
 else (
 ∃ n36, (H10.bump 10).cell i1 0 = some (.int .i64 n36) ∧
 bif (n36 == 1) then (
 ∃ n37, ((H10.bump 10).bump 20).cell i1 1 = some (.int .u64 n37) ∧
 AS.asAddr (.pointer x0) fun i38 i39 =>
 ∃ n40, ((H10.bump 10).bump 20).cell i38 ((i39 + 1) + 2) = some (.int .i64 n40) ∧
 stc ((H10.bump 10).bump 20) i9 12 [(.int .i64 (IntKind.i64.wrap ((IntKind.i64.wrap n37) * (IntKind.i64.wrap (3 + n40)))))] fun H41 =>
 stc H41 i9 10 [(.func (.func F.record_Run_look) #[(.pointer (some ⟨i9, 0, none⟩))] #[])] fun H42 =>
 (
 R (.pointer (some ⟨i9, 0, none⟩)) H42) ∧
 True)
 else (
 ∃ n43, (H10.bump 10).cell i1 3 = some (.int .i64 n43) ∧
 bif (n43 == 1) then (
 CA en F.record_Run_now [(.pointer (some ⟨i9, 0, none⟩)), (.agg #[(.int .i64 3), (.slice none 0 0), (.int .u64 0), (.int .i64 0)])] (H10.bump 10) fun v44 H45 =>
 v44 = undef ∧
 R (.pointer (some ⟨i9, 0, none⟩)) H45)
 else (
 ∃ n46, ((H10.bump 10).bump 14).cell i1 1 = some (.int .u64 n46) ∧
 AS.asAddr (.pointer x0) fun i47 i48 =>
 ∃ n49, ((H10.bump 10).bump 14).cell i47 ((i48 + 1) + 2) = some (.int .i64 n49) ∧
 stc ((H10.bump 10).bump 14) i9 12 [(.int .i64 (IntKind.i64.wrap ((IntKind.i64.wrap n46) * (IntKind.i64.wrap (3 + n49)))))] fun H50 =>
 (
 ∃ a51 i52, H50.cell i1 2 = some (.slice a51 i52 0) ∧
 ∃ l53, rowOf H50 1 a51 i52 = some l53 ∧
 apd H50 8 1 none 0 i52 l53 fun a54 i55 H56 =>
 stc H56 i9 3 [(.slice a54 i55 0)] fun H57 =>
 AS.asAddr (.pointer x0) fun i58 i59 =>
 ∃ a60, (H57.bump 23).cell i58 i59 = some (.pointer a60) ∧
 AS.asAddr (.pointer x0) fun i61 i62 =>
 ∃ n63, (H57.bump 23).cell i61 (i62 + 6) = some (.int .i64 n63) ∧
 ∃ n64, (H57.bump 23).cell i9 12 = some (.int .i64 n64) ∧
 CA en F.lock_Take [(.pointer a60), (.int .i64 n63), (.int .i64 n64)] (H57.bump 23) fun v65 H66 =>
 ∃ a67, v65 = (.pointer a67) ∧
 stc H66 i9 11 [(.pointer a67)] fun H68 =>
 stc H68 i9 10 [(.func (.func F.record_Run_take) #[(.pointer (some ⟨i9, 0, none⟩))] #[])] fun H69 =>
 (
 R (.pointer (some ⟨i9, 0, none⟩)) H69) ∧
 True) ∧
 True)))))
 else (
 bif (!(decide (n11 < (IntKind.u64.wrap n14)))) then (
 CA en F.record_Run_now [(.pointer (some ⟨i9, 0, none⟩)), (.agg #[(.int .i64 4), (.slice none 0 0), (.int .u64 0), (.int .i64 0)])] (H10.bump 10) fun v70 H71 =>
 v70 = undef ∧
 R (.pointer (some ⟨i9, 0, none⟩)) H71)
 else (
 ∃ n72, (H10.bump 10).cell i1 0 = some (.int .i64 n72) ∧
 bif (n72 == 1) then (
 ∃ n73, ((H10.bump 10).bump 20).cell i1 1 = some (.int .u64 n73) ∧
 AS.asAddr (.pointer x0) fun i74 i75 =>
 ∃ n76, ((H10.bump 10).bump 20).cell i74 ((i75 + 1) + 2) = some (.int .i64 n76) ∧
 stc ((H10.bump 10).bump 20) i9 12 [(.int .i64 (IntKind.i64.wrap ((IntKind.i64.wrap n73) * (IntKind.i64.wrap (3 + n76)))))] fun H77 =>
 stc H77 i9 10 [(.func (.func F.record_Run_look) #[(.pointer (some ⟨i9, 0, none⟩))] #[])] fun H78 =>
 (
 R (.pointer (some ⟨i9, 0, none⟩)) H78) ∧
 True)
 else (
 ∃ n79, (H10.bump 10).cell i1 3 = some (.int .i64 n79) ∧
 bif (n79 == 1) then (
 CA en F.record_Run_now [(.pointer (some ⟨i9, 0, none⟩)), (.agg #[(.int .i64 3), (.slice none 0 0), (.int .u64 0), (.int .i64 0)])] (H10.bump 10) fun v80 H81 =>
 v80 = undef ∧
 R (.pointer (some ⟨i9, 0, none⟩)) H81)
 else (
 ∃ n82, ((H10.bump 10).bump 14).cell i1 1 = some (.int .u64 n82) ∧
 AS.asAddr (.pointer x0) fun i83 i84 =>
 ∃ n85, ((H10.bump 10).bump 14).cell i83 ((i84 + 1) + 2) = some (.int .i64 n85) ∧
 stc ((H10.bump 10).bump 14) i9 12 [(.int .i64 (IntKind.i64.wrap ((IntKind.i64.wrap n82) * (IntKind.i64.wrap (3 + n85)))))] fun H86 =>
 (
 ∃ a87 i88, H86.cell i1 2 = some (.slice a87 i88 0) ∧
 ∃ l89, rowOf H86 1 a87 i88 = some l89 ∧
 apd H86 8 1 none 0 i88 l89 fun a90 i91 H92 =>
 stc H92 i9 3 [(.slice a90 i91 0)] fun H93 =>
 AS.asAddr (.pointer x0) fun i94 i95 =>
 ∃ a96, (H93.bump 23).cell i94 i95 = some (.pointer a96) ∧
 AS.asAddr (.pointer x0) fun i97 i98 =>
 ∃ n99, (H93.bump 23).cell i97 (i98 + 6) = some (.int .i64 n99) ∧
 ∃ n100, (H93.bump 23).cell i9 12 = some (.int .i64 n100) ∧
 CA en F.lock_Take [(.pointer a96), (.int .i64 n99), (.int .i64 n100)] (H93.bump 23) fun v101 H102 =>
 ∃ a103, v101 = (.pointer a103) ∧
 stc H102 i9 11 [(.pointer a103)] fun H104 =>
 stc H104 i9 10 [(.func (.func F.record_Run_take) #[(.pointer (some ⟨i9, 0, none⟩))] #[])] fun H105 =>
 (
 R (.pointer (some ⟨i9, 0, none⟩)) H105) ∧
 True) ∧
 True)))))) ∧
 True) →
    CA en F.record_Map_Begin [(.pointer x0), (.agg #[(.int .i64 x1_0), (.int .u64 x1_1), (.slice x1_2 x1_2l 0), (.int .i64 x1_3), (.int .i64 x1_4)])] H R := by
  intro h
  refine wpFn_ok (Z := []) (fn := Go.Proofs.Try.f23) ?_ ?_ ?_
  · kernel_rfl
  · kernel_rfl
  · apply turnInto h
    kernel_rfl


/-! record_Run_Step -/

theorem vc_record_Run_Step (x0 : Option Addr) (H : Heap) (R : Value → Heap → Prop) :
    (
 AS.asAddr (.pointer x0) fun i1 i2 =>
 ∃ v3, H.cell i1 (i2 + 10) = some v3 ∧
 AS.asFn v3 fun f4 l5 l6 =>
 (∃ fn, en.fn f4 = some fn) ∧
 CA en f4 (l5 ++ [] ++ l6) H fun v7 H8 =>
 ∃ b9, ∃ b10, v7 = (.tuple #[(.bool b9), (.bool b10)]) ∧
 R (.tuple #[(.bool b9), (.bool b10)]) H8) →
    CA en F.record_Run_Step [(.pointer x0)] H R := by
  intro h
  refine wpFn_ok (Z := []) (fn := Go.Proofs.Try.f24) ?_ ?_ ?_
  · kernel_rfl
  · kernel_rfl
  · apply turnInto h
    kernel_rfl


/-! record_Run_Result -/

theorem vc_record_Run_Result (x0 : Option Addr) (H : Heap) (R : Value → Heap → Prop) :
    (
 nwH H (.cells true 0 [(.int .i64 0), (.slice none 0 0), (.int .u64 0), (.int .i64 0)]) fun i1 H2 =>
 AS.asAddr (.pointer x0) fun i3 i4 =>
 ∃ n5, ∃ a6 i7, ∃ n8, ∃ n9, H2.cellsAt i3 (i4 + 6) 4 = some [(.int .i64 n5), (.slice a6 i7 0), (.int .u64 n8), (.int .i64 n9)] ∧
 nwH H2 (.cells true 0 [(.int .i64 0), (.slice none 0 0), (.int .u64 0), (.int .i64 0)]) fun i10 H11 =>
 stc H11 i10 0 [(.int .i64 n5), (.slice a6 i7 0), (.int .u64 n8), (.int .i64 n9)] fun H12 =>
 ∃ a13 i14, H12.cell i10 1 = some (.slice a13 i14 0) ∧
 ∃ l15, rowOf H12 1 a13 i14 = some l15 ∧
 apd H12 8 1 none 0 i14 l15 fun a16 i17 H18 =>
 stc H18 i10 1 [(.slice a16 i17 0)] fun H19 =>
 ∃ n20, ∃ a21 i22, ∃ n23, ∃ n24, H19.cellsAt i10 0 4 = some [(.int .i64 n20), (.slice a21 i22 0), (.int .u64 n23), (.int .i64 n24)] ∧
 stc H19 i1 0 [(.int .i64 n20), (.slice a21 i22 0), (.int .u64 n23), (.int .i64 n24)] fun H25 =>
 ∃ n26, ∃ a27 i28, ∃ n29, ∃ n30, H25.cellsAt i1 0 4 = some [(.int .i64 n26), (.slice a27 i28 0), (.int .u64 n29), (.int .i64 n30)] ∧
 R (.agg #[(.int .i64 n26), (.slice a27 i28 0), (.int .u64 n29), (.int .i64 n30)]) H25) →
    CA en F.record_Run_Result [(.pointer x0)] H R := by
  intro h
  refine wpFn_ok (Z := []) (fn := Go.Proofs.Try.f25) ?_ ?_ ?_
  · kernel_rfl
  · kernel_rfl
  · apply turnInto h
    kernel_rfl


/-! record_New -/

theorem vc_record_New (x0 : Option Addr) (x1 : Option Addr) (x2_0 : Int) (x2_1 : Int) (x2_2 : Int) (x2_3 : Int) (x2_4 : Int) (x3 : Int) (H : Heap) (R : Value → Heap → Prop) :
    (
 nwH H (.cells true 0 [(.int .i64 x2_0), (.int .i64 x2_1), (.int .i64 x2_2), (.int .i64 x2_3), (.int .i64 x2_4)]) fun i1 H2 =>
 ∃ n3, ∃ n4, ∃ n5, ∃ n6, ∃ n7, H2.cellsAt i1 0 5 = some [(.int .i64 n3), (.int .i64 n4), (.int .i64 n5), (.int .i64 n6), (.int .i64 n7)] ∧
 nwH H2 (.cells true 5 [(.int .i64 n3), (.int .i64 n4), (.int .i64 n5), (.int .i64 n6), (.int .i64 n7)]) fun i8 H9 =>
 CA en F.decl_Check [(.slice (some ⟨i8, 0, none⟩) 1 0)] H9 fun v10 H11 =>
 ∃ n12, v10 = (.int .i64 n12) ∧
 bif (n12 != 0) then (
 R (.tuple #[(.pointer none), (.int .i64 1)]) H11)
 else (
 ∃ n13, H11.cell i1 0 = some (.int .i64 n13) ∧
 bif (n13 != 3) then (
 R (.tuple #[(.pointer none), (.int .i64 1)]) H11)
 else (
 ∃ n14, H11.cell i1 1 = some (.int .i64 n14) ∧
 ∃ n15, H11.cell i1 2 = some (.int .i64 n15) ∧
 CA en F.smem_Mem_Make [(.pointer x0), (.int .i64 (IntKind.i64.wrap (n14 * (IntKind.i64.wrap (3 + n15)))))] H11 fun v16 H17 =>
 ∃ n18, ∃ n19, v16 = (.tuple #[(.int .i64 n18), (.int .i64 n19)]) ∧
 bif (n19 != 0) then (
 R (.tuple #[(.pointer none), (.int .i64 n19)]) H17)
 else (
 ∃ n20, ∃ n21, ∃ n22, ∃ n23, ∃ n24, H17.cellsAt i1 0 5 = some [(.int .i64 n20), (.int .i64 n21), (.int .i64 n22), (.int .i64 n23), (.int .i64 n24)] ∧
 nwH H17 (.cells true 0 [(.pointer x0), (.int .i64 n20), (.int .i64 n21), (.int .i64 n22), (.int .i64 n23), (.int .i64 n24), (.int .i64 n18)]) fun i25 H26 =>
 R (.tuple #[(.pointer (some ⟨i25, 0, none⟩)), (.int .i64 0)]) H26)))) →
    CA en F.record_New [(.pointer x0), (.pointer x1), (.agg #[(.int .i64 x2_0), (.int .i64 x2_1), (.int .i64 x2_2), (.int .i64 x2_3), (.int .i64 x2_4)]), (.int .i64 x3)] H R := by
  intro h
  refine wpFn_ok (Z := []) (fn := Go.Proofs.Try.f43) ?_ ?_ ?_
  · kernel_rfl
  · kernel_rfl
  · apply turnInto h
    kernel_rfl


/-! record_Run_now -/

theorem vc_record_Run_now (x0 : Option Addr) (x1_0 : Int) (x1_1 : Option Addr) (x1_1l : Nat) (x1_2 : Int) (x1_3 : Int) (H : Heap) (R : Value → Heap → Prop) :
    (
 nwH H (.cells true 0 [(.pointer x0)]) fun i1 H2 =>
 nwH H2 (.cells true 0 [(.int .i64 x1_0), (.slice x1_1 x1_1l 0), (.int .u64 x1_2), (.int .i64 x1_3)]) fun i3 H4 =>
 ∃ a5, H4.cell i1 0 = some (.pointer a5) ∧
 AS.asAddr (.pointer a5) fun i6 i7 =>
 stc H4 i6 (i7 + 10) [(.func (.func F.record_Run_now_1) #[] #[(.pointer (some ⟨i3, 0, none⟩)), (.pointer (some ⟨i1, 0, none⟩))])] fun H8 =>
 R undef H8) →
    CA en F.record_Run_now [(.pointer x0), (.agg #[(.int .i64 x1_0), (.slice x1_1 x1_1l 0), (.int .u64 x1_2), (.int .i64 x1_3)])] H R := by
  intro h
  refine wpFn_ok (Z := []) (fn := Go.Proofs.Try.f45) ?_ ?_ ?_
  · kernel_rfl
  · kernel_rfl
  · apply turnInto h
    kernel_rfl


/-! record_Map_behind -/

theorem vc_record_Map_behind (x0 : Option Addr) (x1_0 : Int) (x1_1 : Int) (x1_2 : Option Addr) (x1_2l : Nat) (x1_3 : Int) (x1_4 : Int) (H : Heap) (R : Value → Heap → Prop) :
    (
 nwH H (.cells true 0 [(.int .i64 x1_0), (.int .u64 x1_1), (.slice x1_2 x1_2l 0), (.int .i64 x1_3), (.int .i64 x1_4)]) fun i1 H2 =>
 nwH H2 (.cells true 0 [(.int .i64 0), (.slice none 0 0), (.int .u64 0), (.int .i64 0)]) fun i3 H4 =>
 AS.asAddr (.pointer x0) fun i5 i6 =>
 ∃ n7, H4.cell i5 ((i6 + 1) + 1) = some (.int .i64 n7) ∧
 ∃ n8, H4.cell i1 3 = some (.int .i64 n8) ∧
 bif (n8 == 1) then (
 stc H4 i3 0 [(.int .i64 0), (.slice none 0 0), (.int .u64 0), (.int .i64 0)] fun H9 =>
 ∃ n10, ∃ a11 i12, ∃ n13, ∃ n14, H9.cellsAt i3 0 4 = some [(.int .i64 n10), (.slice a11 i12 0), (.int .u64 n13), (.int .i64 n14)] ∧
 R (.agg #[(.int .i64 n10), (.slice a11 i12 0), (.int .u64 n13), (.int .i64 n14)]) H9)
 else (
 ∃ n15, H4.cell i1 1 = some (.int .u64 n15) ∧
 bif (decide (n15 > (IntKind.u64.wrap (IntKind.i64.wrap (n7 - 1))))) then (
 stc H4 i3 0 [(.int .i64 0), (.slice none 0 0), (.int .u64 0), (.int .i64 0)] fun H16 =>
 ∃ n17, ∃ a18 i19, ∃ n20, ∃ n21, H16.cellsAt i3 0 4 = some [(.int .i64 n17), (.slice a18 i19 0), (.int .u64 n20), (.int .i64 n21)] ∧
 R (.agg #[(.int .i64 n17), (.slice a18 i19 0), (.int .u64 n20), (.int .i64 n21)]) H16)
 else (
 ∃ n22, H4.cell i1 1 = some (.int .u64 n22) ∧
 bif (n22 == (IntKind.u64.wrap (IntKind.i64.wrap (n7 - 1)))) then (
 stc H4 i3 0 [(.int .i64 2), (.slice none 0 0), (.int .u64 0), (.int .i64 0)] fun H23 =>
 ∃ n24, ∃ a25 i26, ∃ n27, ∃ n28, H23.cellsAt i3 0 4 = some [(.int .i64 n24), (.slice a25 i26 0), (.int .u64 n27), (.int .i64 n28)] ∧
 R (.agg #[(.int .i64 n24), (.slice a25 i26 0), (.int .u64 n27), (.int .i64 n28)]) H23)
 else (
 ∃ n29, H4.cell i1 1 = some (.int .u64 n29) ∧
 stc H4 i3 0 [(.int .i64 0), (.slice none 0 0), (.int .u64 (IntKind.u64.wrap (n29 + 1))), (.int .i64 0)] fun H30 =>
 ∃ n31, ∃ a32 i33, ∃ n34, ∃ n35, H30.cellsAt i3 0 4 = some [(.int .i64 n31), (.slice a32 i33 0), (.int .u64 n34), (.int .i64 n35)] ∧
 R (.agg #[(.int .i64 n31), (.slice a32 i33 0), (.int .u64 n34), (.int .i64 n35)]) H30)))) →
    CA en F.record_Map_behind [(.pointer x0), (.agg #[(.int .i64 x1_0), (.int .u64 x1_1), (.slice x1_2 x1_2l 0), (.int .i64 x1_3), (.int .i64 x1_4)])] H R := by
  intro h
  refine wpFn_ok (Z := []) (fn := Go.Proofs.Try.f46) ?_ ?_ ?_
  · kernel_rfl
  · kernel_rfl
  · apply turnInto h
    kernel_rfl


/-! record_Run_look -/

theorem vc_record_Run_look (x0 : Option Addr) (H : Heap) (R : Value → Heap → Prop) :
    (
 AS.asAddr (.pointer x0) fun i1 i2 =>
 ∃ a3, (H.bump 25).cell i1 i2 = some (.pointer a3) ∧
 AS.asAddr (.pointer a3) fun i4 i5 =>
 ∃ a6, (H.bump 25).cell i4 i5 = some (.pointer a6) ∧
 AS.asAddr (.pointer x0) fun i7 i8 =>
 ∃ a9, (H.bump 25).cell i7 i8 = some (.pointer a9) ∧
 AS.asAddr (.pointer a9) fun i10 i11 =>
 ∃ n12, (H.bump 25).cell i10 (i11 + 6) = some (.int .i64 n12) ∧
 AS.asAddr (.pointer x0) fun i13 i14 =>
 ∃ n15, (H.bump 25).cell i13 (i14 + 12) = some (.int .i64 n15) ∧
 CA en F.lock_Read [(.pointer a6), (.int .i64 n12), (.int .i64 (IntKind.i64.wrap (n15 + 2)))] (H.bump 25) fun v16 H17 =>
 ∃ n18, ∃ b19, v16 = (.tuple #[(.int .u64 n18), (.bool b19)]) ∧
 (
 bif b19 then (
 AS.asAddr (.pointer x0) fun i20 i21 =>
 stc H17 i20 (i21 + 14) [(.int .u64 n18)] fun H22 =>
 AS.asAddr (.pointer x0) fun i23 i24 =>
 stc H22 i23 (i24 + 13) [(.int .i64 0)] fun H25 =>
 AS.asAddr (.pointer x0) fun i26 i27 =>
 stc H25 i26 ((i27 + 6) + 1) [(.slice none 0 0)] fun H28 =>
 AS.asAddr (.pointer x0) fun i29 i30 =>
 stc H28 i29 (i30 + 10) [(.func (.func F.record_Run_load) #[(.pointer x0)] #[])] fun H31 =>
 R (.tuple #[(.bool false), (.bool false)]) H31)
 else (
 R (.tuple #[(.bool false), (.bool false)]) H17)) ∧
 True) →
    CA en F.record_Run_look [(.pointer x0)] H R := by
  intro h
  refine wpFn_ok (Z := []) (fn := Go.Proofs.Try.f47) ?_ ?_ ?_
  · kernel_rfl
  · kernel_rfl
  · apply turnInto h
    kernel_rfl


/-! record_Run_take -/

theorem vc_record_Run_take (x0 : Option Addr) (H : Heap) (R : Value → Heap → Prop) :
    (
 AS.asAddr (.pointer x0) fun i1 i2 =>
 ∃ a3, H.cell i1 (i2 + 11) = some (.pointer a3) ∧
 CA en F.lock_Taker_Step [(.pointer a3)] H fun v4 H5 =>
 ∃ b6, v4 = (.bool b6) ∧
 bif b6 then (
 AS.asAddr (.pointer x0) fun i7 i8 =>
 stc H5 i7 (i8 + 10) [(.func (.func F.record_Run_begin) #[(.pointer x0)] #[])] fun H9 =>
 R (.tuple #[(.bool false), (.bool false)]) H9)
 else (
 R (.tuple #[(.bool false), (.bool false)]) H5)) →
    CA en F.record_Run_take [(.pointer x0)] H R := by
  intro h
  refine wpFn_ok (Z := []) (fn := Go.Proofs.Try.f48) ?_ ?_ ?_
  · kernel_rfl
  · kernel_rfl
  · apply turnInto h
    kernel_rfl


/-! record_Run_now_1 -/

theorem vc_record_Run_now_1 (c0 : Option Addr) (c1 : Option Addr) (H : Heap) (R : Value → Heap → Prop) :
    (
 AS.asAddr (.pointer c1) fun i1 i2 =>
 ∃ a3, (H.bump 11).cell i1 i2 = some (.pointer a3) ∧
 AS.asAddr (.pointer c1) fun i4 i5 =>
 ∃ a6, (H.bump 11).cell i4 i5 = some (.pointer a6) ∧
 AS.asAddr (.pointer c0) fun i7 i8 =>
 ∃ n9, ∃ a10 i11, ∃ n12, ∃ n13, (H.bump 11).cellsAt i7 i8 4 = some [(.int .i64 n9), (.slice a10 i11 0), (.int .u64 n12), (.int .i64 n13)] ∧
 AS.asAddr (.pointer c1) fun i14 i15 =>
 ∃ a16, (H.bump 11).cell i14 i15 = some (.pointer a16) ∧
 AS.asAddr (.pointer a3) fun i17 i18 =>
 stc (H.bump 11) i17 (i18 + 6) [(.int .i64 n9), (.slice a10 i11 0), (.int .u64 n12), (.int .i64 n13)] fun H19 =>
 AS.asAddr (.pointer a6) fun i20 i21 =>
 stc H19 i20 (i21 + 10) [(.func (.func F.record_Run_over) #[(.pointer a16)] #[])] fun H22 =>
 (
 R (.tuple #[(.bool true), (.bool true)]) H22) ∧
 ((AS.asAddr (.pointer c1) fun i26 i27 =>
 ∃ a28, (H.bump 11).cell i26 i27 = some (.pointer a28) ∧
 a16 = a28) ∧ (AS.asAddr (.pointer c1) fun i23 i24 =>
 ∃ a25, H19.cell i23 i24 = some (.pointer a25) ∧
 a16 = a25) ∧ True) ∧
 ((AS.asAddr (.pointer c1) fun i32 i33 =>
 ∃ a34, (H.bump 11).cell i32 i33 = some (.pointer a34) ∧
 a6 = a34) ∧ (AS.asAddr (.pointer c1) fun i29 i30 =>
 ∃ a31, H19.cell i29 i30 = some (.pointer a31) ∧
 a6 = a31) ∧ True) ∧
 True) →
    CA en F.record_Run_now_1 [(.pointer c0), (.pointer c1)] H R := by
  intro h
  refine wpFn_ok (Z := []) (fn := Go.Proofs.Try.f67) ?_ ?_ ?_
  · kernel_rfl
  · kernel_rfl
  · apply turnInto h
    kernel_rfl


/-! record_Run_over -/

theorem vc_record_Run_over (x0 : Option Addr) (H : Heap) (R : Value → Heap → Prop) :
    (
 R (.tuple #[(.bool false), (.bool true)]) H) →
    CA en F.record_Run_over [(.pointer x0)] H R := by
  intro h
  refine wpFn_ok (Z := []) (fn := Go.Proofs.Try.f68) ?_ ?_ ?_
  · kernel_rfl
  · kernel_rfl
  · apply turnInto h
    kernel_rfl


/-! record_Run_load -/

theorem vc_record_Run_load (x0 : Option Addr) (H : Heap) (R : Value → Heap → Prop) :
    (
 AS.asAddr (.pointer x0) fun i1 i2 =>
 ∃ a3, (H.bump 30).cell i1 i2 = some (.pointer a3) ∧
 AS.asAddr (.pointer a3) fun i4 i5 =>
 ∃ a6, (H.bump 30).cell i4 i5 = some (.pointer a6) ∧
 AS.asAddr (.pointer x0) fun i7 i8 =>
 ∃ a9, (H.bump 30).cell i7 i8 = some (.pointer a9) ∧
 AS.asAddr (.pointer a9) fun i10 i11 =>
 ∃ n12, (H.bump 30).cell i10 (i11 + 6) = some (.int .i64 n12) ∧
 AS.asAddr (.pointer x0) fun i13 i14 =>
 ∃ n15, (H.bump 30).cell i13 (i14 + 12) = some (.int .i64 n15) ∧
 AS.asAddr (.pointer x0) fun i16 i17 =>
 ∃ n18, (H.bump 30).cell i16 (i17 + 13) = some (.int .i64 n18) ∧
 CA en F.smem_Mem_Load [(.pointer a6), (.int .i64 n12), (.int .i64 (IntKind.i64.wrap ((IntKind.i64.wrap (n15 + 3)) + n18)))] (H.bump 30) fun v19 H20 =>
 ∃ n21, ∃ b22, v19 = (.tuple #[(.int .u64 n21), (.bool b22)]) ∧
 (
 AS.asAddr (.pointer x0) fun i23 i24 =>
 ∃ a25 i26, H20.cell i23 ((i24 + 6) + 1) = some (.slice a25 i26 0) ∧
 nwH H20 (.cells true 1 [(.int .u64 n21)]) fun i27 H28 =>
 ∃ l29, rowOf H28 1 (some ⟨i27, 0, none⟩) 1 = some l29 ∧
 apd H28 8 1 a25 i26 1 l29 fun a30 i31 H32 =>
 AS.asAddr (.pointer x0) fun i33 i34 =>
 stc H32 i33 ((i34 + 6) + 1) [(.slice a30 i31 0)] fun H35 =>
 AS.asAddr (.pointer x0) fun i36 i37 =>
 ∃ n38, H35.cell i36 (i37 + 13) = some (.int .i64 n38) ∧
 AS.asAddr (.pointer x0) fun i39 i40 =>
 stc H35 i39 (i40 + 13) [(.int .i64 (IntKind.i64.wrap (n38 + 1)))] fun H41 =>
 AS.asAddr (.pointer x0) fun i42 i43 =>
 ∃ n44, (H41.bump 13).cell i42 (i43 + 13) = some (.int .i64 n44) ∧
 AS.asAddr (.pointer x0) fun i45 i46 =>
 ∃ a47, (H41.bump 13).cell i45 i46 = some (.pointer a47) ∧
 AS.asAddr (.pointer a47) fun i48 i49 =>
 ∃ n50, (H41.bump 13).cell i48 ((i49 + 1) + 2) = some (.int .i64 n50) ∧
 (
 bif (n44 == n50) then (
 AS.asAddr (.pointer x0) fun i51 i52 =>
 stc (H41.bump 13) i51 (i52 + 10) [(.func (.func F.record_Run_same) #[(.pointer x0)] #[])] fun H53 =>
 R (.tuple #[(.bool false), (.bool false)]) H53)
 else (
 R (.tuple #[(.bool false), (.bool false)]) (H41.bump 13))) ∧
 True) ∧
 True) →
    CA en F.record_Run_load [(.pointer x0)] H R := by
  intro h
  refine wpFn_ok (Z := []) (fn := Go.Proofs.Try.f70) ?_ ?_ ?_
  · kernel_rfl
  · kernel_rfl
  · apply turnInto h
    kernel_rfl


/-! record_Run_begin -/

theorem vc_record_Run_begin (x0 : Option Addr) (H : Heap) (R : Value → Heap → Prop) :
    (
 AS.asAddr (.pointer x0) fun i1 i2 =>
 ∃ a3, (H.bump 20).cell i1 i2 = some (.pointer a3) ∧
 AS.asAddr (.pointer a3) fun i4 i5 =>
 ∃ a6, (H.bump 20).cell i4 i5 = some (.pointer a6) ∧
 AS.asAddr (.pointer x0) fun i7 i8 =>
 ∃ a9, (H.bump 20).cell i7 i8 = some (.pointer a9) ∧
 AS.asAddr (.pointer a9) fun i10 i11 =>
 ∃ n12, (H.bump 20).cell i10 (i11 + 6) = some (.int .i64 n12) ∧
 AS.asAddr (.pointer x0) fun i13 i14 =>
 ∃ n15, (H.bump 20).cell i13 (i14 + 12) = some (.int .i64 n15) ∧
 CA en F.lock_Begin [(.pointer a6), (.int .i64 n12), (.int .i64 (IntKind.i64.wrap (n15 + 2)))] (H.bump 20) fun v16 H17 =>
 ∃ b18, v16 = (.bool b18) ∧
 (
 AS.asAddr (.pointer x0) fun i19 i20 =>
 stc H17 i19 (i20 + 10) [(.func (.func F.record_Run_store) #[(.pointer x0)] #[])] fun H21 =>
 R (.tuple #[(.bool false), (.bool false)]) H21) ∧
 True) →
    CA en F.record_Run_begin [(.pointer x0)] H R := by
  intro h
  refine wpFn_ok (Z := []) (fn := Go.Proofs.Try.f71) ?_ ?_ ?_
  · kernel_rfl
  · kernel_rfl
  · apply turnInto h
    kernel_rfl


/-! record_Run_same -/

theorem vc_record_Run_same (x0 : Option Addr) (H : Heap) (R : Value → Heap → Prop) :
    (
 AS.asAddr (.pointer x0) fun i1 i2 =>
 ∃ a3, (H.bump 25).cell i1 i2 = some (.pointer a3) ∧
 AS.asAddr (.pointer a3) fun i4 i5 =>
 ∃ a6, (H.bump 25).cell i4 i5 = some (.pointer a6) ∧
 AS.asAddr (.pointer x0) fun i7 i8 =>
 ∃ a9, (H.bump 25).cell i7 i8 = some (.pointer a9) ∧
 AS.asAddr (.pointer a9) fun i10 i11 =>
 ∃ n12, (H.bump 25).cell i10 (i11 + 6) = some (.int .i64 n12) ∧
 AS.asAddr (.pointer x0) fun i13 i14 =>
 ∃ n15, (H.bump 25).cell i13 (i14 + 12) = some (.int .i64 n15) ∧
 AS.asAddr (.pointer x0) fun i16 i17 =>
 ∃ n18, (H.bump 25).cell i16 (i17 + 14) = some (.int .u64 n18) ∧
 CA en F.lock_Same [(.pointer a6), (.int .i64 n12), (.int .i64 (IntKind.i64.wrap (n15 + 2))), (.int .u64 n18)] (H.bump 25) fun v19 H20 =>
 ∃ b21, v19 = (.bool b21) ∧
 (
 bif (!b21) then (
 AS.asAddr (.pointer x0) fun i22 i23 =>
 stc H20 i22 (i23 + 10) [(.func (.func F.record_Run_look) #[(.pointer x0)] #[])] fun H24 =>
 R (.tuple #[(.bool false), (.bool false)]) H24)
 else (
 AS.asAddr (.pointer x0) fun i25 i26 =>
 stc H20 i25 (i26 + 10) [(.func (.func F.record_Run_over) #[(.pointer x0)] #[])] fun H27 =>
 R (.tuple #[(.bool true), (.bool true)]) H27)) ∧
 True) →
    CA en F.record_Run_same [(.pointer x0)] H R := by
  intro h
  refine wpFn_ok (Z := []) (fn := Go.Proofs.Try.f86) ?_ ?_ ?_
  · kernel_rfl
  · kernel_rfl
  · apply turnInto h
    kernel_rfl


/-! record_Run_store -/

theorem vc_record_Run_store (x0 : Option Addr) (H : Heap) (R : Value → Heap → Prop) :
    (
 AS.asAddr (.pointer x0) fun i1 i2 =>
 ∃ a3, (H.bump 36).cell i1 i2 = some (.pointer a3) ∧
 AS.asAddr (.pointer a3) fun i4 i5 =>
 ∃ a6, (H.bump 36).cell i4 i5 = some (.pointer a6) ∧
 AS.asAddr (.pointer x0) fun i7 i8 =>
 ∃ a9, (H.bump 36).cell i7 i8 = some (.pointer a9) ∧
 AS.asAddr (.pointer a9) fun i10 i11 =>
 ∃ n12, (H.bump 36).cell i10 (i11 + 6) = some (.int .i64 n12) ∧
 AS.asAddr (.pointer x0) fun i13 i14 =>
 ∃ n15, (H.bump 36).cell i13 (i14 + 12) = some (.int .i64 n15) ∧
 AS.asAddr (.pointer x0) fun i16 i17 =>
 ∃ n18, (H.bump 36).cell i16 (i17 + 13) = some (.int .i64 n18) ∧
 AS.asAddr (.pointer x0) fun i19 i20 =>
 ∃ a21 i22, (H.bump 36).cell i19 ((i20 + 1) + 2) = some (.slice a21 i22 0) ∧
 AS.asAddr (.pointer x0) fun i23 i24 =>
 ∃ n25, (H.bump 36).cell i23 (i24 + 13) = some (.int .i64 n25) ∧
 inB n25 i22 ∧
 asRow a21 fun i26 i27 =>
 ∃ n28, (H.bump 36).cell i26 (i27 + (n25.toNat * 1)) = some (.int .u64 n28) ∧
 CA en F.smem_Mem_Store [(.pointer a6), (.int .i64 n12), (.int .i64 (IntKind.i64.wrap ((IntKind.i64.wrap (n15 + 3)) + n18))), (.int .u64 n28)] (H.bump 36) fun v29 H30 =>
 ∃ b31, v29 = (.bool b31) ∧
 (
 AS.asAddr (.pointer x0) fun i32 i33 =>
 ∃ n34, H30.cell i32 (i33 + 13) = some (.int .i64 n34) ∧
 AS.asAddr (.pointer x0) fun i35 i36 =>
 stc H30 i35 (i36 + 13) [(.int .i64 (IntKind.i64.wrap (n34 + 1)))] fun H37 =>
 AS.asAddr (.pointer x0) fun i38 i39 =>
 ∃ n40, (H37.bump 13).cell i38 (i39 + 13) = some (.int .i64 n40) ∧
 AS.asAddr (.pointer x0) fun i41 i42 =>
 ∃ a43, (H37.bump 13).cell i41 i42 = some (.pointer a43) ∧
 AS.asAddr (.pointer a43) fun i44 i45 =>
 ∃ n46, (H37.bump 13).cell i44 ((i45 + 1) + 2) = some (.int .i64 n46) ∧
 (
 bif (n40 == n46) then (
 AS.asAddr (.pointer x0) fun i47 i48 =>
 stc (H37.bump 13) i47 (i48 + 10) [(.func (.func F.record_Run_end) #[(.pointer x0)] #[])] fun H49 =>
 R (.tuple #[(.bool false), (.bool false)]) H49)
 else (
 R (.tuple #[(.bool false), (.bool false)]) (H37.bump 13))) ∧
 True) ∧
 True) →
    CA en F.record_Run_store [(.pointer x0)] H R := by
  intro h
  refine wpFn_ok (Z := []) (fn := Go.Proofs.Try.f88) ?_ ?_ ?_
  · kernel_rfl
  · kernel_rfl
  · apply turnInto h
    kernel_rfl


/-! record_Run_end -/

theorem vc_record_Run_end (x0 : Option Addr) (H : Heap) (R : Value → Heap → Prop) :
    (
 AS.asAddr (.pointer x0) fun i1 i2 =>
 ∃ a3, (H.bump 20).cell i1 i2 = some (.pointer a3) ∧
 AS.asAddr (.pointer a3) fun i4 i5 =>
 ∃ a6, (H.bump 20).cell i4 i5 = some (.pointer a6) ∧
 AS.asAddr (.pointer x0) fun i7 i8 =>
 ∃ a9, (H.bump 20).cell i7 i8 = some (.pointer a9) ∧
 AS.asAddr (.pointer a9) fun i10 i11 =>
 ∃ n12, (H.bump 20).cell i10 (i11 + 6) = some (.int .i64 n12) ∧
 AS.asAddr (.pointer x0) fun i13 i14 =>
 ∃ n15, (H.bump 20).cell i13 (i14 + 12) = some (.int .i64 n15) ∧
 CA en F.lock_End [(.pointer a6), (.int .i64 n12), (.int .i64 (IntKind.i64.wrap (n15 + 2)))] (H.bump 20) fun v16 H17 =>
 ∃ b18, v16 = (.bool b18) ∧
 (
 AS.asAddr (.pointer x0) fun i19 i20 =>
 stc H17 i19 (i20 + 10) [(.func (.func F.record_Run_drop) #[(.pointer x0)] #[])] fun H21 =>
 R (.tuple #[(.bool true), (.bool false)]) H21) ∧
 True) →
    CA en F.record_Run_end [(.pointer x0)] H R := by
  intro h
  refine wpFn_ok (Z := []) (fn := Go.Proofs.Try.f99) ?_ ?_ ?_
  · kernel_rfl
  · kernel_rfl
  · apply turnInto h
    kernel_rfl


/-! record_Run_drop -/

theorem vc_record_Run_drop (x0 : Option Addr) (H : Heap) (R : Value → Heap → Prop) :
    (
 AS.asAddr (.pointer x0) fun i1 i2 =>
 ∃ a3, (H.bump 19).cell i1 i2 = some (.pointer a3) ∧
 AS.asAddr (.pointer a3) fun i4 i5 =>
 ∃ a6, (H.bump 19).cell i4 i5 = some (.pointer a6) ∧
 AS.asAddr (.pointer x0) fun i7 i8 =>
 ∃ a9, (H.bump 19).cell i7 i8 = some (.pointer a9) ∧
 AS.asAddr (.pointer a9) fun i10 i11 =>
 ∃ n12, (H.bump 19).cell i10 (i11 + 6) = some (.int .i64 n12) ∧
 AS.asAddr (.pointer x0) fun i13 i14 =>
 ∃ n15, (H.bump 19).cell i13 (i14 + 12) = some (.int .i64 n15) ∧
 CA en F.lock_Drop [(.pointer a6), (.int .i64 n12), (.int .i64 n15)] (H.bump 19) fun v16 H17 =>
 ∃ b18, v16 = (.bool b18) ∧
 (
 AS.asAddr (.pointer x0) fun i19 i20 =>
 stc H17 i19 (i20 + 10) [(.func (.func F.record_Run_over) #[(.pointer x0)] #[])] fun H21 =>
 R (.tuple #[(.bool false), (.bool true)]) H21) ∧
 True) →
    CA en F.record_Run_drop [(.pointer x0)] H R := by
  intro h
  refine wpFn_ok (Z := []) (fn := Go.Proofs.Try.f107) ?_ ?_ ?_
  · kernel_rfl
  · kernel_rfl
  · apply turnInto h
    kernel_rfl


/-! crossbarlaw14_made -/

theorem vc_crossbarlaw14_made (x0_0 : Int) (x0_1 : Int) (x0_2 : Int) (x0_3 : Int) (x0_4 : Int) (x1 : Int) (H : Heap) (R : Value → Heap → Prop) :
    (
 nwH H (.cells true 0 [(.int .i64 x0_0), (.int .i64 x0_1), (.int .i64 x0_2), (.int .i64 x0_3), (.int .i64 x0_4)]) fun i1 H2 =>
 CA en F.smem_New [(.int .i64 x1)] H2 fun v3 H4 =>
 ∃ a5, v3 = (.pointer a5) ∧
 bif a5.isNone then (
 R (.tuple #[(.pointer none), (.pointer none)]) H4)
 else (
 CA en F.grace_New [(.int .i64 1), (.pointer a5)] (H4.bump 10) fun v6 H7 =>
 ∃ a8, v6 = (.pointer a8) ∧
 ∃ n9, ∃ n10, ∃ n11, ∃ n12, ∃ n13, H7.cellsAt i1 0 5 = some [(.int .i64 n9), (.int .i64 n10), (.int .i64 n11), (.int .i64 n12), (.int .i64 n13)] ∧
 CA en F.record_New [(.pointer a5), (.pointer a8), (.agg #[(.int .i64 n9), (.int .i64 n10), (.int .i64 n11), (.int .i64 n12), (.int .i64 n13)]), (.int .i64 1)] H7 fun v14 H15 =>
 ∃ a16, ∃ n17, v14 = (.tuple #[(.pointer a16), (.int .i64 n17)]) ∧
 (
 bif (n17 != 0) then (
 R (.tuple #[(.pointer none), (.pointer none)]) H15)
 else (
 R (.tuple #[(.pointer a5), (.pointer a16)]) H15)) ∧
 ((∃ n23, ∃ n24, ∃ n25, ∃ n26, ∃ n27, (H4.bump 10).cellsAt i1 0 5 = some [(.int .i64 n23), (.int .i64 n24), (.int .i64 n25), (.int .i64 n26), (.int .i64 n27)] ∧
 sameN 8 (.agg #[(.int .i64 n9), (.int .i64 n10), (.int .i64 n11), (.int .i64 n12), (.int .i64 n13)]) (.agg #[(.int .i64 n23), (.int .i64 n24), (.int .i64 n25), (.int .i64 n26), (.int .i64 n27)]) = true) ∧ (∃ n18, ∃ n19, ∃ n20, ∃ n21, ∃ n22, H7.cellsAt i1 0 5 = some [(.int .i64 n18), (.int .i64 n19), (.int .i64 n20), (.int .i64 n21), (.int .i64 n22)] ∧
 sameN 8 (.agg #[(.int .i64 n9), (.int .i64 n10), (.int .i64 n11), (.int .i64 n12), (.int .i64 n13)]) (.agg #[(.int .i64 n18), (.int .i64 n19), (.int .i64 n20), (.int .i64 n21), (.int .i64 n22)]) = true) ∧ True) ∧
 True)) →
    CA en F.crossbarlaw14_made [(.agg #[(.int .i64 x0_0), (.int .i64 x0_1), (.int .i64 x0_2), (.int .i64 x0_3), (.int .i64 x0_4)]), (.int .i64 x1)] H R := by
  intro h
  refine wpFn_ok (Z := []) (fn := Go.Proofs.Try.f22) ?_ ?_ ?_
  · kernel_rfl
  · kernel_rfl
  · apply turnInto h
    kernel_rfl


/-! crossbarlaw14_RecordWhole -/
noncomputable def L_crossbarlaw14_RecordWhole_0 : Code := loopAt Go.Proofs.Try.f5 0
noncomputable def L_crossbarlaw14_RecordWhole_1 : Code := loopAt Go.Proofs.Try.f5 1
noncomputable def L_crossbarlaw14_RecordWhole_2 : Code := loopAt Go.Proofs.Try.f5 2

theorem vc_crossbarlaw14_RecordWhole (x0 : Int) (x1 : Int) (x2 : Int) (x3 : Option Addr) (x3l : Nat) (H : Heap) (R : Value → Heap → Prop) :
    (
 bif (decide (((x3l : Nat) : Int) > 1500)) then (
 CA en F.crossbarlaw14_known [] H fun v1 H2 =>
 ∃ b3, v1 = (.bool b3) ∧
 R (.bool b3) H2)
 else (
 CA en F.crossbarkit_Pick [(.int .i64 x0), (.int .i64 4)] H fun v4 H5 =>
 ∃ n6, v4 = (.int .i64 n6) ∧
 nwH H5 (.cells true 0 [(.int .i64 0), (.int .i64 0), (.int .i64 0), (.int .i64 0), (.int .i64 0)]) fun i7 H8 =>
 stc H8 i7 0 [(.int .i64 3), (.int .i64 1), (.int .i64 (IntKind.i64.wrap (1 + n6))), (.int .i64 0), (.int .i64 0)] fun H9 =>
 ∃ n10, ∃ n11, ∃ n12, ∃ n13, ∃ n14, H9.cellsAt i7 0 5 = some [(.int .i64 n10), (.int .i64 n11), (.int .i64 n12), (.int .i64 n13), (.int .i64 n14)] ∧
 CA en F.crossbarlaw14_made [(.agg #[(.int .i64 n10), (.int .i64 n11), (.int .i64 n12), (.int .i64 n13), (.int .i64 n14)]), (.int .i64 8)] H9 fun v15 H16 =>
 ∃ a17, ∃ a18, v15 = (.tuple #[(.pointer a17), (.pointer a18)]) ∧
 bif a17.isNone then (
 R (.bool false) H16)
 else (
 bif a18.isNone then (
 R (.bool false) H16)
 else (
 CA en F.crossbarkit_Pick [(.int .i64 x1), (.int .i64 3)] H16 fun v19 H20 =>
 ∃ n21, v19 = (.int .i64 n21) ∧
 CA en F.crossbarkit_Pick [(.int .i64 x2), (.int .i64 3)] H20 fun v22 H23 =>
 ∃ n24, v22 = (.int .i64 n24) ∧
 okLen 8 (IntKind.i64.wrap ((IntKind.i64.wrap ((IntKind.i64.wrap (1 + n21)) + 1)) + n24)) (IntKind.i64.wrap ((IntKind.i64.wrap ((IntKind.i64.wrap (1 + n21)) + 1)) + n24)) ∧
 nwH H23 (.cells true 1 (reps (IntKind.i64.wrap ((IntKind.i64.wrap ((IntKind.i64.wrap (1 + n21)) + 1)) + n24)).toNat [(.pointer none)])) fun i25 H26 =>
 LA en L_crossbarlaw14_RecordWhole_0 [(.int .i64 x0), (.int .i64 x1), (.int .i64 x2), (.slice x3 x3l 0), undef, undef, undef, undef, (.bool false), (.pointer (some ⟨i7, 0, none⟩)), (.pointer a17), (.pointer a18), (.int .i64 (IntKind.i64.wrap (1 + n21))), (.slice (some ⟨i25, 0, none⟩) (IntKind.i64.wrap ((IntKind.i64.wrap ((IntKind.i64.wrap (1 + n21)) + 1)) + n24)).toNat 0), (.int .u64 0), (.int .i64 0), undef, undef, undef, undef, undef, undef, undef, (.slice x3 x3l 0), (.int .i64 ((x3l : Nat) : Int)), (.bool false), undef, (.int .i64 x0), (.int .i64 n6), (.int .i64 (IntKind.i64.wrap (1 + n6))), (.agg #[(.int .i64 3), (.int .i64 1), (.int .i64 (IntKind.i64.wrap (1 + n6))), (.int .i64 0), (.int .i64 0)]), (.tuple #[(.pointer a17), (.pointer a18)]), (.agg #[(.int .i64 n10), (.int .i64 n11), (.int .i64 n12), (.int .i64 n13), (.int .i64 n14)]), (.tuple #[(.pointer a17), (.pointer a18)]), (.pointer a17), (.pointer a18), (.pointer a17), (.bool a17.isNone), (.bool false), (.pointer a18), (.bool a18.isNone), (.bool false), (.int .i64 x1), (.int .i64 n21), (.int .i64 (IntKind.i64.wrap (1 + n21))), (.int .i64 (IntKind.i64.wrap (1 + n21))), (.int .i64 (IntKind.i64.wrap ((IntKind.i64.wrap (1 + n21)) + 1))), (.int .i64 x2), (.int .i64 n24), (.int .i64 (IntKind.i64.wrap ((IntKind.i64.wrap ((IntKind.i64.wrap (1 + n21)) + 1)) + n24))), (.slice (some ⟨i25, 0, none⟩) (IntKind.i64.wrap ((IntKind.i64.wrap ((IntKind.i64.wrap (1 + n21)) + 1)) + n24)).toNat 0), undef, undef, undef, undef, undef, undef, undef, undef, undef, undef, undef, undef, undef, undef, undef, undef, undef, undef, undef, undef, undef, undef, undef, undef, undef, undef, undef, undef, undef, undef, undef, undef, undef, undef, undef, undef, undef, undef, undef, undef, undef, undef, undef, undef, undef, undef, undef, undef, undef, undef, undef, undef, undef, undef, undef, undef, undef, undef, undef, undef, undef, undef, undef, undef, undef, undef, undef, undef, undef, undef, undef, undef, undef, undef, undef, undef, undef, undef, undef, undef, undef, undef, undef, undef, undef, undef, undef, undef, undef, undef, undef, undef, undef, undef, undef, undef, undef, undef, undef, undef, undef, undef, undef, undef] H26 [(X.exit 0, fun (y27 : Fr) (H28 : Heap) =>
 AS.asBool (y27.getD 8 undef) fun b29 =>
 CA en F.smem_Mem_Bad [(.pointer a17)] H28 fun v30 H31 =>
 ∃ n32, v30 = (.int .i64 n32) ∧
 bif (n32 == 0) then (
 CA en F.crossbarlaw14_known [] H31 fun v33 H34 =>
 ∃ b35, v33 = (.bool b35) ∧
 R (.bool b35) H34)
 else (
 R (.bool false) H31)),
 (X.ret, fun (y36 : Fr) (H37 : Heap) =>
 AS.asBool (y36.getD 8 undef) fun b38 =>
 R (.bool b38) H37),
 (X.ret, fun (y39 : Fr) (H40 : Heap) =>
 AS.asBool (y39.getD 8 undef) fun b41 =>
 R (.bool b41) H40)])))) →
    CA en F.crossbarlaw14_RecordWhole [(.int .i64 x0), (.int .i64 x1), (.int .i64 x2), (.slice x3 x3l 0)] H R := by
  intro h
  refine wpFn_ok (Z := [[(8, (.bool false))], [], [(8, (.bool false))]]) (fn := Go.Proofs.Try.f5) ?_ ?_ ?_
  · kernel_rfl
  · kernel_rfl
  · apply turnInto h
    kernel_rfl

theorem use_crossbarlaw14_RecordWhole_0 {t0 : Int} {t1 : Int} {t2 : Int} {t3 : Option Addr} {t3l : Nat} {t9 : Nat} {t10 : Option Addr} {t11 : Option Addr} {t12 : Int} {t13 : Nat} {t13l : Nat} {t23 : Option Addr} {t23l : Nat} {t24 : Int} {t27 : Int} {t28 : Int} {t29 : Int} {t30_2 : Int} {t31_0 : Option Addr} {t31_1 : Option Addr} {t32_0 : Int} {t32_1 : Int} {t32_2 : Int} {t32_3 : Int} {t32_4 : Int} {t33_0 : Option Addr} {t33_1 : Option Addr} {t34 : Option Addr} {t35 : Option Addr} {t36 : Option Addr} {t37 : Bool} {t39 : Option Addr} {t40 : Bool} {t42 : Int} {t43 : Int} {t44 : Int} {t45 : Int} {t46 : Int} {t47 : Int} {t48 : Int} {t49 : Int} {t50 : Nat} {t50l : Nat} {K0 : Fr → Heap → Prop} {K1 : Fr → Heap → Prop} {K2 : Fr → Heap → Prop} {t8 : Bool} {t14 : Int} {t15 : Int} {t16 : Value} {t17 : Value} {t18 : Value} {t19 : Value} {t20 : Value} {t21 : Value} {t22 : Value} {t51 : Value} {t52 : Value} {t53 : Value} {t54 : Value} {t55 : Value} {t56 : Value} {t57 : Value} {t58 : Value} {t59 : Value} {t60 : Value} {t61 : Value} {t62 : Value} {t63 : Value} {t64 : Value} {t65 : Value} {t66 : Value} {t67 : Value} {t68 : Value} {t69 : Value} {t70 : Value} {t71 : Value} {t72 : Value} {t73 : Value} {t74 : Value} {t75 : Value} {t76 : Value} {t77 : Value} {t78 : Value} {t79 : Value} {t80 : Value} {t81 : Value} {t82 : Value} {t83 : Value} {t84 : Value} {t85 : Value} {t86 : Value} {t87 : Value} {t88 : Value} {t89 : Value} {t90 : Value} {t91 : Value} {t92 : Value} {t93 : Value} {t94 : Value} {t95 : Value} {t96 : Value} {t97 : Value} {t98 : Value} {t99 : Value} {t100 : Value} {t101 : Value} {t102 : Value} {t103 : Value} {t104 : Value} {t105 : Value} {t106 : Value} {t107 : Value} {t108 : Value} {t109 : Value} {t110 : Value} {t111 : Value} {t112 : Value} {t113 : Value} {t114 : Value} {t115 : Value} {t116 : Value} {t117 : Value} {t118 : Value} {t119 : Value} {t120 : Value} {t121 : Value} {t122 : Value} {t123 : Value} {t124 : Value} {t125 : Value} {t126 : Value} {t127 : Value} {t128 : Value} {t129 : Value} {t130 : Value} {t131 : Value} {t132 : Value} {t133 : Value} {t134 : Value} {t135 : Value} {t136 : Value} {t137 : Value} {t138 : Value} {t139 : Value} {t140 : Value} {t141 : Value} {t142 : Value} {t143 : Value} {t144 : Value} {t145 : Value} {t146 : Value} {t147 : Value} {t148 : Value} {H : Heap} (I : Nat → Bool → Int → Int → Heap → Prop) (n : Nat) (h0 : I n t8 t14 t15 H)
    (hstep : ∀ (n : Nat) (t8 : Bool) (t14 : Int) (t15 : Int) (ys : Fr) (H : Heap), I n t8 t14 t15 H →
    (
 bif (decide (t15 < ((t3l : Nat) : Int))) then (
 inB t15 t3l ∧
 asRow t3 fun i1 i2 =>
 ∃ n3, H.cell i1 (i2 + (t15.toNat * 1)) = some (.int .i64 n3) ∧
 CA en F.crossbarkit_Pick [(.int .i64 n3), (.int .i64 ((t13l : Nat) : Int))] H fun v4 H5 =>
 ∃ n6, v4 = (.int .i64 n6) ∧
 ∃ J7 : List Value → Heap → Prop, (
 inB n6 t13l ∧
 ∃ a8, H5.cell t13 (0 + (n6.toNat * 1)) = some (.pointer a8) ∧
 bif a8.isNone then (
 nwH H5 (.cells true 0 [(.int .i64 0), (.int .u64 0), (.slice none 0 0), (.int .i64 0), (.int .i64 0)]) fun i9 H10 =>
 stc H10 i9 0 [(.int .i64 1), (.int .u64 0), (.slice none 0 0), (.int .i64 0), (.int .i64 0)] fun H11 =>
 ∃ J12 : List Value → Heap → Prop, (
 bif (decide (n6 < t12)) then (
 stc H11 i9 0 [(.int .i64 2), (.int .u64 0), (.slice none 0 0), (.int .i64 0), (.int .i64 0)] fun H13 =>
 LA en L_crossbarlaw14_RecordWhole_1 [(.int .i64 t0), (.int .i64 t1), (.int .i64 t2), (.slice t3 t3l 0), undef, undef, undef, undef, (.bool t8), (.pointer (some ⟨t9, 0, none⟩)), (.pointer t10), (.pointer t11), (.int .i64 t12), (.slice (some ⟨t13, 0, none⟩) t13l 0), (.int .u64 (IntKind.u64.wrap (t14 + 1))), (.int .i64 t15), (.int .i64 n6), (.pointer (some ⟨i9, 0, none⟩)), (.int .i64 0), (ys.getD 19 undef), (ys.getD 20 undef), (ys.getD 21 undef), (ys.getD 22 undef), (.slice t23 t23l 0), (.int .i64 t24), (.bool false), undef, (.int .i64 t27), (.int .i64 t28), (.int .i64 t29), (.agg #[(.int .i64 3), (.int .i64 1), (.int .i64 t30_2), (.int .i64 0), (.int .i64 0)]), (.tuple #[(.pointer t31_0), (.pointer t31_1)]), (.agg #[(.int .i64 t32_0), (.int .i64 t32_1), (.int .i64 t32_2), (.int .i64 t32_3), (.int .i64 t32_4)]), (.tuple #[(.pointer t33_0), (.pointer t33_1)]), (.pointer t34), (.pointer t35), (.pointer t36), (.bool t37), (.bool false), (.pointer t39), (.bool t40), (.bool false), (.int .i64 t42), (.int .i64 t43), (.int .i64 t44), (.int .i64 t45), (.int .i64 t46), (.int .i64 t47), (.int .i64 t48), (.int .i64 t49), (.slice (some ⟨t50, 0, none⟩) t50l 0), (.int .i64 t15), (.slice t3 t3l 0), (.int .i64 ((t3l : Nat) : Int)), (.bool true), (ys.getD 55 undef), (ys.getD 56 undef), (.slice t3 t3l 0), (.int .i64 t15), (.pointer (some ⟨i1, (i2 + (t15.toNat * 1)), none⟩)), (.int .i64 n3), (.slice (some ⟨t13, 0, none⟩) t13l 0), (.int .i64 ((t13l : Nat) : Int)), (.int .i64 n6), (.slice (some ⟨t13, 0, none⟩) t13l 0), (.int .i64 n6), (.pointer (some ⟨t13, (0 + (n6.toNat * 1)), none⟩)), (.pointer a8), (.bool true), (.agg #[(.int .i64 1), (.int .u64 0), (.slice none 0 0), (.int .i64 0), (.int .i64 0)]), (.int .i64 n6), (.int .i64 t12), (.bool true), (.int .u64 t14), (.int .u64 (IntKind.u64.wrap (t14 + 1))), (.agg #[(.int .i64 2), (.int .u64 0), (.slice none 0 0), (.int .i64 0), (.int .i64 0)]), (ys.getD 76 undef), (ys.getD 77 undef), (ys.getD 78 undef), (ys.getD 79 undef), (ys.getD 80 undef), (ys.getD 81 undef), (ys.getD 82 undef), (ys.getD 83 undef), (ys.getD 84 undef), (ys.getD 85 undef), (ys.getD 86 undef), (ys.getD 87 undef), (ys.getD 88 undef), (ys.getD 89 undef), (ys.getD 90 undef), (ys.getD 91 undef), (ys.getD 92 undef), (ys.getD 93 undef), (ys.getD 94 undef), (ys.getD 95 undef), (ys.getD 96 undef), (ys.getD 97 undef), (ys.getD 98 undef), (ys.getD 99 undef), (ys.getD 100 undef), (ys.getD 101 undef), (ys.getD 102 undef), (ys.getD 103 undef), (ys.getD 104 undef), (ys.getD 105 undef), (ys.getD 106 undef), (ys.getD 107 undef), (ys.getD 108 undef), (ys.getD 109 undef), (ys.getD 110 undef), (ys.getD 111 undef), (ys.getD 112 undef), (ys.getD 113 undef), (ys.getD 114 undef), (ys.getD 115 undef), (ys.getD 116 undef), (ys.getD 117 undef), (ys.getD 118 undef), (ys.getD 119 undef), (ys.getD 120 undef), (ys.getD 121 undef), (ys.getD 122 undef), (ys.getD 123 undef), (ys.getD 124 undef), (ys.getD 125 undef), (ys.getD 126 undef), (ys.getD 127 undef), (ys.getD 128 undef), (ys.getD 129 undef), (ys.getD 130 undef), (ys.getD 131 undef), (ys.getD 132 undef), (ys.getD 133 undef), (ys.getD 134 undef), (ys.getD 135 undef), (ys.getD 136 undef), (ys.getD 137 undef), (ys.getD 138 undef), (ys.getD 139 undef), (ys.getD 140 undef), (ys.getD 141 undef), (ys.getD 142 undef), (ys.getD 143 undef), (ys.getD 144 undef), (ys.getD 145 undef), (ys.getD 146 undef), (ys.getD 147 undef), (ys.getD 148 undef), undef, undef, undef, undef, undef, undef] H13 [(X.exit 2, fun (y14 : Fr) (H15 : Heap) =>
 J12 [(.int .u64 (IntKind.u64.wrap (t14 + 1)))] H15)])
 else (
 J12 [(.int .u64 t14)] H11)) ∧
 ∀ (ys16 : Fr) (H17 : Heap), ∀ n18, J12 [(.int .u64 n18)] H17 →
 ∃ n19, ∃ n20, ∃ a21 i22, ∃ n23, ∃ n24, H17.cellsAt i9 0 5 = some [(.int .i64 n19), (.int .u64 n20), (.slice a21 i22 0), (.int .i64 n23), (.int .i64 n24)] ∧
 CA en F.record_Map_Begin [(.pointer t11), (.agg #[(.int .i64 n19), (.int .u64 n20), (.slice a21 i22 0), (.int .i64 n23), (.int .i64 n24)])] H17 fun v25 H26 =>
 ∃ a27, v25 = (.pointer a27) ∧
 inB n6 t13l ∧
 stc H26 t13 (0 + (n6.toNat * 1)) [(.pointer a27)] fun H28 =>
 inB n6 t13l ∧
 ∃ a29, H28.cell t13 (0 + (n6.toNat * 1)) = some (.pointer a29) ∧
 bif a29.isNone then (
 K1 [(.int .i64 t0), (.int .i64 t1), (.int .i64 t2), (.slice t3 t3l 0), undef, undef, undef, undef, (.bool false), (.pointer (some ⟨t9, 0, none⟩)), (.pointer t10), (.pointer t11), (.int .i64 t12), (.slice (some ⟨t13, 0, none⟩) t13l 0), (.int .u64 n18), (.int .i64 t15), (.int .i64 n6), (.pointer (some ⟨i9, 0, none⟩)), (ys16.getD 18 undef), (ys.getD 19 undef), (ys.getD 20 undef), (ys.getD 21 undef), (ys.getD 22 undef), (.slice t23 t23l 0), (.int .i64 t24), (.bool false), undef, (.int .i64 t27), (.int .i64 t28), (.int .i64 t29), (.agg #[(.int .i64 3), (.int .i64 1), (.int .i64 t30_2), (.int .i64 0), (.int .i64 0)]), (.tuple #[(.pointer t31_0), (.pointer t31_1)]), (.agg #[(.int .i64 t32_0), (.int .i64 t32_1), (.int .i64 t32_2), (.int .i64 t32_3), (.int .i64 t32_4)]), (.tuple #[(.pointer t33_0), (.pointer t33_1)]), (.pointer t34), (.pointer t35), (.pointer t36), (.bool t37), (.bool false), (.pointer t39), (.bool t40), (.bool false), (.int .i64 t42), (.int .i64 t43), (.int .i64 t44), (.int .i64 t45), (.int .i64 t46), (.int .i64 t47), (.int .i64 t48), (.int .i64 t49), (.slice (some ⟨t50, 0, none⟩) t50l 0), (.int .i64 t15), (.slice t3 t3l 0), (.int .i64 ((t3l : Nat) : Int)), (.bool true), (ys.getD 55 undef), (ys.getD 56 undef), (.slice t3 t3l 0), (.int .i64 t15), (.pointer (some ⟨i1, (i2 + (t15.toNat * 1)), none⟩)), (.int .i64 n3), (.slice (some ⟨t13, 0, none⟩) t13l 0), (.int .i64 ((t13l : Nat) : Int)), (.int .i64 n6), (.slice (some ⟨t13, 0, none⟩) t13l 0), (.int .i64 n6), (.pointer (some ⟨t13, (0 + (n6.toNat * 1)), none⟩)), (.pointer a8), (.bool true), (.agg #[(.int .i64 1), (.int .u64 0), (.slice none 0 0), (.int .i64 0), (.int .i64 0)]), (ys16.getD 70 undef), (ys16.getD 71 undef), (ys16.getD 72 undef), (ys16.getD 73 undef), (ys16.getD 74 undef), (ys16.getD 75 undef), (ys16.getD 76 undef), (ys16.getD 77 undef), (ys16.getD 78 undef), (ys16.getD 79 undef), (ys16.getD 80 undef), (ys16.getD 81 undef), (ys16.getD 82 undef), (ys16.getD 83 undef), (ys16.getD 84 undef), (ys16.getD 85 undef), (ys16.getD 86 undef), (ys16.getD 87 undef), (.slice (some ⟨t13, 0, none⟩) t13l 0), (.int .i64 n6), (.pointer t11), (.agg #[(.int .i64 n19), (.int .u64 n20), (.slice a21 i22 0), (.int .i64 n23), (.int .i64 n24)]), (.pointer a27), (.pointer (some ⟨t13, (0 + (n6.toNat * 1)), none⟩)), (.slice (some ⟨t13, 0, none⟩) t13l 0), (.int .i64 n6), (.pointer (some ⟨t13, (0 + (n6.toNat * 1)), none⟩)), (.pointer a29), (.bool true), (ys.getD 99 undef), (ys.getD 100 undef), (ys.getD 101 undef), (ys.getD 102 undef), (ys.getD 103 undef), (ys.getD 104 undef), (ys.getD 105 undef), (ys.getD 106 undef), (ys.getD 107 undef), (ys.getD 108 undef), (ys.getD 109 undef), (ys.getD 110 undef), (ys.getD 111 undef), (ys.getD 112 undef), (ys.getD 113 undef), (ys.getD 114 undef), (ys.getD 115 undef), (ys.getD 116 undef), (ys.getD 117 undef), (ys.getD 118 undef), (ys.getD 119 undef), (ys.getD 120 undef), (ys.getD 121 undef), (ys.getD 122 undef), (ys.getD 123 undef), (ys.getD 124 undef), (ys.getD 125 undef), (ys.getD 126 undef), (ys.getD 127 undef), (ys.getD 128 undef), (ys.getD 129 undef), (ys.getD 130 undef), (ys.getD 131 undef), (ys.getD 132 undef), (ys.getD 133 undef), (ys.getD 134 undef), (ys.getD 135 undef), (ys.getD 136 undef), (ys.getD 137 undef), (ys.getD 138 undef), (ys.getD 139 undef), (ys.getD 140 undef), (ys.getD 141 undef), (ys.getD 142 undef), (ys.getD 143 undef), (ys.getD 144 undef), (ys.getD 145 undef), (ys.getD 146 undef), (ys.getD 147 undef), (ys.getD 148 undef), undef, undef, undef, undef, undef, undef] H28)
 else (
 J7 [(.int .u64 n18), (.bool t8)] H28))
 else (
 J7 [(.int .u64 t14), (.bool t8)] H5)) ∧
 ∀ (ys30 : Fr) (H31 : Heap), ∀ n32, ∀ b33, J7 [(.int .u64 n32), (.bool b33)] H31 →
 inB n6 t13l ∧
 ∃ a34, H31.cell t13 (0 + (n6.toNat * 1)) = some (.pointer a34) ∧
 CA en F.record_Run_Step [(.pointer a34)] H31 fun v35 H36 =>
 ∃ b37, ∃ b38, v35 = (.tuple #[(.bool b37), (.bool b38)]) ∧
 ∃ J39 : List Value → Heap → Prop, (
 bif b37 then (
 bif (decide (n6 ≥ t12)) then (
 inB n6 t13l ∧
 ∃ a40, H36.cell t13 (0 + (n6.toNat * 1)) = some (.pointer a40) ∧
 CA en F.record_Run_Result [(.pointer a40)] H36 fun v41 H42 =>
 ∃ n43, ∃ a44 i45, ∃ n46, ∃ n47, v41 = (.agg #[(.int .i64 n43), (.slice a44 i45 0), (.int .u64 n46), (.int .i64 n47)]) ∧
 ∃ n48, H42.cell t9 2 = some (.int .i64 n48) ∧
 bif (((i45 : Nat) : Int) != n48) then (
 K1 [(.int .i64 t0), (.int .i64 t1), (.int .i64 t2), (.slice t3 t3l 0), undef, undef, undef, undef, (.bool false), (.pointer (some ⟨t9, 0, none⟩)), (.pointer t10), (.pointer t11), (.int .i64 t12), (.slice (some ⟨t13, 0, none⟩) t13l 0), (.int .u64 n32), (.int .i64 t15), (.int .i64 n6), (ys30.getD 17 undef), (ys30.getD 18 undef), (.bool b37), (.bool b38), (.slice a44 i45 0), (ys.getD 22 undef), (.slice t23 t23l 0), (.int .i64 t24), (.bool false), undef, (.int .i64 t27), (.int .i64 t28), (.int .i64 t29), (.agg #[(.int .i64 3), (.int .i64 1), (.int .i64 t30_2), (.int .i64 0), (.int .i64 0)]), (.tuple #[(.pointer t31_0), (.pointer t31_1)]), (.agg #[(.int .i64 t32_0), (.int .i64 t32_1), (.int .i64 t32_2), (.int .i64 t32_3), (.int .i64 t32_4)]), (.tuple #[(.pointer t33_0), (.pointer t33_1)]), (.pointer t34), (.pointer t35), (.pointer t36), (.bool t37), (.bool false), (.pointer t39), (.bool t40), (.bool false), (.int .i64 t42), (.int .i64 t43), (.int .i64 t44), (.int .i64 t45), (.int .i64 t46), (.int .i64 t47), (.int .i64 t48), (.int .i64 t49), (.slice (some ⟨t50, 0, none⟩) t50l 0), (.int .i64 t15), (.slice t3 t3l 0), (.int .i64 ((t3l : Nat) : Int)), (.bool true), (ys.getD 55 undef), (ys.getD 56 undef), (.slice t3 t3l 0), (.int .i64 t15), (.pointer (some ⟨i1, (i2 + (t15.toNat * 1)), none⟩)), (.int .i64 n3), (.slice (some ⟨t13, 0, none⟩) t13l 0), (.int .i64 ((t13l : Nat) : Int)), (.int .i64 n6), (ys30.getD 64 undef), (ys30.getD 65 undef), (ys30.getD 66 undef), (ys30.getD 67 undef), (ys30.getD 68 undef), (ys30.getD 69 undef), (ys30.getD 70 undef), (ys30.getD 71 undef), (ys30.getD 72 undef), (ys30.getD 73 undef), (ys30.getD 74 undef), (ys30.getD 75 undef), (ys30.getD 76 undef), (ys30.getD 77 undef), (ys30.getD 78 undef), (ys30.getD 79 undef), (ys30.getD 80 undef), (ys30.getD 81 undef), (ys30.getD 82 undef), (ys30.getD 83 undef), (ys30.getD 84 undef), (ys30.getD 85 undef), (ys30.getD 86 undef), (ys30.getD 87 undef), (ys30.getD 88 undef), (ys30.getD 89 undef), (ys30.getD 90 undef), (ys30.getD 91 undef), (ys30.getD 92 undef), (ys30.getD 93 undef), (ys30.getD 94 undef), (ys30.getD 95 undef), (ys30.getD 96 undef), (ys30.getD 97 undef), (ys30.getD 98 undef), (.tuple #[(.bool b37), (.bool b38)]), (.slice (some ⟨t13, 0, none⟩) t13l 0), (.int .i64 n6), (.pointer (some ⟨t13, (0 + (n6.toNat * 1)), none⟩)), (.pointer a34), (.tuple #[(.bool b37), (.bool b38)]), (.bool b37), (.bool b38), (.bool b37), (.bool true), (.int .i64 n6), (.int .i64 t12), (.bool (decide (n6 ≥ t12))), (.bool true), (.slice (some ⟨t13, 0, none⟩) t13l 0), (.int .i64 n6), (.pointer (some ⟨t13, (0 + (n6.toNat * 1)), none⟩)), (.pointer a40), (.agg #[(.int .i64 n43), (.slice a44 i45 0), (.int .u64 n46), (.int .i64 n47)]), (.slice a44 i45 0), (.slice a44 i45 0), (.int .i64 ((i45 : Nat) : Int)), (.pointer (some ⟨t9, 2, none⟩)), (.int .i64 n48), (.bool (((i45 : Nat) : Int) != n48)), (.bool true), undef, undef, undef, undef, undef, (.bool true), (ys.getD 131 undef), (ys.getD 132 undef), (ys.getD 133 undef), (ys.getD 134 undef), (ys.getD 135 undef), (ys.getD 136 undef), (ys.getD 137 undef), (ys.getD 138 undef), (ys.getD 139 undef), (ys.getD 140 undef), (ys.getD 141 undef), (ys.getD 142 undef), (ys.getD 143 undef), (ys.getD 144 undef), (ys.getD 145 undef), (ys.getD 146 undef), (ys.getD 147 undef), (ys.getD 148 undef), undef, undef, undef, undef, undef, undef] H42)
 else (
 inB 0 i45 ∧
 asRow a44 fun i49 i50 =>
 ∃ n51, H42.cell i49 i50 = some (.int .u64 n51) ∧
 bif (decide (n51 > n32)) then (
 K1 [(.int .i64 t0), (.int .i64 t1), (.int .i64 t2), (.slice t3 t3l 0), undef, undef, undef, undef, (.bool false), (.pointer (some ⟨t9, 0, none⟩)), (.pointer t10), (.pointer t11), (.int .i64 t12), (.slice (some ⟨t13, 0, none⟩) t13l 0), (.int .u64 n32), (.int .i64 t15), (.int .i64 n6), (ys30.getD 17 undef), (ys30.getD 18 undef), (.bool b37), (.bool b38), (.slice a44 i45 0), (ys.getD 22 undef), (.slice t23 t23l 0), (.int .i64 t24), (.bool false), undef, (.int .i64 t27), (.int .i64 t28), (.int .i64 t29), (.agg #[(.int .i64 3), (.int .i64 1), (.int .i64 t30_2), (.int .i64 0), (.int .i64 0)]), (.tuple #[(.pointer t31_0), (.pointer t31_1)]), (.agg #[(.int .i64 t32_0), (.int .i64 t32_1), (.int .i64 t32_2), (.int .i64 t32_3), (.int .i64 t32_4)]), (.tuple #[(.pointer t33_0), (.pointer t33_1)]), (.pointer t34), (.pointer t35), (.pointer t36), (.bool t37), (.bool false), (.pointer t39), (.bool t40), (.bool false), (.int .i64 t42), (.int .i64 t43), (.int .i64 t44), (.int .i64 t45), (.int .i64 t46), (.int .i64 t47), (.int .i64 t48), (.int .i64 t49), (.slice (some ⟨t50, 0, none⟩) t50l 0), (.int .i64 t15), (.slice t3 t3l 0), (.int .i64 ((t3l : Nat) : Int)), (.bool true), (ys.getD 55 undef), (ys.getD 56 undef), (.slice t3 t3l 0), (.int .i64 t15), (.pointer (some ⟨i1, (i2 + (t15.toNat * 1)), none⟩)), (.int .i64 n3), (.slice (some ⟨t13, 0, none⟩) t13l 0), (.int .i64 ((t13l : Nat) : Int)), (.int .i64 n6), (ys30.getD 64 undef), (ys30.getD 65 undef), (ys30.getD 66 undef), (ys30.getD 67 undef), (ys30.getD 68 undef), (ys30.getD 69 undef), (ys30.getD 70 undef), (ys30.getD 71 undef), (ys30.getD 72 undef), (ys30.getD 73 undef), (ys30.getD 74 undef), (ys30.getD 75 undef), (ys30.getD 76 undef), (ys30.getD 77 undef), (ys30.getD 78 undef), (ys30.getD 79 undef), (ys30.getD 80 undef), (ys30.getD 81 undef), (ys30.getD 82 undef), (ys30.getD 83 undef), (ys30.getD 84 undef), (ys30.getD 85 undef), (ys30.getD 86 undef), (ys30.getD 87 undef), (ys30.getD 88 undef), (ys30.getD 89 undef), (ys30.getD 90 undef), (ys30.getD 91 undef), (ys30.getD 92 undef), (ys30.getD 93 undef), (ys30.getD 94 undef), (ys30.getD 95 undef), (ys30.getD 96 undef), (ys30.getD 97 undef), (ys30.getD 98 undef), (.tuple #[(.bool b37), (.bool b38)]), (.slice (some ⟨t13, 0, none⟩) t13l 0), (.int .i64 n6), (.pointer (some ⟨t13, (0 + (n6.toNat * 1)), none⟩)), (.pointer a34), (.tuple #[(.bool b37), (.bool b38)]), (.bool b37), (.bool b38), (.bool b37), (.bool true), (.int .i64 n6), (.int .i64 t12), (.bool (decide (n6 ≥ t12))), (.bool true), (.slice (some ⟨t13, 0, none⟩) t13l 0), (.int .i64 n6), (.pointer (some ⟨t13, (0 + (n6.toNat * 1)), none⟩)), (.pointer a40), (.agg #[(.int .i64 n43), (.slice a44 i45 0), (.int .u64 n46), (.int .i64 n47)]), (.slice a44 i45 0), (.slice a44 i45 0), (.int .i64 ((i45 : Nat) : Int)), (.pointer (some ⟨t9, 2, none⟩)), (.int .i64 n48), (.bool (((i45 : Nat) : Int) != n48)), (.bool false), (.slice a44 i45 0), (.pointer (some ⟨i49, i50, none⟩)), (.int .u64 n51), (.int .u64 n32), (.bool (decide (n51 > n32))), (.bool true), (ys.getD 131 undef), (ys.getD 132 undef), (ys.getD 133 undef), (ys.getD 134 undef), (ys.getD 135 undef), (ys.getD 136 undef), (ys.getD 137 undef), (ys.getD 138 undef), (ys.getD 139 undef), (ys.getD 140 undef), (ys.getD 141 undef), (ys.getD 142 undef), (ys.getD 143 undef), (ys.getD 144 undef), (ys.getD 145 undef), (ys.getD 146 undef), (ys.getD 147 undef), (ys.getD 148 undef), undef, undef, undef, undef, undef, undef] H42)
 else (
 LA en L_crossbarlaw14_RecordWhole_2 [(.int .i64 t0), (.int .i64 t1), (.int .i64 t2), (.slice t3 t3l 0), undef, undef, undef, undef, (.bool b33), (.pointer (some ⟨t9, 0, none⟩)), (.pointer t10), (.pointer t11), (.int .i64 t12), (.slice (some ⟨t13, 0, none⟩) t13l 0), (.int .u64 n32), (.int .i64 t15), (.int .i64 n6), (ys30.getD 17 undef), (ys30.getD 18 undef), (.bool b37), (.bool b38), (.slice a44 i45 0), (.int .i64 0), (.slice t23 t23l 0), (.int .i64 t24), (.bool false), undef, (.int .i64 t27), (.int .i64 t28), (.int .i64 t29), (.agg #[(.int .i64 3), (.int .i64 1), (.int .i64 t30_2), (.int .i64 0), (.int .i64 0)]), (.tuple #[(.pointer t31_0), (.pointer t31_1)]), (.agg #[(.int .i64 t32_0), (.int .i64 t32_1), (.int .i64 t32_2), (.int .i64 t32_3), (.int .i64 t32_4)]), (.tuple #[(.pointer t33_0), (.pointer t33_1)]), (.pointer t34), (.pointer t35), (.pointer t36), (.bool t37), (.bool false), (.pointer t39), (.bool t40), (.bool false), (.int .i64 t42), (.int .i64 t43), (.int .i64 t44), (.int .i64 t45), (.int .i64 t46), (.int .i64 t47), (.int .i64 t48), (.int .i64 t49), (.slice (some ⟨t50, 0, none⟩) t50l 0), (.int .i64 t15), (.slice t3 t3l 0), (.int .i64 ((t3l : Nat) : Int)), (.bool true), (ys.getD 55 undef), (ys.getD 56 undef), (.slice t3 t3l 0), (.int .i64 t15), (.pointer (some ⟨i1, (i2 + (t15.toNat * 1)), none⟩)), (.int .i64 n3), (.slice (some ⟨t13, 0, none⟩) t13l 0), (.int .i64 ((t13l : Nat) : Int)), (.int .i64 n6), (ys30.getD 64 undef), (ys30.getD 65 undef), (ys30.getD 66 undef), (ys30.getD 67 undef), (ys30.getD 68 undef), (ys30.getD 69 undef), (ys30.getD 70 undef), (ys30.getD 71 undef), (ys30.getD 72 undef), (ys30.getD 73 undef), (ys30.getD 74 undef), (ys30.getD 75 undef), (ys30.getD 76 undef), (ys30.getD 77 undef), (ys30.getD 78 undef), (ys30.getD 79 undef), (ys30.getD 80 undef), (ys30.getD 81 undef), (ys30.getD 82 undef), (ys30.getD 83 undef), (ys30.getD 84 undef), (ys30.getD 85 undef), (ys30.getD 86 undef), (ys30.getD 87 undef), (ys30.getD 88 undef), (ys30.getD 89 undef), (ys30.getD 90 undef), (ys30.getD 91 undef), (ys30.getD 92 undef), (ys30.getD 93 undef), (ys30.getD 94 undef), (ys30.getD 95 undef), (ys30.getD 96 undef), (ys30.getD 97 undef), (ys30.getD 98 undef), (.tuple #[(.bool b37), (.bool b38)]), (.slice (some ⟨t13, 0, none⟩) t13l 0), (.int .i64 n6), (.pointer (some ⟨t13, (0 + (n6.toNat * 1)), none⟩)), (.pointer a34), (.tuple #[(.bool b37), (.bool b38)]), (.bool b37), (.bool b38), (.bool b37), (.bool true), (.int .i64 n6), (.int .i64 t12), (.bool (decide (n6 ≥ t12))), (.bool true), (.slice (some ⟨t13, 0, none⟩) t13l 0), (.int .i64 n6), (.pointer (some ⟨t13, (0 + (n6.toNat * 1)), none⟩)), (.pointer a40), (.agg #[(.int .i64 n43), (.slice a44 i45 0), (.int .u64 n46), (.int .i64 n47)]), (.slice a44 i45 0), (.slice a44 i45 0), (.int .i64 ((i45 : Nat) : Int)), (.pointer (some ⟨t9, 2, none⟩)), (.int .i64 n48), (.bool (((i45 : Nat) : Int) != n48)), (.bool false), (.slice a44 i45 0), (.pointer (some ⟨i49, i50, none⟩)), (.int .u64 n51), (.int .u64 n32), (.bool (decide (n51 > n32))), (.bool false), (ys.getD 131 undef), (ys.getD 132 undef), (ys.getD 133 undef), (ys.getD 134 undef), (ys.getD 135 undef), (ys.getD 136 undef), (ys.getD 137 undef), (ys.getD 138 undef), (ys.getD 139 undef), (ys.getD 140 undef), (ys.getD 141 undef), (ys.getD 142 undef), (ys.getD 143 undef), (ys.getD 144 undef), (ys.getD 145 undef), (ys.getD 146 undef), (ys.getD 147 undef), (ys.getD 148 undef), undef, undef, undef, undef, undef, undef] H42 [(X.exit 4, fun (y52 : Fr) (H53 : Heap) =>
 AS.asBool (y52.getD 8 undef) fun b54 =>
 J39 [(.bool b54)] H53),
 (X.ret, fun (y55 : Fr) (H56 : Heap) =>
 AS.asBool (y55.getD 8 undef) fun b57 =>
 K1 [(.int .i64 t0), (.int .i64 t1), (.int .i64 t2), (.slice t3 t3l 0), undef, undef, undef, undef, (.bool b57), (.pointer (some ⟨t9, 0, none⟩)), (.pointer t10), (.pointer t11), (.int .i64 t12), (.slice (some ⟨t13, 0, none⟩) t13l 0), (.int .u64 n32), (.int .i64 t15), (.int .i64 n6), (ys30.getD 17 undef), (ys30.getD 18 undef), (.bool b37), (.bool b38), (.slice a44 i45 0), (y55.getD 22 undef), (.slice t23 t23l 0), (.int .i64 t24), (.bool false), undef, (.int .i64 t27), (.int .i64 t28), (.int .i64 t29), (.agg #[(.int .i64 3), (.int .i64 1), (.int .i64 t30_2), (.int .i64 0), (.int .i64 0)]), (.tuple #[(.pointer t31_0), (.pointer t31_1)]), (.agg #[(.int .i64 t32_0), (.int .i64 t32_1), (.int .i64 t32_2), (.int .i64 t32_3), (.int .i64 t32_4)]), (.tuple #[(.pointer t33_0), (.pointer t33_1)]), (.pointer t34), (.pointer t35), (.pointer t36), (.bool t37), (.bool false), (.pointer t39), (.bool t40), (.bool false), (.int .i64 t42), (.int .i64 t43), (.int .i64 t44), (.int .i64 t45), (.int .i64 t46), (.int .i64 t47), (.int .i64 t48), (.int .i64 t49), (.slice (some ⟨t50, 0, none⟩) t50l 0), (.int .i64 t15), (.slice t3 t3l 0), (.int .i64 ((t3l : Nat) : Int)), (.bool true), (ys.getD 55 undef), (ys.getD 56 undef), (.slice t3 t3l 0), (.int .i64 t15), (.pointer (some ⟨i1, (i2 + (t15.toNat * 1)), none⟩)), (.int .i64 n3), (.slice (some ⟨t13, 0, none⟩) t13l 0), (.int .i64 ((t13l : Nat) : Int)), (.int .i64 n6), (ys30.getD 64 undef), (ys30.getD 65 undef), (ys30.getD 66 undef), (ys30.getD 67 undef), (ys30.getD 68 undef), (ys30.getD 69 undef), (ys30.getD 70 undef), (ys30.getD 71 undef), (ys30.getD 72 undef), (ys30.getD 73 undef), (ys30.getD 74 undef), (ys30.getD 75 undef), (ys30.getD 76 undef), (ys30.getD 77 undef), (ys30.getD 78 undef), (ys30.getD 79 undef), (ys30.getD 80 undef), (ys30.getD 81 undef), (ys30.getD 82 undef), (ys30.getD 83 undef), (ys30.getD 84 undef), (ys30.getD 85 undef), (ys30.getD 86 undef), (ys30.getD 87 undef), (ys30.getD 88 undef), (ys30.getD 89 undef), (ys30.getD 90 undef), (ys30.getD 91 undef), (ys30.getD 92 undef), (ys30.getD 93 undef), (ys30.getD 94 undef), (ys30.getD 95 undef), (ys30.getD 96 undef), (ys30.getD 97 undef), (ys30.getD 98 undef), (.tuple #[(.bool b37), (.bool b38)]), (.slice (some ⟨t13, 0, none⟩) t13l 0), (.int .i64 n6), (.pointer (some ⟨t13, (0 + (n6.toNat * 1)), none⟩)), (.pointer a34), (.tuple #[(.bool b37), (.bool b38)]), (.bool b37), (.bool b38), (.bool b37), (.bool true), (.int .i64 n6), (.int .i64 t12), (.bool (decide (n6 ≥ t12))), (.bool true), (.slice (some ⟨t13, 0, none⟩) t13l 0), (.int .i64 n6), (.pointer (some ⟨t13, (0 + (n6.toNat * 1)), none⟩)), (.pointer a40), (.agg #[(.int .i64 n43), (.slice a44 i45 0), (.int .u64 n46), (.int .i64 n47)]), (.slice a44 i45 0), (.slice a44 i45 0), (.int .i64 ((i45 : Nat) : Int)), (.pointer (some ⟨t9, 2, none⟩)), (.int .i64 n48), (.bool (((i45 : Nat) : Int) != n48)), (.bool false), (.slice a44 i45 0), (.pointer (some ⟨i49, i50, none⟩)), (.int .u64 n51), (.int .u64 n32), (.bool (decide (n51 > n32))), (.bool false), (y55.getD 131 undef), (y55.getD 132 undef), (y55.getD 133 undef), (y55.getD 134 undef), (y55.getD 135 undef), (y55.getD 136 undef), (y55.getD 137 undef), (y55.getD 138 undef), (y55.getD 139 undef), (y55.getD 140 undef), (y55.getD 141 undef), (y55.getD 142 undef), (y55.getD 143 undef), (y55.getD 144 undef), (ys.getD 145 undef), (ys.getD 146 undef), (ys.getD 147 undef), (ys.getD 148 undef), undef, undef, undef, undef, undef, undef] H56)])))
 else (
 J39 [(.bool b33)] H36))
 else (
 J39 [(.bool b33)] H36)) ∧
 ∀ (ys58 : Fr) (H59 : Heap), ∀ b60, J39 [(.bool b60)] H59 →
 bif b38 then (
 inB n6 t13l ∧
 stc H59 t13 (0 + (n6.toNat * 1)) [(.pointer none)] fun H61 =>
 ∃ k62, k62 < n ∧
 I k62 b60 n32 (IntKind.i64.wrap (t15 + 1)) H61)
 else (
 ∃ k63, k63 < n ∧
 I k63 b60 n32 (IntKind.i64.wrap (t15 + 1)) H59))
 else (
 K0 [(.int .i64 t0), (.int .i64 t1), (.int .i64 t2), (.slice t3 t3l 0), undef, undef, undef, undef, (.bool t8), (.pointer (some ⟨t9, 0, none⟩)), (.pointer t10), (.pointer t11), (.int .i64 t12), (.slice (some ⟨t13, 0, none⟩) t13l 0), (.int .u64 t14), (.int .i64 t15), (ys.getD 16 undef), (ys.getD 17 undef), (ys.getD 18 undef), (ys.getD 19 undef), (ys.getD 20 undef), (ys.getD 21 undef), (ys.getD 22 undef), (.slice t23 t23l 0), (.int .i64 t24), (.bool false), undef, (.int .i64 t27), (.int .i64 t28), (.int .i64 t29), (.agg #[(.int .i64 3), (.int .i64 1), (.int .i64 t30_2), (.int .i64 0), (.int .i64 0)]), (.tuple #[(.pointer t31_0), (.pointer t31_1)]), (.agg #[(.int .i64 t32_0), (.int .i64 t32_1), (.int .i64 t32_2), (.int .i64 t32_3), (.int .i64 t32_4)]), (.tuple #[(.pointer t33_0), (.pointer t33_1)]), (.pointer t34), (.pointer t35), (.pointer t36), (.bool t37), (.bool false), (.pointer t39), (.bool t40), (.bool false), (.int .i64 t42), (.int .i64 t43), (.int .i64 t44), (.int .i64 t45), (.int .i64 t46), (.int .i64 t47), (.int .i64 t48), (.int .i64 t49), (.slice (some ⟨t50, 0, none⟩) t50l 0), (.int .i64 t15), (.slice t3 t3l 0), (.int .i64 ((t3l : Nat) : Int)), (.bool false), (ys.getD 55 undef), (ys.getD 56 undef), (ys.getD 57 undef), (ys.getD 58 undef), (ys.getD 59 undef), (ys.getD 60 undef), (ys.getD 61 undef), (ys.getD 62 undef), (ys.getD 63 undef), (ys.getD 64 undef), (ys.getD 65 undef), (ys.getD 66 undef), (ys.getD 67 undef), (ys.getD 68 undef), (ys.getD 69 undef), (ys.getD 70 undef), (ys.getD 71 undef), (ys.getD 72 undef), (ys.getD 73 undef), (ys.getD 74 undef), (ys.getD 75 undef), (ys.getD 76 undef), (ys.getD 77 undef), (ys.getD 78 undef), (ys.getD 79 undef), (ys.getD 80 undef), (ys.getD 81 undef), (ys.getD 82 undef), (ys.getD 83 undef), (ys.getD 84 undef), (ys.getD 85 undef), (ys.getD 86 undef), (ys.getD 87 undef), (ys.getD 88 undef), (ys.getD 89 undef), (ys.getD 90 undef), (ys.getD 91 undef), (ys.getD 92 undef), (ys.getD 93 undef), (ys.getD 94 undef), (ys.getD 95 undef), (ys.getD 96 undef), (ys.getD 97 undef), (ys.getD 98 undef), (ys.getD 99 undef), (ys.getD 100 undef), (ys.getD 101 undef), (ys.getD 102 undef), (ys.getD 103 undef), (ys.getD 104 undef), (ys.getD 105 undef), (ys.getD 106 undef), (ys.getD 107 undef), (ys.getD 108 undef), (ys.getD 109 undef), (ys.getD 110 undef), (ys.getD 111 undef), (ys.getD 112 undef), (ys.getD 113 undef), (ys.getD 114 undef), (ys.getD 115 undef), (ys.getD 116 undef), (ys.getD 117 undef), (ys.getD 118 undef), (ys.getD 119 undef), (ys.getD 120 undef), (ys.getD 121 undef), (ys.getD 122 undef), (ys.getD 123 undef), (ys.getD 124 undef), (ys.getD 125 undef), (ys.getD 126 undef), (ys.getD 127 undef), (ys.getD 128 undef), (ys.getD 129 undef), (ys.getD 130 undef), (ys.getD 131 undef), (ys.getD 132 undef), (ys.getD 133 undef), (ys.getD 134 undef), (ys.getD 135 undef), (ys.getD 136 undef), (ys.getD 137 undef), (ys.getD 138 undef), (ys.getD 139 undef), (ys.getD 140 undef), (ys.getD 141 undef), (ys.getD 142 undef), (ys.getD 143 undef), (ys.getD 144 undef), (ys.getD 145 undef), (ys.getD 146 undef), (ys.getD 147 undef), (ys.getD 148 undef), undef, undef, undef, undef, undef, undef] H))) :
    LA en L_crossbarlaw14_RecordWhole_0 [(.int .i64 t0), (.int .i64 t1), (.int .i64 t2), (.slice t3 t3l 0), undef, undef, undef, undef, (.bool t8), (.pointer (some ⟨t9, 0, none⟩)), (.pointer t10), (.pointer t11), (.int .i64 t12), (.slice (some ⟨t13, 0, none⟩) t13l 0), (.int .u64 t14), (.int .i64 t15), t16, t17, t18, t19, t20, t21, t22, (.slice t23 t23l 0), (.int .i64 t24), (.bool false), undef, (.int .i64 t27), (.int .i64 t28), (.int .i64 t29), (.agg #[(.int .i64 3), (.int .i64 1), (.int .i64 t30_2), (.int .i64 0), (.int .i64 0)]), (.tuple #[(.pointer t31_0), (.pointer t31_1)]), (.agg #[(.int .i64 t32_0), (.int .i64 t32_1), (.int .i64 t32_2), (.int .i64 t32_3), (.int .i64 t32_4)]), (.tuple #[(.pointer t33_0), (.pointer t33_1)]), (.pointer t34), (.pointer t35), (.pointer t36), (.bool t37), (.bool false), (.pointer t39), (.bool t40), (.bool false), (.int .i64 t42), (.int .i64 t43), (.int .i64 t44), (.int .i64 t45), (.int .i64 t46), (.int .i64 t47), (.int .i64 t48), (.int .i64 t49), (.slice (some ⟨t50, 0, none⟩) t50l 0), t51, t52, t53, t54, t55, t56, t57, t58, t59, t60, t61, t62, t63, t64, t65, t66, t67, t68, t69, t70, t71, t72, t73, t74, t75, t76, t77, t78, t79, t80, t81, t82, t83, t84, t85, t86, t87, t88, t89, t90, t91, t92, t93, t94, t95, t96, t97, t98, t99, t100, t101, t102, t103, t104, t105, t106, t107, t108, t109, t110, t111, t112, t113, t114, t115, t116, t117, t118, t119, t120, t121, t122, t123, t124, t125, t126, t127, t128, t129, t130, t131, t132, t133, t134, t135, t136, t137, t138, t139, t140, t141, t142, t143, t144, t145, t146, t147, t148, undef, undef, undef, undef, undef, undef] H [(X.exit 0, K0), (X.ret, K1), (X.ret, K2)] := by
  refine LA_ruleC (C := [none, none, none, none, some [(14, (.int .u64 0)), (8, (.bool false))], none, none, some [(14, (.int .u64 0))], none, none, none, none, none, none, none, none, some [(8, (.bool false))], none, none, none, none, none, none, none]) (Z := [[], [(8, (.bool false))]]) (fun m xs H' => AS.asBool (xs.getD 8 undef) fun t8 => AS.asInt .u64 (xs.getD 14 undef) fun t14 => AS.asInt .i64 (xs.getD 15 undef) fun t15 => I m t8 t14 t15 H') ?_ n H ?_
  · intro n H
    suffices hs : ∀ s51 : Value, ∀ s52 : Value, ∀ s53 : Value, ∀ s54 : Value, ∀ s57 : Value, ∀ s58 : Value, ∀ s59 : Value, ∀ s60 : Value, ∀ s61 : Value, ∀ s62 : Value, ∀ s63 : Value, ∀ s16 : Value, ∀ s64 : Value, ∀ s65 : Value, ∀ s66 : Value, ∀ s67 : Value, ∀ s68 : Value, ∀ s69 : Value, ∀ s17 : Value, ∀ s70 : Value, ∀ s71 : Value, ∀ s72 : Value, ∀ s73 : Value, ∀ s74 : Value, ∀ s14 : Value, ∀ s75 : Value, ∀ s18 : Value, ∀ s76 : Value, ∀ s77 : Value, ∀ s78 : Value, ∀ s79 : Value, ∀ s82 : Value, ∀ s83 : Value, ∀ s84 : Value, ∀ s85 : Value, ∀ s86 : Value, ∀ s87 : Value, ∀ s80 : Value, ∀ s81 : Value, ∀ s88 : Value, ∀ s89 : Value, ∀ s90 : Value, ∀ s91 : Value, ∀ s92 : Value, ∀ s93 : Value, ∀ s94 : Value, ∀ s95 : Value, ∀ s96 : Value, ∀ s97 : Value, ∀ s98 : Value, ∀ s8 : Value, ∀ s100 : Value, ∀ s101 : Value, ∀ s102 : Value, ∀ s103 : Value, ∀ s104 : Value, ∀ s99 : Value, ∀ s105 : Value, ∀ s106 : Value, ∀ s19 : Value, ∀ s20 : Value, ∀ s107 : Value, ∀ s108 : Value, ∀ s109 : Value, ∀ s110 : Value, ∀ s111 : Value, ∀ s112 : Value, ∀ s113 : Value, ∀ s114 : Value, ∀ s115 : Value, ∀ s116 : Value, ∀ s117 : Value, ∀ s118 : Value, ∀ s21 : Value, ∀ s119 : Value, ∀ s120 : Value, ∀ s121 : Value, ∀ s122 : Value, ∀ s123 : Value, ∀ s124 : Value, ∀ s125 : Value, ∀ s126 : Value, ∀ s127 : Value, ∀ s128 : Value, ∀ s129 : Value, ∀ s130 : Value, ∀ s22 : Value, ∀ s131 : Value, ∀ s132 : Value, ∀ s133 : Value, ∀ s134 : Value, ∀ s137 : Value, ∀ s138 : Value, ∀ s139 : Value, ∀ s140 : Value, ∀ s141 : Value, ∀ s142 : Value, ∀ s143 : Value, ∀ s144 : Value, ∀ s135 : Value, ∀ s136 : Value, ∀ s145 : Value, ∀ s146 : Value, ∀ s147 : Value, ∀ s148 : Value, ∀ s55 : Value, ∀ s56 : Value, ∀ s15 : Value, ((AS.asBool s8 fun t8 => AS.asInt .u64 s14 fun t14 => AS.asInt .i64 s15 fun t15 => I n t8 t14 t15 H) → wpCodeC en L_crossbarlaw14_RecordWhole_0 [none, none, none, none, some [(14, (.int .u64 0)), (8, (.bool false))], none, none, some [(14, (.int .u64 0))], none, none, none, none, none, none, none, none, some [(8, (.bool false))], none, none, none, none, none, none, none] [[], [(8, (.bool false))]] [(.int .i64 t0), (.int .i64 t1), (.int .i64 t2), (.slice t3 t3l 0), undef, undef, undef, undef, s8, (.pointer (some ⟨t9, 0, none⟩)), (.pointer t10), (.pointer t11), (.int .i64 t12), (.slice (some ⟨t13, 0, none⟩) t13l 0), s14, s15, s16, s17, s18, s19, s20, s21, s22, (.slice t23 t23l 0), (.int .i64 t24), (.bool false), undef, (.int .i64 t27), (.int .i64 t28), (.int .i64 t29), (.agg #[(.int .i64 3), (.int .i64 1), (.int .i64 t30_2), (.int .i64 0), (.int .i64 0)]), (.tuple #[(.pointer t31_0), (.pointer t31_1)]), (.agg #[(.int .i64 t32_0), (.int .i64 t32_1), (.int .i64 t32_2), (.int .i64 t32_3), (.int .i64 t32_4)]), (.tuple #[(.pointer t33_0), (.pointer t33_1)]), (.pointer t34), (.pointer t35), (.pointer t36), (.bool t37), (.bool false), (.pointer t39), (.bool t40), (.bool false), (.int .i64 t42), (.int .i64 t43), (.int .i64 t44), (.int .i64 t45), (.int .i64 t46), (.int .i64 t47), (.int .i64 t48), (.int .i64 t49), (.slice (some ⟨t50, 0, none⟩) t50l 0), s51, s52, s53, s54, s55, s56, s57, s58, s59, s60, s61, s62, s63, s64, s65, s66, s67, s68, s69, s70, s71, s72, s73, s74, s75, s76, s77, s78, s79, s80, s81, s82, s83, s84, s85, s86, s87, s88, s89, s90, s91, s92, s93, s94, s95, s96, s97, s98, s99, s100, s101, s102, s103, s104, s105, s106, s107, s108, s109, s110, s111, s112, s113, s114, s115, s116, s117, s118, s119, s120, s121, s122, s123, s124, s125, s126, s127, s128, s129, s130, s131, s132, s133, s134, s135, s136, s137, s138, s139, s140, s141, s142, s143, s144, s145, s146, s147, s148, undef, undef, undef, undef, undef, undef] H (loopQ (fun m xs H' => AS.asBool (xs.getD 8 undef) fun t8 => AS.asInt .u64 (xs.getD 14 undef) fun t14 => AS.asInt .i64 (xs.getD 15 undef) fun t15 => I m t8 t14 t15 H') n [(X.exit 0, K0), (X.ret, K1), (X.ret, K2)])) by
      apply turnInto hs
      kernel_rfl
    intro s51 s52 s53 s54 s57 s58 s59 s60 s61 s62 s63 s16 s64 s65 s66 s67 s68 s69 s17 s70 s71 s72 s73 s74 s14 s75 s18 s76 s77 s78 s79 s82 s83 s84 s85 s86 s87 s80 s81 s88 s89 s90 s91 s92 s93 s94 s95 s96 s97 s98 s8 s100 s101 s102 s103 s104 s99 s105 s106 s19 s20 s107 s108 s109 s110 s111 s112 s113 s114 s115 s116 s117 s118 s21 s119 s120 s121 s122 s123 s124 s125 s126 s127 s128 s129 s130 s22 s131 s132 s133 s134 s137 s138 s139 s140 s141 s142 s143 s144 s135 s136 s145 s146 s147 s148 s55 s56 s15 hP
    replace hP := asBool_elim hP
    obtain ⟨t8, rfl, hP⟩ := hP
    replace hP := asInt_elim hP
    obtain ⟨t14, rfl, hP⟩ := hP
    replace hP := asInt_elim hP
    obtain ⟨t15, rfl, hP⟩ := hP
    apply turnInto (hstep n t8 t14 t15 [(.int .i64 t0), (.int .i64 t1), (.int .i64 t2), (.slice t3 t3l 0), undef, undef, undef, undef, (.bool t8), (.pointer (some ⟨t9, 0, none⟩)), (.pointer t10), (.pointer t11), (.int .i64 t12), (.slice (some ⟨t13, 0, none⟩) t13l 0), (.int .u64 t14), (.int .i64 t15), s16, s17, s18, s19, s20, s21, s22, (.slice t23 t23l 0), (.int .i64 t24), (.bool false), undef, (.int .i64 t27), (.int .i64 t28), (.int .i64 t29), (.agg #[(.int .i64 3), (.int .i64 1), (.int .i64 t30_2), (.int .i64 0), (.int .i64 0)]), (.tuple #[(.pointer t31_0), (.pointer t31_1)]), (.agg #[(.int .i64 t32_0), (.int .i64 t32_1), (.int .i64 t32_2), (.int .i64 t32_3), (.int .i64 t32_4)]), (.tuple #[(.pointer t33_0), (.pointer t33_1)]), (.pointer t34), (.pointer t35), (.pointer t36), (.bool t37), (.bool false), (.pointer t39), (.bool t40), (.bool false), (.int .i64 t42), (.int .i64 t43), (.int .i64 t44), (.int .i64 t45), (.int .i64 t46), (.int .i64 t47), (.int .i64 t48), (.int .i64 t49), (.slice (some ⟨t50, 0, none⟩) t50l 0), s51, s52, s53, s54, s55, s56, s57, s58, s59, s60, s61, s62, s63, s64, s65, s66, s67, s68, s69, s70, s71, s72, s73, s74, s75, s76, s77, s78, s79, s80, s81, s82, s83, s84, s85, s86, s87, s88, s89, s90, s91, s92, s93, s94, s95, s96, s97, s98, s99, s100, s101, s102, s103, s104, s105, s106, s107, s108, s109, s110, s111, s112, s113, s114, s115, s116, s117, s118, s119, s120, s121, s122, s123, s124, s125, s126, s127, s128, s129, s130, s131, s132, s133, s134, s135, s136, s137, s138, s139, s140, s141, s142, s143, s144, s145, s146, s147, s148, undef, undef, undef, undef, undef, undef] H hP)
    kernel_rfl
  · apply turnInto h0
    kernel_rfl

theorem use_crossbarlaw14_RecordWhole_1 {t0 : Int} {t1 : Int} {t2 : Int} {t3 : Option Addr} {t3l : Nat} {t8 : Bool} {t9 : Nat} {t10 : Option Addr} {t11 : Option Addr} {t12 : Int} {t13 : Nat} {t13l : Nat} {t14 : Int} {t15 : Int} {t16 : Int} {t17 : Nat} {t19 : Value} {t20 : Value} {t21 : Value} {t22 : Value} {t23 : Option Addr} {t23l : Nat} {t24 : Int} {t27 : Int} {t28 : Int} {t29 : Int} {t30_2 : Int} {t31_0 : Option Addr} {t31_1 : Option Addr} {t32_0 : Int} {t32_1 : Int} {t32_2 : Int} {t32_3 : Int} {t32_4 : Int} {t33_0 : Option Addr} {t33_1 : Option Addr} {t34 : Option Addr} {t35 : Option Addr} {t36 : Option Addr} {t37 : Bool} {t39 : Option Addr} {t40 : Bool} {t42 : Int} {t43 : Int} {t44 : Int} {t45 : Int} {t46 : Int} {t47 : Int} {t48 : Int} {t49 : Int} {t50 : Nat} {t50l : Nat} {t51 : Int} {t52 : Option Addr} {t52l : Nat} {t53 : Int} {t55 : Value} {t56 : Value} {t57 : Option Addr} {t57l : Nat} {t58 : Int} {t59 : Nat} {t59o : Nat} {t60 : Int} {t61 : Nat} {t61l : Nat} {t62 : Int} {t63 : Int} {t64 : Nat} {t64l : Nat} {t65 : Int} {t66 : Nat} {t66o : Nat} {t67 : Option Addr} {t70 : Int} {t71 : Int} {t73 : Int} {t74 : Int} {t88 : Value} {t89 : Value} {t90 : Value} {t91 : Value} {t92 : Value} {t93 : Value} {t94 : Value} {t95 : Value} {t96 : Value} {t97 : Value} {t98 : Value} {t99 : Value} {t100 : Value} {t101 : Value} {t102 : Value} {t103 : Value} {t104 : Value} {t105 : Value} {t106 : Value} {t107 : Value} {t108 : Value} {t109 : Value} {t110 : Value} {t111 : Value} {t112 : Value} {t113 : Value} {t114 : Value} {t115 : Value} {t116 : Value} {t117 : Value} {t118 : Value} {t119 : Value} {t120 : Value} {t121 : Value} {t122 : Value} {t123 : Value} {t124 : Value} {t125 : Value} {t126 : Value} {t127 : Value} {t128 : Value} {t129 : Value} {t130 : Value} {t131 : Value} {t132 : Value} {t133 : Value} {t134 : Value} {t135 : Value} {t136 : Value} {t137 : Value} {t138 : Value} {t139 : Value} {t140 : Value} {t141 : Value} {t142 : Value} {t143 : Value} {t144 : Value} {t145 : Value} {t146 : Value} {t147 : Value} {t148 : Value} {K0 : Fr → Heap → Prop} {t18 : Int} {t76 : Value} {t77 : Value} {t78 : Value} {t79 : Value} {t80 : Value} {t81 : Value} {t82 : Value} {t83 : Value} {t84 : Value} {t85 : Value} {t86 : Value} {t87 : Value} {H : Heap} (I : Nat → Int → Heap → Prop) (n : Nat) (h0 : I n t18 H)
    (hstep : ∀ (n : Nat) (t18 : Int) (ys : Fr) (H : Heap), I n t18 H →
    (
 ∃ n1, H.cell t9 2 = some (.int .i64 n1) ∧
 bif (decide (t18 < n1)) then (
 ∃ a2 i3, H.cell t17 2 = some (.slice a2 i3 0) ∧
 nwH H (.cells true 1 [(.int .u64 t14)]) fun i4 H5 =>
 ∃ l6, rowOf H5 1 (some ⟨i4, 0, none⟩) 1 = some l6 ∧
 apd H5 8 1 a2 i3 1 l6 fun a7 i8 H9 =>
 stc H9 t17 2 [(.slice a7 i8 0)] fun H10 =>
 ∃ k11, k11 < n ∧
 I k11 (IntKind.i64.wrap (t18 + 1)) H10)
 else (
 K0 [(.int .i64 t0), (.int .i64 t1), (.int .i64 t2), (.slice t3 t3l 0), undef, undef, undef, undef, (.bool t8), (.pointer (some ⟨t9, 0, none⟩)), (.pointer t10), (.pointer t11), (.int .i64 t12), (.slice (some ⟨t13, 0, none⟩) t13l 0), (.int .u64 t14), (.int .i64 t15), (.int .i64 t16), (.pointer (some ⟨t17, 0, none⟩)), (.int .i64 t18), t19, t20, t21, t22, (.slice t23 t23l 0), (.int .i64 t24), (.bool false), undef, (.int .i64 t27), (.int .i64 t28), (.int .i64 t29), (.agg #[(.int .i64 3), (.int .i64 1), (.int .i64 t30_2), (.int .i64 0), (.int .i64 0)]), (.tuple #[(.pointer t31_0), (.pointer t31_1)]), (.agg #[(.int .i64 t32_0), (.int .i64 t32_1), (.int .i64 t32_2), (.int .i64 t32_3), (.int .i64 t32_4)]), (.tuple #[(.pointer t33_0), (.pointer t33_1)]), (.pointer t34), (.pointer t35), (.pointer t36), (.bool t37), (.bool false), (.pointer t39), (.bool t40), (.bool false), (.int .i64 t42), (.int .i64 t43), (.int .i64 t44), (.int .i64 t45), (.int .i64 t46), (.int .i64 t47), (.int .i64 t48), (.int .i64 t49), (.slice (some ⟨t50, 0, none⟩) t50l 0), (.int .i64 t51), (.slice t52 t52l 0), (.int .i64 t53), (.bool true), t55, t56, (.slice t57 t57l 0), (.int .i64 t58), (.pointer (some ⟨t59, t59o, none⟩)), (.int .i64 t60), (.slice (some ⟨t61, 0, none⟩) t61l 0), (.int .i64 t62), (.int .i64 t63), (.slice (some ⟨t64, 0, none⟩) t64l 0), (.int .i64 t65), (.pointer (some ⟨t66, t66o, none⟩)), (.pointer t67), (.bool true), (.agg #[(.int .i64 1), (.int .u64 0), (.slice none 0 0), (.int .i64 0), (.int .i64 0)]), (.int .i64 t70), (.int .i64 t71), (.bool true), (.int .u64 t73), (.int .u64 t74), (.agg #[(.int .i64 2), (.int .u64 0), (.slice none 0 0), (.int .i64 0), (.int .i64 0)]), (.int .i64 t18), (.pointer (some ⟨t9, 2, none⟩)), (.int .i64 n1), (.bool false), (ys.getD 80 undef), (ys.getD 81 undef), (ys.getD 82 undef), (ys.getD 83 undef), (ys.getD 84 undef), (ys.getD 85 undef), (ys.getD 86 undef), (ys.getD 87 undef), t88, t89, t90, t91, t92, t93, t94, t95, t96, t97, t98, t99, t100, t101, t102, t103, t104, t105, t106, t107, t108, t109, t110, t111, t112, t113, t114, t115, t116, t117, t118, t119, t120, t121, t122, t123, t124, t125, t126, t127, t128, t129, t130, t131, t132, t133, t134, t135, t136, t137, t138, t139, t140, t141, t142, t143, t144, t145, t146, t147, t148, undef, undef, undef, undef, undef, undef] H))) :
    LA en L_crossbarlaw14_RecordWhole_1 [(.int .i64 t0), (.int .i64 t1), (.int .i64 t2), (.slice t3 t3l 0), undef, undef, undef, undef, (.bool t8), (.pointer (some ⟨t9, 0, none⟩)), (.pointer t10), (.pointer t11), (.int .i64 t12), (.slice (some ⟨t13, 0, none⟩) t13l 0), (.int .u64 t14), (.int .i64 t15), (.int .i64 t16), (.pointer (some ⟨t17, 0, none⟩)), (.int .i64 t18), t19, t20, t21, t22, (.slice t23 t23l 0), (.int .i64 t24), (.bool false), undef, (.int .i64 t27), (.int .i64 t28), (.int .i64 t29), (.agg #[(.int .i64 3), (.int .i64 1), (.int .i64 t30_2), (.int .i64 0), (.int .i64 0)]), (.tuple #[(.pointer t31_0), (.pointer t31_1)]), (.agg #[(.int .i64 t32_0), (.int .i64 t32_1), (.int .i64 t32_2), (.int .i64 t32_3), (.int .i64 t32_4)]), (.tuple #[(.pointer t33_0), (.pointer t33_1)]), (.pointer t34), (.pointer t35), (.pointer t36), (.bool t37), (.bool false), (.pointer t39), (.bool t40), (.bool false), (.int .i64 t42), (.int .i64 t43), (.int .i64 t44), (.int .i64 t45), (.int .i64 t46), (.int .i64 t47), (.int .i64 t48), (.int .i64 t49), (.slice (some ⟨t50, 0, none⟩) t50l 0), (.int .i64 t51), (.slice t52 t52l 0), (.int .i64 t53), (.bool true), t55, t56, (.slice t57 t57l 0), (.int .i64 t58), (.pointer (some ⟨t59, t59o, none⟩)), (.int .i64 t60), (.slice (some ⟨t61, 0, none⟩) t61l 0), (.int .i64 t62), (.int .i64 t63), (.slice (some ⟨t64, 0, none⟩) t64l 0), (.int .i64 t65), (.pointer (some ⟨t66, t66o, none⟩)), (.pointer t67), (.bool true), (.agg #[(.int .i64 1), (.int .u64 0), (.slice none 0 0), (.int .i64 0), (.int .i64 0)]), (.int .i64 t70), (.int .i64 t71), (.bool true), (.int .u64 t73), (.int .u64 t74), (.agg #[(.int .i64 2), (.int .u64 0), (.slice none 0 0), (.int .i64 0), (.int .i64 0)]), t76, t77, t78, t79, t80, t81, t82, t83, t84, t85, t86, t87, t88, t89, t90, t91, t92, t93, t94, t95, t96, t97, t98, t99, t100, t101, t102, t103, t104, t105, t106, t107, t108, t109, t110, t111, t112, t113, t114, t115, t116, t117, t118, t119, t120, t121, t122, t123, t124, t125, t126, t127, t128, t129, t130, t131, t132, t133, t134, t135, t136, t137, t138, t139, t140, t141, t142, t143, t144, t145, t146, t147, t148, undef, undef, undef, undef, undef, undef] H [(X.exit 2, K0)] := by
  refine LA_rule (Z := []) (fun m xs H' => AS.asInt .i64 (xs.getD 18 undef) fun t18 => I m t18 H') ?_ n H ?_
  · intro n H
    suffices hs : ∀ s76 : Value, ∀ s77 : Value, ∀ s78 : Value, ∀ s79 : Value, ∀ s82 : Value, ∀ s83 : Value, ∀ s84 : Value, ∀ s85 : Value, ∀ s86 : Value, ∀ s87 : Value, ∀ s80 : Value, ∀ s81 : Value, ∀ s18 : Value, ((AS.asInt .i64 s18 fun t18 => I n t18 H) → wpCode en L_crossbarlaw14_RecordWhole_1 [] [(.int .i64 t0), (.int .i64 t1), (.int .i64 t2), (.slice t3 t3l 0), undef, undef, undef, undef, (.bool t8), (.pointer (some ⟨t9, 0, none⟩)), (.pointer t10), (.pointer t11), (.int .i64 t12), (.slice (some ⟨t13, 0, none⟩) t13l 0), (.int .u64 t14), (.int .i64 t15), (.int .i64 t16), (.pointer (some ⟨t17, 0, none⟩)), s18, t19, t20, t21, t22, (.slice t23 t23l 0), (.int .i64 t24), (.bool false), undef, (.int .i64 t27), (.int .i64 t28), (.int .i64 t29), (.agg #[(.int .i64 3), (.int .i64 1), (.int .i64 t30_2), (.int .i64 0), (.int .i64 0)]), (.tuple #[(.pointer t31_0), (.pointer t31_1)]), (.agg #[(.int .i64 t32_0), (.int .i64 t32_1), (.int .i64 t32_2), (.int .i64 t32_3), (.int .i64 t32_4)]), (.tuple #[(.pointer t33_0), (.pointer t33_1)]), (.pointer t34), (.pointer t35), (.pointer t36), (.bool t37), (.bool false), (.pointer t39), (.bool t40), (.bool false), (.int .i64 t42), (.int .i64 t43), (.int .i64 t44), (.int .i64 t45), (.int .i64 t46), (.int .i64 t47), (.int .i64 t48), (.int .i64 t49), (.slice (some ⟨t50, 0, none⟩) t50l 0), (.int .i64 t51), (.slice t52 t52l 0), (.int .i64 t53), (.bool true), t55, t56, (.slice t57 t57l 0), (.int .i64 t58), (.pointer (some ⟨t59, t59o, none⟩)), (.int .i64 t60), (.slice (some ⟨t61, 0, none⟩) t61l 0), (.int .i64 t62), (.int .i64 t63), (.slice (some ⟨t64, 0, none⟩) t64l 0), (.int .i64 t65), (.pointer (some ⟨t66, t66o, none⟩)), (.pointer t67), (.bool true), (.agg #[(.int .i64 1), (.int .u64 0), (.slice none 0 0), (.int .i64 0), (.int .i64 0)]), (.int .i64 t70), (.int .i64 t71), (.bool true), (.int .u64 t73), (.int .u64 t74), (.agg #[(.int .i64 2), (.int .u64 0), (.slice none 0 0), (.int .i64 0), (.int .i64 0)]), s76, s77, s78, s79, s80, s81, s82, s83, s84, s85, s86, s87, t88, t89, t90, t91, t92, t93, t94, t95, t96, t97, t98, t99, t100, t101, t102, t103, t104, t105, t106, t107, t108, t109, t110, t111, t112, t113, t114, t115, t116, t117, t118, t119, t120, t121, t122, t123, t124, t125, t126, t127, t128, t129, t130, t131, t132, t133, t134, t135, t136, t137, t138, t139, t140, t141, t142, t143, t144, t145, t146, t147, t148, undef, undef, undef, undef, undef, undef] H (loopQ (fun m xs H' => AS.asInt .i64 (xs.getD 18 undef) fun t18 => I m t18 H') n [(X.exit 2, K0)])) by
      apply turnInto hs
      kernel_rfl
    intro s76 s77 s78 s79 s82 s83 s84 s85 s86 s87 s80 s81 s18 hP
    replace hP := asInt_elim hP
    obtain ⟨t18, rfl, hP⟩ := hP
    apply turnInto (hstep n t18 [(.int .i64 t0), (.int .i64 t1), (.int .i64 t2), (.slice t3 t3l 0), undef, undef, undef, undef, (.bool t8), (.pointer (some ⟨t9, 0, none⟩)), (.pointer t10), (.pointer t11), (.int .i64 t12), (.slice (some ⟨t13, 0, none⟩) t13l 0), (.int .u64 t14), (.int .i64 t15), (.int .i64 t16), (.pointer (some ⟨t17, 0, none⟩)), (.int .i64 t18), t19, t20, t21, t22, (.slice t23 t23l 0), (.int .i64 t24), (.bool false), undef, (.int .i64 t27), (.int .i64 t28), (.int .i64 t29), (.agg #[(.int .i64 3), (.int .i64 1), (.int .i64 t30_2), (.int .i64 0), (.int .i64 0)]), (.tuple #[(.pointer t31_0), (.pointer t31_1)]), (.agg #[(.int .i64 t32_0), (.int .i64 t32_1), (.int .i64 t32_2), (.int .i64 t32_3), (.int .i64 t32_4)]), (.tuple #[(.pointer t33_0), (.pointer t33_1)]), (.pointer t34), (.pointer t35), (.pointer t36), (.bool t37), (.bool false), (.pointer t39), (.bool t40), (.bool false), (.int .i64 t42), (.int .i64 t43), (.int .i64 t44), (.int .i64 t45), (.int .i64 t46), (.int .i64 t47), (.int .i64 t48), (.int .i64 t49), (.slice (some ⟨t50, 0, none⟩) t50l 0), (.int .i64 t51), (.slice t52 t52l 0), (.int .i64 t53), (.bool true), t55, t56, (.slice t57 t57l 0), (.int .i64 t58), (.pointer (some ⟨t59, t59o, none⟩)), (.int .i64 t60), (.slice (some ⟨t61, 0, none⟩) t61l 0), (.int .i64 t62), (.int .i64 t63), (.slice (some ⟨t64, 0, none⟩) t64l 0), (.int .i64 t65), (.pointer (some ⟨t66, t66o, none⟩)), (.pointer t67), (.bool true), (.agg #[(.int .i64 1), (.int .u64 0), (.slice none 0 0), (.int .i64 0), (.int .i64 0)]), (.int .i64 t70), (.int .i64 t71), (.bool true), (.int .u64 t73), (.int .u64 t74), (.agg #[(.int .i64 2), (.int .u64 0), (.slice none 0 0), (.int .i64 0), (.int .i64 0)]), s76, s77, s78, s79, s80, s81, s82, s83, s84, s85, s86, s87, t88, t89, t90, t91, t92, t93, t94, t95, t96, t97, t98, t99, t100, t101, t102, t103, t104, t105, t106, t107, t108, t109, t110, t111, t112, t113, t114, t115, t116, t117, t118, t119, t120, t121, t122, t123, t124, t125, t126, t127, t128, t129, t130, t131, t132, t133, t134, t135, t136, t137, t138, t139, t140, t141, t142, t143, t144, t145, t146, t147, t148, undef, undef, undef, undef, undef, undef] H hP)
    kernel_rfl
  · apply turnInto h0
    kernel_rfl

theorem use_crossbarlaw14_RecordWhole_2 {t0 : Int} {t1 : Int} {t2 : Int} {t3 : Option Addr} {t3l : Nat} {t9 : Nat} {t10 : Option Addr} {t11 : Option Addr} {t12 : Int} {t13 : Nat} {t13l : Nat} {t14 : Int} {t15 : Int} {t16 : Int} {t17 : Value} {t18 : Value} {t19 : Bool} {t20 : Bool} {t21 : Option Addr} {t21l : Nat} {t23 : Option Addr} {t23l : Nat} {t24 : Int} {t27 : Int} {t28 : Int} {t29 : Int} {t30_2 : Int} {t31_0 : Option Addr} {t31_1 : Option Addr} {t32_0 : Int} {t32_1 : Int} {t32_2 : Int} {t32_3 : Int} {t32_4 : Int} {t33_0 : Option Addr} {t33_1 : Option Addr} {t34 : Option Addr} {t35 : Option Addr} {t36 : Option Addr} {t37 : Bool} {t39 : Option Addr} {t40 : Bool} {t42 : Int} {t43 : Int} {t44 : Int} {t45 : Int} {t46 : Int} {t47 : Int} {t48 : Int} {t49 : Int} {t50 : Nat} {t50l : Nat} {t51 : Int} {t52 : Option Addr} {t52l : Nat} {t53 : Int} {t55 : Value} {t56 : Value} {t57 : Option Addr} {t57l : Nat} {t58 : Int} {t59 : Nat} {t59o : Nat} {t60 : Int} {t61 : Nat} {t61l : Nat} {t62 : Int} {t63 : Int} {t64 : Value} {t65 : Value} {t66 : Value} {t67 : Value} {t68 : Value} {t69 : Value} {t70 : Value} {t71 : Value} {t72 : Value} {t73 : Value} {t74 : Value} {t75 : Value} {t76 : Value} {t77 : Value} {t78 : Value} {t79 : Value} {t80 : Value} {t81 : Value} {t82 : Value} {t83 : Value} {t84 : Value} {t85 : Value} {t86 : Value} {t87 : Value} {t88 : Value} {t89 : Value} {t90 : Value} {t91 : Value} {t92 : Value} {t93 : Value} {t94 : Value} {t95 : Value} {t96 : Value} {t97 : Value} {t98 : Value} {t99_0 : Bool} {t99_1 : Bool} {t100 : Nat} {t100l : Nat} {t101 : Int} {t102 : Nat} {t102o : Nat} {t103 : Option Addr} {t104_0 : Bool} {t104_1 : Bool} {t105 : Bool} {t106 : Bool} {t107 : Bool} {t109 : Int} {t110 : Int} {t111 : Bool} {t113 : Nat} {t113l : Nat} {t114 : Int} {t115 : Nat} {t115o : Nat} {t116 : Option Addr} {t117_0 : Int} {t117_1 : Option Addr} {t117_1l : Nat} {t117_2 : Int} {t117_3 : Int} {t118 : Option Addr} {t118l : Nat} {t119 : Option Addr} {t119l : Nat} {t120 : Int} {t121 : Nat} {t122 : Int} {t123 : Bool} {t125 : Option Addr} {t125l : Nat} {t126 : Nat} {t126o : Nat} {t127 : Int} {t128 : Int} {t129 : Bool} {t145 : Value} {t146 : Value} {t147 : Value} {t148 : Value} {K0 : Fr → Heap → Prop} {K1 : Fr → Heap → Prop} {t8 : Bool} {t22 : Int} {t131 : Value} {t132 : Value} {t133 : Value} {t134 : Value} {t135 : Value} {t136 : Value} {t137 : Value} {t138 : Value} {t139 : Value} {t140 : Value} {t141 : Value} {t142 : Value} {t143 : Value} {t144 : Value} {H : Heap} (I : Nat → Bool → Int → Heap → Prop) (n : Nat) (h0 : I n t8 t22 H)
    (hstep : ∀ (n : Nat) (t8 : Bool) (t22 : Int) (ys : Fr) (H : Heap), I n t8 t22 H →
    (
 bif (decide (t22 < ((t21l : Nat) : Int))) then (
 inB t22 t21l ∧
 asRow t21 fun i1 i2 =>
 ∃ n3, (H.bump 8).cell i1 (i2 + (t22.toNat * 1)) = some (.int .u64 n3) ∧
 inB 0 t21l ∧
 asRow t21 fun i4 i5 =>
 ∃ n6, (H.bump 8).cell i4 i5 = some (.int .u64 n6) ∧
 (
 bif (n3 != n6) then (
 K1 [(.int .i64 t0), (.int .i64 t1), (.int .i64 t2), (.slice t3 t3l 0), undef, undef, undef, undef, (.bool false), (.pointer (some ⟨t9, 0, none⟩)), (.pointer t10), (.pointer t11), (.int .i64 t12), (.slice (some ⟨t13, 0, none⟩) t13l 0), (.int .u64 t14), (.int .i64 t15), (.int .i64 t16), t17, t18, (.bool t19), (.bool t20), (.slice t21 t21l 0), (.int .i64 t22), (.slice t23 t23l 0), (.int .i64 t24), (.bool false), undef, (.int .i64 t27), (.int .i64 t28), (.int .i64 t29), (.agg #[(.int .i64 3), (.int .i64 1), (.int .i64 t30_2), (.int .i64 0), (.int .i64 0)]), (.tuple #[(.pointer t31_0), (.pointer t31_1)]), (.agg #[(.int .i64 t32_0), (.int .i64 t32_1), (.int .i64 t32_2), (.int .i64 t32_3), (.int .i64 t32_4)]), (.tuple #[(.pointer t33_0), (.pointer t33_1)]), (.pointer t34), (.pointer t35), (.pointer t36), (.bool t37), (.bool false), (.pointer t39), (.bool t40), (.bool false), (.int .i64 t42), (.int .i64 t43), (.int .i64 t44), (.int .i64 t45), (.int .i64 t46), (.int .i64 t47), (.int .i64 t48), (.int .i64 t49), (.slice (some ⟨t50, 0, none⟩) t50l 0), (.int .i64 t51), (.slice t52 t52l 0), (.int .i64 t53), (.bool true), t55, t56, (.slice t57 t57l 0), (.int .i64 t58), (.pointer (some ⟨t59, t59o, none⟩)), (.int .i64 t60), (.slice (some ⟨t61, 0, none⟩) t61l 0), (.int .i64 t62), (.int .i64 t63), t64, t65, t66, t67, t68, t69, t70, t71, t72, t73, t74, t75, t76, t77, t78, t79, t80, t81, t82, t83, t84, t85, t86, t87, t88, t89, t90, t91, t92, t93, t94, t95, t96, t97, t98, (.tuple #[(.bool t99_0), (.bool t99_1)]), (.slice (some ⟨t100, 0, none⟩) t100l 0), (.int .i64 t101), (.pointer (some ⟨t102, t102o, none⟩)), (.pointer t103), (.tuple #[(.bool t104_0), (.bool t104_1)]), (.bool t105), (.bool t106), (.bool t107), (.bool true), (.int .i64 t109), (.int .i64 t110), (.bool t111), (.bool true), (.slice (some ⟨t113, 0, none⟩) t113l 0), (.int .i64 t114), (.pointer (some ⟨t115, t115o, none⟩)), (.pointer t116), (.agg #[(.int .i64 t117_0), (.slice t117_1 t117_1l 0), (.int .u64 t117_2), (.int .i64 t117_3)]), (.slice t118 t118l 0), (.slice t119 t119l 0), (.int .i64 t120), (.pointer (some ⟨t121, 2, none⟩)), (.int .i64 t122), (.bool t123), (.bool false), (.slice t125 t125l 0), (.pointer (some ⟨t126, t126o, none⟩)), (.int .u64 t127), (.int .u64 t128), (.bool t129), (.bool false), (.int .i64 t22), (.slice t21 t21l 0), (.int .i64 ((t21l : Nat) : Int)), (.bool true), (ys.getD 135 undef), (ys.getD 136 undef), (.slice t21 t21l 0), (.int .i64 t22), (.pointer (some ⟨i1, (i2 + (t22.toNat * 1)), none⟩)), (.int .u64 n3), (.slice t21 t21l 0), (.pointer (some ⟨i4, i5, none⟩)), (.int .u64 n6), (.bool true), t145, t146, t147, t148, undef, undef, undef, undef, undef, undef] (H.bump 8))
 else (
 ∃ k7, k7 < n ∧
 I k7 t8 (IntKind.i64.wrap (t22 + 1)) (H.bump 8))) ∧
 True)
 else (
 K0 [(.int .i64 t0), (.int .i64 t1), (.int .i64 t2), (.slice t3 t3l 0), undef, undef, undef, undef, (.bool t8), (.pointer (some ⟨t9, 0, none⟩)), (.pointer t10), (.pointer t11), (.int .i64 t12), (.slice (some ⟨t13, 0, none⟩) t13l 0), (.int .u64 t14), (.int .i64 t15), (.int .i64 t16), t17, t18, (.bool t19), (.bool t20), (.slice t21 t21l 0), (.int .i64 t22), (.slice t23 t23l 0), (.int .i64 t24), (.bool false), undef, (.int .i64 t27), (.int .i64 t28), (.int .i64 t29), (.agg #[(.int .i64 3), (.int .i64 1), (.int .i64 t30_2), (.int .i64 0), (.int .i64 0)]), (.tuple #[(.pointer t31_0), (.pointer t31_1)]), (.agg #[(.int .i64 t32_0), (.int .i64 t32_1), (.int .i64 t32_2), (.int .i64 t32_3), (.int .i64 t32_4)]), (.tuple #[(.pointer t33_0), (.pointer t33_1)]), (.pointer t34), (.pointer t35), (.pointer t36), (.bool t37), (.bool false), (.pointer t39), (.bool t40), (.bool false), (.int .i64 t42), (.int .i64 t43), (.int .i64 t44), (.int .i64 t45), (.int .i64 t46), (.int .i64 t47), (.int .i64 t48), (.int .i64 t49), (.slice (some ⟨t50, 0, none⟩) t50l 0), (.int .i64 t51), (.slice t52 t52l 0), (.int .i64 t53), (.bool true), t55, t56, (.slice t57 t57l 0), (.int .i64 t58), (.pointer (some ⟨t59, t59o, none⟩)), (.int .i64 t60), (.slice (some ⟨t61, 0, none⟩) t61l 0), (.int .i64 t62), (.int .i64 t63), t64, t65, t66, t67, t68, t69, t70, t71, t72, t73, t74, t75, t76, t77, t78, t79, t80, t81, t82, t83, t84, t85, t86, t87, t88, t89, t90, t91, t92, t93, t94, t95, t96, t97, t98, (.tuple #[(.bool t99_0), (.bool t99_1)]), (.slice (some ⟨t100, 0, none⟩) t100l 0), (.int .i64 t101), (.pointer (some ⟨t102, t102o, none⟩)), (.pointer t103), (.tuple #[(.bool t104_0), (.bool t104_1)]), (.bool t105), (.bool t106), (.bool t107), (.bool true), (.int .i64 t109), (.int .i64 t110), (.bool t111), (.bool true), (.slice (some ⟨t113, 0, none⟩) t113l 0), (.int .i64 t114), (.pointer (some ⟨t115, t115o, none⟩)), (.pointer t116), (.agg #[(.int .i64 t117_0), (.slice t117_1 t117_1l 0), (.int .u64 t117_2), (.int .i64 t117_3)]), (.slice t118 t118l 0), (.slice t119 t119l 0), (.int .i64 t120), (.pointer (some ⟨t121, 2, none⟩)), (.int .i64 t122), (.bool t123), (.bool false), (.slice t125 t125l 0), (.pointer (some ⟨t126, t126o, none⟩)), (.int .u64 t127), (.int .u64 t128), (.bool t129), (.bool false), (.int .i64 t22), (.slice t21 t21l 0), (.int .i64 ((t21l : Nat) : Int)), (.bool false), (ys.getD 135 undef), (ys.getD 136 undef), (ys.getD 137 undef), (ys.getD 138 undef), (ys.getD 139 undef), (ys.getD 140 undef), (ys.getD 141 undef), (ys.getD 142 undef), (ys.getD 143 undef), (ys.getD 144 undef), t145, t146, t147, t148, undef, undef, undef, undef, undef, undef] H))) :
    LA en L_crossbarlaw14_RecordWhole_2 [(.int .i64 t0), (.int .i64 t1), (.int .i64 t2), (.slice t3 t3l 0), undef, undef, undef, undef, (.bool t8), (.pointer (some ⟨t9, 0, none⟩)), (.pointer t10), (.pointer t11), (.int .i64 t12), (.slice (some ⟨t13, 0, none⟩) t13l 0), (.int .u64 t14), (.int .i64 t15), (.int .i64 t16), t17, t18, (.bool t19), (.bool t20), (.slice t21 t21l 0), (.int .i64 t22), (.slice t23 t23l 0), (.int .i64 t24), (.bool false), undef, (.int .i64 t27), (.int .i64 t28), (.int .i64 t29), (.agg #[(.int .i64 3), (.int .i64 1), (.int .i64 t30_2), (.int .i64 0), (.int .i64 0)]), (.tuple #[(.pointer t31_0), (.pointer t31_1)]), (.agg #[(.int .i64 t32_0), (.int .i64 t32_1), (.int .i64 t32_2), (.int .i64 t32_3), (.int .i64 t32_4)]), (.tuple #[(.pointer t33_0), (.pointer t33_1)]), (.pointer t34), (.pointer t35), (.pointer t36), (.bool t37), (.bool false), (.pointer t39), (.bool t40), (.bool false), (.int .i64 t42), (.int .i64 t43), (.int .i64 t44), (.int .i64 t45), (.int .i64 t46), (.int .i64 t47), (.int .i64 t48), (.int .i64 t49), (.slice (some ⟨t50, 0, none⟩) t50l 0), (.int .i64 t51), (.slice t52 t52l 0), (.int .i64 t53), (.bool true), t55, t56, (.slice t57 t57l 0), (.int .i64 t58), (.pointer (some ⟨t59, t59o, none⟩)), (.int .i64 t60), (.slice (some ⟨t61, 0, none⟩) t61l 0), (.int .i64 t62), (.int .i64 t63), t64, t65, t66, t67, t68, t69, t70, t71, t72, t73, t74, t75, t76, t77, t78, t79, t80, t81, t82, t83, t84, t85, t86, t87, t88, t89, t90, t91, t92, t93, t94, t95, t96, t97, t98, (.tuple #[(.bool t99_0), (.bool t99_1)]), (.slice (some ⟨t100, 0, none⟩) t100l 0), (.int .i64 t101), (.pointer (some ⟨t102, t102o, none⟩)), (.pointer t103), (.tuple #[(.bool t104_0), (.bool t104_1)]), (.bool t105), (.bool t106), (.bool t107), (.bool true), (.int .i64 t109), (.int .i64 t110), (.bool t111), (.bool true), (.slice (some ⟨t113, 0, none⟩) t113l 0), (.int .i64 t114), (.pointer (some ⟨t115, t115o, none⟩)), (.pointer t116), (.agg #[(.int .i64 t117_0), (.slice t117_1 t117_1l 0), (.int .u64 t117_2), (.int .i64 t117_3)]), (.slice t118 t118l 0), (.slice t119 t119l 0), (.int .i64 t120), (.pointer (some ⟨t121, 2, none⟩)), (.int .i64 t122), (.bool t123), (.bool false), (.slice t125 t125l 0), (.pointer (some ⟨t126, t126o, none⟩)), (.int .u64 t127), (.int .u64 t128), (.bool t129), (.bool false), t131, t132, t133, t134, t135, t136, t137, t138, t139, t140, t141, t142, t143, t144, t145, t146, t147, t148, undef, undef, undef, undef, undef, undef] H [(X.exit 4, K0), (X.ret, K1)] := by
  refine LA_rule (Z := []) (fun m xs H' => AS.asBool (xs.getD 8 undef) fun t8 => AS.asInt .i64 (xs.getD 22 undef) fun t22 => I m t8 t22 H') ?_ n H ?_
  · intro n H
    suffices hs : ∀ s131 : Value, ∀ s132 : Value, ∀ s133 : Value, ∀ s134 : Value, ∀ s137 : Value, ∀ s138 : Value, ∀ s139 : Value, ∀ s140 : Value, ∀ s141 : Value, ∀ s142 : Value, ∀ s143 : Value, ∀ s144 : Value, ∀ s8 : Value, ∀ s135 : Value, ∀ s136 : Value, ∀ s22 : Value, ((AS.asBool s8 fun t8 => AS.asInt .i64 s22 fun t22 => I n t8 t22 H) → wpCode en L_crossbarlaw14_RecordWhole_2 [] [(.int .i64 t0), (.int .i64 t1), (.int .i64 t2), (.slice t3 t3l 0), undef, undef, undef, undef, s8, (.pointer (some ⟨t9, 0, none⟩)), (.pointer t10), (.pointer t11), (.int .i64 t12), (.slice (some ⟨t13, 0, none⟩) t13l 0), (.int .u64 t14), (.int .i64 t15), (.int .i64 t16), t17, t18, (.bool t19), (.bool t20), (.slice t21 t21l 0), s22, (.slice t23 t23l 0), (.int .i64 t24), (.bool false), undef, (.int .i64 t27), (.int .i64 t28), (.int .i64 t29), (.agg #[(.int .i64 3), (.int .i64 1), (.int .i64 t30_2), (.int .i64 0), (.int .i64 0)]), (.tuple #[(.pointer t31_0), (.pointer t31_1)]), (.agg #[(.int .i64 t32_0), (.int .i64 t32_1), (.int .i64 t32_2), (.int .i64 t32_3), (.int .i64 t32_4)]), (.tuple #[(.pointer t33_0), (.pointer t33_1)]), (.pointer t34), (.pointer t35), (.pointer t36), (.bool t37), (.bool false), (.pointer t39), (.bool t40), (.bool false), (.int .i64 t42), (.int .i64 t43), (.int .i64 t44), (.int .i64 t45), (.int .i64 t46), (.int .i64 t47), (.int .i64 t48), (.int .i64 t49), (.slice (some ⟨t50, 0, none⟩) t50l 0), (.int .i64 t51), (.slice t52 t52l 0), (.int .i64 t53), (.bool true), t55, t56, (.slice t57 t57l 0), (.int .i64 t58), (.pointer (some ⟨t59, t59o, none⟩)), (.int .i64 t60), (.slice (some ⟨t61, 0, none⟩) t61l 0), (.int .i64 t62), (.int .i64 t63), t64, t65, t66, t67, t68, t69, t70, t71, t72, t73, t74, t75, t76, t77, t78, t79, t80, t81, t82, t83, t84, t85, t86, t87, t88, t89, t90, t91, t92, t93, t94, t95, t96, t97, t98, (.tuple #[(.bool t99_0), (.bool t99_1)]), (.slice (some ⟨t100, 0, none⟩) t100l 0), (.int .i64 t101), (.pointer (some ⟨t102, t102o, none⟩)), (.pointer t103), (.tuple #[(.bool t104_0), (.bool t104_1)]), (.bool t105), (.bool t106), (.bool t107), (.bool true), (.int .i64 t109), (.int .i64 t110), (.bool t111), (.bool true), (.slice (some ⟨t113, 0, none⟩) t113l 0), (.int .i64 t114), (.pointer (some ⟨t115, t115o, none⟩)), (.pointer t116), (.agg #[(.int .i64 t117_0), (.slice t117_1 t117_1l 0), (.int .u64 t117_2), (.int .i64 t117_3)]), (.slice t118 t118l 0), (.slice t119 t119l 0), (.int .i64 t120), (.pointer (some ⟨t121, 2, none⟩)), (.int .i64 t122), (.bool t123), (.bool false), (.slice t125 t125l 0), (.pointer (some ⟨t126, t126o, none⟩)), (.int .u64 t127), (.int .u64 t128), (.bool t129), (.bool false), s131, s132, s133, s134, s135, s136, s137, s138, s139, s140, s141, s142, s143, s144, t145, t146, t147, t148, undef, undef, undef, undef, undef, undef] H (loopQ (fun m xs H' => AS.asBool (xs.getD 8 undef) fun t8 => AS.asInt .i64 (xs.getD 22 undef) fun t22 => I m t8 t22 H') n [(X.exit 4, K0), (X.ret, K1)])) by
      apply turnInto hs
      kernel_rfl
    intro s131 s132 s133 s134 s137 s138 s139 s140 s141 s142 s143 s144 s8 s135 s136 s22 hP
    replace hP := asBool_elim hP
    obtain ⟨t8, rfl, hP⟩ := hP
    replace hP := asInt_elim hP
    obtain ⟨t22, rfl, hP⟩ := hP
    apply turnInto (hstep n t8 t22 [(.int .i64 t0), (.int .i64 t1), (.int .i64 t2), (.slice t3 t3l 0), undef, undef, undef, undef, (.bool t8), (.pointer (some ⟨t9, 0, none⟩)), (.pointer t10), (.pointer t11), (.int .i64 t12), (.slice (some ⟨t13, 0, none⟩) t13l 0), (.int .u64 t14), (.int .i64 t15), (.int .i64 t16), t17, t18, (.bool t19), (.bool t20), (.slice t21 t21l 0), (.int .i64 t22), (.slice t23 t23l 0), (.int .i64 t24), (.bool false), undef, (.int .i64 t27), (.int .i64 t28), (.int .i64 t29), (.agg #[(.int .i64 3), (.int .i64 1), (.int .i64 t30_2), (.int .i64 0), (.int .i64 0)]), (.tuple #[(.pointer t31_0), (.pointer t31_1)]), (.agg #[(.int .i64 t32_0), (.int .i64 t32_1), (.int .i64 t32_2), (.int .i64 t32_3), (.int .i64 t32_4)]), (.tuple #[(.pointer t33_0), (.pointer t33_1)]), (.pointer t34), (.pointer t35), (.pointer t36), (.bool t37), (.bool false), (.pointer t39), (.bool t40), (.bool false), (.int .i64 t42), (.int .i64 t43), (.int .i64 t44), (.int .i64 t45), (.int .i64 t46), (.int .i64 t47), (.int .i64 t48), (.int .i64 t49), (.slice (some ⟨t50, 0, none⟩) t50l 0), (.int .i64 t51), (.slice t52 t52l 0), (.int .i64 t53), (.bool true), t55, t56, (.slice t57 t57l 0), (.int .i64 t58), (.pointer (some ⟨t59, t59o, none⟩)), (.int .i64 t60), (.slice (some ⟨t61, 0, none⟩) t61l 0), (.int .i64 t62), (.int .i64 t63), t64, t65, t66, t67, t68, t69, t70, t71, t72, t73, t74, t75, t76, t77, t78, t79, t80, t81, t82, t83, t84, t85, t86, t87, t88, t89, t90, t91, t92, t93, t94, t95, t96, t97, t98, (.tuple #[(.bool t99_0), (.bool t99_1)]), (.slice (some ⟨t100, 0, none⟩) t100l 0), (.int .i64 t101), (.pointer (some ⟨t102, t102o, none⟩)), (.pointer t103), (.tuple #[(.bool t104_0), (.bool t104_1)]), (.bool t105), (.bool t106), (.bool t107), (.bool true), (.int .i64 t109), (.int .i64 t110), (.bool t111), (.bool true), (.slice (some ⟨t113, 0, none⟩) t113l 0), (.int .i64 t114), (.pointer (some ⟨t115, t115o, none⟩)), (.pointer t116), (.agg #[(.int .i64 t117_0), (.slice t117_1 t117_1l 0), (.int .u64 t117_2), (.int .i64 t117_3)]), (.slice t118 t118l 0), (.slice t119 t119l 0), (.int .i64 t120), (.pointer (some ⟨t121, 2, none⟩)), (.int .i64 t122), (.bool t123), (.bool false), (.slice t125 t125l 0), (.pointer (some ⟨t126, t126o, none⟩)), (.int .u64 t127), (.int .u64 t128), (.bool t129), (.bool false), s131, s132, s133, s134, s135, s136, s137, s138, s139, s140, s141, s142, s143, s144, t145, t146, t147, t148, undef, undef, undef, undef, undef, undef] H hP)
    kernel_rfl
  · apply turnInto h0
    kernel_rfl


/-! grace_New -/

theorem vc_grace_New (x0 : Int) (x1 : Option Addr) (H : Heap) (R : Value → Heap → Prop) :
    (
 nwH H (.map [] 0) fun i1 H2 =>
 nwH H2 (.cells true 0 [(.pointer x1), (.int .i64 x0), (.map (some i1)), (.slice none 0 0)]) fun i3 H4 =>
 R (.pointer (some ⟨i3, 0, none⟩)) H4) →
    CA en F.grace_New [(.int .i64 x0), (.pointer x1)] H R := by
  intro h
  refine wpFn_ok (Z := []) (fn := Go.Proofs.Try.f44) ?_ ?_ ?_
  · kernel_rfl
  · kernel_rfl
  · apply turnInto h
    kernel_rfl

end Go.Proofs.Ytgpacebjbdhphaa
