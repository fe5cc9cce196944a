/-
  What functions of this seat's program need (printed by a program, checked by the kernel).
-/
import Derived.Test.YthnifkjpkepbaaaNames
import Derived.Test.YthnifkjpkepbaaaAs41
namespace Go.Proofs.Ythnifkjpkepbaaa
open Go Go.AS Go.RowKit
set_option linter.unusedVariables false
set_option maxRecDepth 100000

/-! array_New -/

theorem vc_array_New (x0 : Option Addr) (x1_0 : Int) (x1_1 : Int) (x1_2 : Int) (x1_3 : Int) (x1_4 : Int) (x2 : Int) (H : Heap) (R : Value → Heap → Prop) :
    (
 nwH H (.cells true 0 [(.int .i64 x1_0), (.int .i64 x1_1), (.int .i64 x1_2), (.int .i64 x1_3), (.int .i64 x1_4)]) fun i1 H2 =>
 ∃ n3, H2.cell i1 0 = some (.int .i64 n3) ∧
 bif (n3 == 1) then (
 ∃ n4, H2.cell i1 1 = some (.int .i64 n4) ∧
 bif (decide (n4 < 1)) then (
 R (.tuple #[(.pointer none), (.int .i64 1)]) H2)
 else (
 ∃ n5, H2.cell i1 1 = some (.int .i64 n5) ∧
 bif (decide (n5 > 64)) then (
 R (.tuple #[(.pointer none), (.int .i64 1)]) H2)
 else (
 bif (decide (x2 < 1)) then (
 R (.tuple #[(.pointer none), (.int .i64 1)]) H2)
 else (
 bif (decide (x2 > 4)) then (
 R (.tuple #[(.pointer none), (.int .i64 1)]) H2)
 else (
 ∃ n6, ∃ n7, ∃ n8, ∃ n9, ∃ n10, H2.cellsAt i1 0 5 = some [(.int .i64 n6), (.int .i64 n7), (.int .i64 n8), (.int .i64 n9), (.int .i64 n10)] ∧
 nwH H2 (.cells true 0 [(.pointer x0), (.int .i64 n6), (.int .i64 n7), (.int .i64 n8), (.int .i64 n9), (.int .i64 n10), (.int .i64 0), (.int .i64 1)]) fun i11 H12 =>
 ∃ n13, H12.cell i1 0 = some (.int .i64 n13) ∧
 bif (n13 == 2) then (
 stc H12 i11 7 [(.int .i64 x2)] fun H14 =>
 ∃ n15, (H14.bump 14).cell i1 1 = some (.int .i64 n15) ∧
 ∃ n16, (H14.bump 14).cell i11 7 = some (.int .i64 n16) ∧
 CA en F.smem_Mem_Make [(.pointer x0), (.int .i64 (IntKind.i64.wrap (n15 * n16)))] (H14.bump 14) fun v17 H18 =>
 ∃ n19, ∃ n20, v17 = (.tuple #[(.int .i64 n19), (.int .i64 n20)]) ∧
 (
 bif (n20 != 0) then (
 R (.tuple #[(.pointer none), (.int .i64 5)]) H18)
 else (
 stc H18 i11 6 [(.int .i64 n19)] fun H21 =>
 R (.tuple #[(.pointer (some ⟨i11, 0, none⟩)), (.int .i64 0)]) H21)) ∧
 True)
 else (
 ∃ n22, (H12.bump 14).cell i1 1 = some (.int .i64 n22) ∧
 ∃ n23, (H12.bump 14).cell i11 7 = some (.int .i64 n23) ∧
 CA en F.smem_Mem_Make [(.pointer x0), (.int .i64 (IntKind.i64.wrap (n22 * n23)))] (H12.bump 14) fun v24 H25 =>
 ∃ n26, ∃ n27, v24 = (.tuple #[(.int .i64 n26), (.int .i64 n27)]) ∧
 (
 bif (n27 != 0) then (
 R (.tuple #[(.pointer none), (.int .i64 5)]) H25)
 else (
 stc H25 i11 6 [(.int .i64 n26)] fun H28 =>
 R (.tuple #[(.pointer (some ⟨i11, 0, none⟩)), (.int .i64 0)]) H28)) ∧
 True))))))
 else (
 ∃ n29, H2.cell i1 0 = some (.int .i64 n29) ∧
 bif (n29 == 2) then (
 ∃ n30, H2.cell i1 1 = some (.int .i64 n30) ∧
 bif (decide (n30 < 1)) then (
 R (.tuple #[(.pointer none), (.int .i64 1)]) H2)
 else (
 ∃ n31, H2.cell i1 1 = some (.int .i64 n31) ∧
 bif (decide (n31 > 64)) then (
 R (.tuple #[(.pointer none), (.int .i64 1)]) H2)
 else (
 bif (decide (x2 < 1)) then (
 R (.tuple #[(.pointer none), (.int .i64 1)]) H2)
 else (
 bif (decide (x2 > 4)) then (
 R (.tuple #[(.pointer none), (.int .i64 1)]) H2)
 else (
 ∃ n32, ∃ n33, ∃ n34, ∃ n35, ∃ n36, H2.cellsAt i1 0 5 = some [(.int .i64 n32), (.int .i64 n33), (.int .i64 n34), (.int .i64 n35), (.int .i64 n36)] ∧
 nwH H2 (.cells true 0 [(.pointer x0), (.int .i64 n32), (.int .i64 n33), (.int .i64 n34), (.int .i64 n35), (.int .i64 n36), (.int .i64 0), (.int .i64 1)]) fun i37 H38 =>
 ∃ n39, H38.cell i1 0 = some (.int .i64 n39) ∧
 bif (n39 == 2) then (
 stc H38 i37 7 [(.int .i64 x2)] fun H40 =>
 ∃ n41, (H40.bump 14).cell i1 1 = some (.int .i64 n41) ∧
 ∃ n42, (H40.bump 14).cell i37 7 = some (.int .i64 n42) ∧
 CA en F.smem_Mem_Make [(.pointer x0), (.int .i64 (IntKind.i64.wrap (n41 * n42)))] (H40.bump 14) fun v43 H44 =>
 ∃ n45, ∃ n46, v43 = (.tuple #[(.int .i64 n45), (.int .i64 n46)]) ∧
 (
 bif (n46 != 0) then (
 R (.tuple #[(.pointer none), (.int .i64 5)]) H44)
 else (
 stc H44 i37 6 [(.int .i64 n45)] fun H47 =>
 R (.tuple #[(.pointer (some ⟨i37, 0, none⟩)), (.int .i64 0)]) H47)) ∧
 True)
 else (
 ∃ n48, (H38.bump 14).cell i1 1 = some (.int .i64 n48) ∧
 ∃ n49, (H38.bump 14).cell i37 7 = some (.int .i64 n49) ∧
 CA en F.smem_Mem_Make [(.pointer x0), (.int .i64 (IntKind.i64.wrap (n48 * n49)))] (H38.bump 14) fun v50 H51 =>
 ∃ n52, ∃ n53, v50 = (.tuple #[(.int .i64 n52), (.int .i64 n53)]) ∧
 (
 bif (n53 != 0) then (
 R (.tuple #[(.pointer none), (.int .i64 5)]) H51)
 else (
 stc H51 i37 6 [(.int .i64 n52)] fun H54 =>
 R (.tuple #[(.pointer (some ⟨i37, 0, none⟩)), (.int .i64 0)]) H54)) ∧
 True))))))
 else (
 ∃ n55, H2.cell i1 0 = some (.int .i64 n55) ∧
 bif (!(n55 == 9)) then (
 R (.tuple #[(.pointer none), (.int .i64 1)]) H2)
 else (
 ∃ n56, H2.cell i1 1 = some (.int .i64 n56) ∧
 bif (decide (n56 < 1)) then (
 R (.tuple #[(.pointer none), (.int .i64 1)]) H2)
 else (
 ∃ n57, H2.cell i1 1 = some (.int .i64 n57) ∧
 bif (decide (n57 > 64)) then (
 R (.tuple #[(.pointer none), (.int .i64 1)]) H2)
 else (
 bif (decide (x2 < 1)) then (
 R (.tuple #[(.pointer none), (.int .i64 1)]) H2)
 else (
 bif (decide (x2 > 4)) then (
 R (.tuple #[(.pointer none), (.int .i64 1)]) H2)
 else (
 ∃ n58, ∃ n59, ∃ n60, ∃ n61, ∃ n62, H2.cellsAt i1 0 5 = some [(.int .i64 n58), (.int .i64 n59), (.int .i64 n60), (.int .i64 n61), (.int .i64 n62)] ∧
 nwH H2 (.cells true 0 [(.pointer x0), (.int .i64 n58), (.int .i64 n59), (.int .i64 n60), (.int .i64 n61), (.int .i64 n62), (.int .i64 0), (.int .i64 1)]) fun i63 H64 =>
 ∃ n65, H64.cell i1 0 = some (.int .i64 n65) ∧
 bif (n65 == 2) then (
 stc H64 i63 7 [(.int .i64 x2)] fun H66 =>
 ∃ n67, (H66.bump 14).cell i1 1 = some (.int .i64 n67) ∧
 ∃ n68, (H66.bump 14).cell i63 7 = some (.int .i64 n68) ∧
 CA en F.smem_Mem_Make [(.pointer x0), (.int .i64 (IntKind.i64.wrap (n67 * n68)))] (H66.bump 14) fun v69 H70 =>
 ∃ n71, ∃ n72, v69 = (.tuple #[(.int .i64 n71), (.int .i64 n72)]) ∧
 (
 bif (n72 != 0) then (
 R (.tuple #[(.pointer none), (.int .i64 5)]) H70)
 else (
 stc H70 i63 6 [(.int .i64 n71)] fun H73 =>
 R (.tuple #[(.pointer (some ⟨i63, 0, none⟩)), (.int .i64 0)]) H73)) ∧
 True)
 else (
 ∃ n74, (H64.bump 14).cell i1 1 = some (.int .i64 n74) ∧
 ∃ n75, (H64.bump 14).cell i63 7 = some (.int .i64 n75) ∧
 CA en F.smem_Mem_Make [(.pointer x0), (.int .i64 (IntKind.i64.wrap (n74 * n75)))] (H64.bump 14) fun v76 H77 =>
 ∃ n78, ∃ n79, v76 = (.tuple #[(.int .i64 n78), (.int .i64 n79)]) ∧
 (
 bif (n79 != 0) then (
 R (.tuple #[(.pointer none), (.int .i64 5)]) H77)
 else (
 stc H77 i63 6 [(.int .i64 n78)] fun H80 =>
 R (.tuple #[(.pointer (some ⟨i63, 0, none⟩)), (.int .i64 0)]) H80)) ∧
 True))))))))) →
    CA en F.array_New [(.pointer x0), (.agg #[(.int .i64 x1_0), (.int .i64 x1_1), (.int .i64 x1_2), (.int .i64 x1_3), (.int .i64 x1_4)]), (.int .i64 x2)] H R := by
  intro h
  refine wpFn_ok (Z := []) (fn := Go.Proofs.Try.f24) ?_ ?_ ?_
  · kernel_rfl
  · kernel_rfl
  · apply turnInto h
    kernel_rfl


/-! array_Map_Cell -/

theorem vc_array_Map_Cell (x0 : Option Addr) (x1 : Int) (H : Heap) (R : Value → Heap → Prop) :
    (
 AS.asAddr (.pointer x0) fun i1 i2 =>
 ∃ n3, (H.bump 24).cell i1 (i2 + 1) = some (.int .i64 n3) ∧
 bif (n3 == 9) then (
 (
 R (.tuple #[(.int .i64 0), (.int .i64 0)]) (H.bump 24)) ∧
 True)
 else (
 bif (decide (x1 < 1)) then (
 (
 R (.tuple #[(.int .i64 0), (.int .i64 0)]) (H.bump 24)) ∧
 True)
 else (
 AS.asAddr (.pointer x0) fun i4 i5 =>
 ∃ n6, (H.bump 24).cell i4 ((i5 + 1) + 1) = some (.int .i64 n6) ∧
 AS.asAddr (.pointer x0) fun i7 i8 =>
 ∃ n9, (H.bump 24).cell i7 (i8 + 7) = some (.int .i64 n9) ∧
 (
 bif (decide (x1 > (IntKind.i64.wrap (n6 * n9)))) then (
 R (.tuple #[(.int .i64 0), (.int .i64 0)]) (H.bump 24))
 else (
 AS.asAddr (.pointer x0) fun i10 i11 =>
 ∃ n12, (H.bump 24).cell i10 (i11 + 6) = some (.int .i64 n12) ∧
 R (.tuple #[(.int .i64 n12), (.int .i64 (IntKind.i64.wrap (x1 - 1)))]) (H.bump 24))) ∧
 True))) →
    CA en F.array_Map_Cell [(.pointer x0), (.int .i64 x1)] H R := by
  intro h
  refine wpFn_ok (Z := []) (fn := Go.Proofs.Try.f25) ?_ ?_ ?_
  · kernel_rfl
  · kernel_rfl
  · apply turnInto h
    kernel_rfl


/-! array_Map_Begin -/

theorem vc_array_Map_Begin (x0 : Option Addr) (x1_0 : Int) (x1_1 : Int) (x1_2 : Option Addr) (x1_2l : Nat) (x1_3 : Int) (x1_4 : Int) (H : Heap) (R : Value → Heap → Prop) :
    (
 nwH H (.cells true 0 [(.int .i64 x1_0), (.int .u64 x1_1), (.slice x1_2 x1_2l 0), (.int .i64 x1_3), (.int .i64 x1_4)]) fun i1 H2 =>
 ∃ n3, ∃ n4, ∃ a5 i6, ∃ n7, ∃ n8, H2.cellsAt i1 0 5 = some [(.int .i64 n3), (.int .u64 n4), (.slice a5 i6 0), (.int .i64 n7), (.int .i64 n8)] ∧
 nwH H2 (.cells true 0 [(.pointer x0), (.int .i64 n3), (.int .u64 n4), (.slice a5 i6 0), (.int .i64 n7), (.int .i64 n8), (.int .u64 0), (.int .i64 0), (.slice none 0 0), (.int .u64 0), (.int .i64 0), (.bool false)]) fun i9 H10 =>
 ∃ a11 i12, H10.cell i1 2 = some (.slice a11 i12 0) ∧
 bif (decide (((i12 : Nat) : Int) > 0)) then (
 ∃ a13 i14, H10.cell i1 2 = some (.slice a13 i14 0) ∧
 inB 0 i14 ∧
 asRow a13 fun i15 i16 =>
 ∃ n17, H10.cell i15 i16 = some (.int .u64 n17) ∧
 stc H10 i9 6 [(.int .u64 n17)] fun H18 =>
 stc H18 i9 3 [(.slice none 0 0)] fun H19 =>
 R (.pointer (some ⟨i9, 0, none⟩)) H19)
 else (
 stc H10 i9 3 [(.slice none 0 0)] fun H20 =>
 R (.pointer (some ⟨i9, 0, none⟩)) H20)) →
    CA en F.array_Map_Begin [(.pointer x0), (.agg #[(.int .i64 x1_0), (.int .u64 x1_1), (.slice x1_2 x1_2l 0), (.int .i64 x1_3), (.int .i64 x1_4)])] H R := by
  intro h
  refine wpFn_ok (Z := []) (fn := Go.Proofs.Try.f44) ?_ ?_ ?_
  · kernel_rfl
  · kernel_rfl
  · apply turnInto h
    kernel_rfl


/-! array_Run_Step -/

theorem vc_array_Run_Step (x0 : Option Addr) (H : Heap) (R : Value → Heap → Prop) :
    (
 AS.asAddr (.pointer x0) fun i1 i2 =>
 ∃ b3, H.cell i1 (i2 + 11) = some (.bool b3) ∧
 bif b3 then (
 R (.tuple #[(.bool false), (.bool true)]) H)
 else (
 AS.asAddr (.pointer x0) fun i4 i5 =>
 stc H i4 (i5 + 11) [(.bool true)] fun H6 =>
 nwH H6 (.map [] 0) fun i7 H8 =>
 upM H8 (.int .i64) (some i7) (.int .i64 1) (.func (.func F.array_Run_lookup) #[] #[]) fun H9 =>
 upM H9 (.int .i64) (some i7) (.int .i64 2) (.func (.func F.array_Run_update) #[] #[]) fun H10 =>
 upM H10 (.int .i64) (some i7) (.int .i64 3) (.func (.func F.array_Run_drop) #[] #[]) fun H11 =>
 upM H11 (.int .i64) (some i7) (.int .i64 4) (.func (.func F.array_Run_next) #[] #[]) fun H12 =>
 AS.asAddr (.pointer x0) fun i13 i14 =>
 ∃ n15, H12.cell i13 (i14 + 1) = some (.int .i64 n15) ∧
 ∃ r16, AS.mapGet H12 (.int .i64) (some i7) (.int .i64 n15) = some r16 ∧
 ∃ v17, got r16 .nilFunc v17 ∧
 AS.asAddr (.pointer x0) fun i18 i19 =>
 stc H12 i18 (i19 + 7) [(.int .i64 1), (.slice none 0 0), (.int .u64 0), (.int .i64 0)] fun H20 =>
 asFnNil v17 fun b21 =>
 bif (!b21) then (
 AS.asFn v17 fun f22 l23 l24 =>
 (∃ fn, en.fn f22 = some fn) ∧
 CA en f22 (l23 ++ [(.pointer x0)] ++ l24) H20 fun v25 H26 =>
 ∃ n27, ∃ a28 i29, ∃ n30, ∃ n31, v25 = (.agg #[(.int .i64 n27), (.slice a28 i29 0), (.int .u64 n30), (.int .i64 n31)]) ∧
 AS.asAddr (.pointer x0) fun i32 i33 =>
 stc H26 i32 (i33 + 7) [(.int .i64 n27), (.slice a28 i29 0), (.int .u64 n30), (.int .i64 n31)] fun H34 =>
 R (.tuple #[(.bool true), (.bool true)]) H34)
 else (
 R (.tuple #[(.bool true), (.bool true)]) H20))) →
    CA en F.array_Run_Step [(.pointer x0)] H R := by
  intro h
  refine wpFn_ok (Z := []) (fn := Go.Proofs.Try.f56) ?_ ?_ ?_
  · kernel_rfl
  · kernel_rfl
  · apply turnInto h
    kernel_rfl


/-! array_Run_Result -/

theorem vc_array_Run_Result (x0 : Option Addr) (H : Heap) (R : Value → Heap → Prop) :
    (
 nwH H (.cells true 0 [(.int .i64 0), (.slice none 0 0), (.int .u64 0), (.int .i64 0)]) fun i1 H2 =>
 AS.asAddr (.pointer x0) fun i3 i4 =>
 ∃ n5, ∃ a6 i7, ∃ n8, ∃ n9, H2.cellsAt i3 (i4 + 7) 4 = some [(.int .i64 n5), (.slice a6 i7 0), (.int .u64 n8), (.int .i64 n9)] ∧
 nwH H2 (.cells true 0 [(.int .i64 0), (.slice none 0 0), (.int .u64 0), (.int .i64 0)]) fun i10 H11 =>
 stc H11 i10 0 [(.int .i64 n5), (.slice a6 i7 0), (.int .u64 n8), (.int .i64 n9)] fun H12 =>
 AS.asAddr (.pointer x0) fun i13 i14 =>
 ∃ a15 i16, H12.cell i13 ((i14 + 7) + 1) = some (.slice a15 i16 0) ∧
 ∃ l17, rowOf H12 1 a15 i16 = some l17 ∧
 apd H12 8 1 none 0 i16 l17 fun a18 i19 H20 =>
 stc H20 i10 1 [(.slice a18 i19 0)] fun H21 =>
 ∃ n22, ∃ a23 i24, ∃ n25, ∃ n26, H21.cellsAt i10 0 4 = some [(.int .i64 n22), (.slice a23 i24 0), (.int .u64 n25), (.int .i64 n26)] ∧
 stc H21 i1 0 [(.int .i64 n22), (.slice a23 i24 0), (.int .u64 n25), (.int .i64 n26)] fun H27 =>
 ∃ n28, ∃ a29 i30, ∃ n31, ∃ n32, H27.cellsAt i1 0 4 = some [(.int .i64 n28), (.slice a29 i30 0), (.int .u64 n31), (.int .i64 n32)] ∧
 R (.agg #[(.int .i64 n28), (.slice a29 i30 0), (.int .u64 n31), (.int .i64 n32)]) H27) →
    CA en F.array_Run_Result [(.pointer x0)] H R := by
  intro h
  refine wpFn_ok (Z := []) (fn := Go.Proofs.Try.f57) ?_ ?_ ?_
  · kernel_rfl
  · kernel_rfl
  · apply turnInto h
    kernel_rfl


/-! array_Run_lookup -/

theorem vc_array_Run_lookup (x0 : Option Addr) (H : Heap) (R : Value → Heap → Prop) :
    (
 nwH H (.cells true 0 [(.int .i64 0), (.slice none 0 0), (.int .u64 0), (.int .i64 0)]) fun i1 H2 =>
 AS.asAddr (.pointer x0) fun i3 i4 =>
 ∃ n5, (H2.bump 15).cell i3 ((i4 + 1) + 1) = some (.int .u64 n5) ∧
 AS.asAddr (.pointer x0) fun i6 i7 =>
 ∃ a8, (H2.bump 15).cell i6 i7 = some (.pointer a8) ∧
 AS.asAddr (.pointer a8) fun i9 i10 =>
 ∃ n11, (H2.bump 15).cell i9 ((i10 + 1) + 1) = some (.int .i64 n11) ∧
 (
 bif (decide (n5 ≥ (IntKind.u64.wrap n11))) then (
 stc (H2.bump 15) i1 0 [(.int .i64 2), (.slice none 0 0), (.int .u64 0), (.int .i64 0)] fun H12 =>
 ∃ n13, ∃ a14 i15, ∃ n16, ∃ n17, H12.cellsAt i1 0 4 = some [(.int .i64 n13), (.slice a14 i15 0), (.int .u64 n16), (.int .i64 n17)] ∧
 R (.agg #[(.int .i64 n13), (.slice a14 i15 0), (.int .u64 n16), (.int .i64 n17)]) H12)
 else (
 AS.asAddr (.pointer x0) fun i18 i19 =>
 ∃ a20, ((H2.bump 15).bump 22).cell i18 i19 = some (.pointer a20) ∧
 AS.asAddr (.pointer a20) fun i21 i22 =>
 ∃ a23, ((H2.bump 15).bump 22).cell i21 i22 = some (.pointer a23) ∧
 AS.asAddr (.pointer x0) fun i24 i25 =>
 ∃ a26, ((H2.bump 15).bump 22).cell i24 i25 = some (.pointer a26) ∧
 AS.asAddr (.pointer a26) fun i27 i28 =>
 ∃ n29, ((H2.bump 15).bump 22).cell i27 (i28 + 6) = some (.int .i64 n29) ∧
 CA en F.array_Run_at [(.pointer x0)] ((H2.bump 15).bump 22) fun v30 H31 =>
 ∃ n32, v30 = (.int .i64 n32) ∧
 CA en F.smem_Mem_Load [(.pointer a23), (.int .i64 n29), (.int .i64 n32)] H31 fun v33 H34 =>
 ∃ n35, ∃ b36, v33 = (.tuple #[(.int .u64 n35), (.bool b36)]) ∧
 (
 CA en F.array_Run_at [(.pointer x0)] H34 fun v45 H46 =>
 ∃ n47, v45 = (.int .i64 n47) ∧
 AS.asAddr (.pointer x0) fun i48 i49 =>
 ∃ a50, H46.cell i48 i49 = some (.pointer a50) ∧
 AS.asAddr (.pointer a50) fun i51 i52 =>
 ∃ n53, H46.cell i51 (i52 + 1) = some (.int .i64 n53) ∧
 bif (n53 == 9) then (
 bif (n35 == 0) then (
 stc H46 i1 0 [(.int .i64 2), (.slice none 0 0), (.int .u64 0), (.int .i64 0)] fun H54 =>
 ∃ n55, ∃ a56 i57, ∃ n58, ∃ n59, H54.cellsAt i1 0 4 = some [(.int .i64 n55), (.slice a56 i57 0), (.int .u64 n58), (.int .i64 n59)] ∧
 R (.agg #[(.int .i64 n55), (.slice a56 i57 0), (.int .u64 n58), (.int .i64 n59)]) H54)
 else (
 nwH H46 (.cells true 1 [(.int .u64 n35)]) fun i60 H61 =>
 stc H61 i1 0 [(.int .i64 0), (.slice (some ⟨i60, 0, none⟩) 1 0), (.int .u64 0), (.int .i64 (IntKind.i64.wrap n35))] fun H62 =>
 ∃ n63, ∃ a64 i65, ∃ n66, ∃ n67, H62.cellsAt i1 0 4 = some [(.int .i64 n63), (.slice a64 i65 0), (.int .u64 n66), (.int .i64 n67)] ∧
 R (.agg #[(.int .i64 n63), (.slice a64 i65 0), (.int .u64 n66), (.int .i64 n67)]) H62))
 else (
 nwH H46 (.cells true 1 [(.int .u64 n35)]) fun i68 H69 =>
 stc H69 i1 0 [(.int .i64 0), (.slice (some ⟨i68, 0, none⟩) 1 0), (.int .u64 0), (.int .i64 (IntKind.i64.wrap (n47 + 1)))] fun H70 =>
 ∃ n71, ∃ a72 i73, ∃ n74, ∃ n75, H70.cellsAt i1 0 4 = some [(.int .i64 n71), (.slice a72 i73 0), (.int .u64 n74), (.int .i64 n75)] ∧
 R (.agg #[(.int .i64 n71), (.slice a72 i73 0), (.int .u64 n74), (.int .i64 n75)]) H70)) ∧
 ((∃ n38, ((H2.bump 15).bump 22).cell i27 (i28 + 6) = some (.int .i64 n38) ∧
 n29 = n38) ∧ (∃ n37, H31.cell i27 (i28 + 6) = some (.int .i64 n37) ∧
 n29 = n37) ∧ True) ∧
 ((∃ a40, ((H2.bump 15).bump 22).cell i24 i25 = some (.pointer a40) ∧
 a26 = a40) ∧ (∃ a39, H31.cell i24 i25 = some (.pointer a39) ∧
 a26 = a39) ∧ True) ∧
 ((∃ a42, ((H2.bump 15).bump 22).cell i21 i22 = some (.pointer a42) ∧
 a23 = a42) ∧ (∃ a41, H31.cell i21 i22 = some (.pointer a41) ∧
 a23 = a41) ∧ True) ∧
 ((∃ a44, ((H2.bump 15).bump 22).cell i18 i19 = some (.pointer a44) ∧
 a20 = a44) ∧ (∃ a43, H31.cell i18 i19 = some (.pointer a43) ∧
 a20 = a43) ∧ True) ∧
 True)) ∧
 True) →
    CA en F.array_Run_lookup [(.pointer x0)] H R := by
  intro h
  refine wpFn_ok (Z := []) (fn := Go.Proofs.Try.f71) ?_ ?_ ?_
  · kernel_rfl
  · kernel_rfl
  · apply turnInto h
    kernel_rfl


/-! array_Run_update -/

theorem vc_array_Run_update (x0 : Option Addr) (H : Heap) (R : Value → Heap → Prop) :
    (
 nwH H (.cells true 0 [(.int .i64 0), (.slice none 0 0), (.int .u64 0), (.int .i64 0)]) fun i1 H2 =>
 AS.asAddr (.pointer x0) fun i3 i4 =>
 ∃ n5, (H2.bump 16).cell i3 ((i4 + 1) + 1) = some (.int .u64 n5) ∧
 AS.asAddr (.pointer x0) fun i6 i7 =>
 ∃ a8, (H2.bump 16).cell i6 i7 = some (.pointer a8) ∧
 AS.asAddr (.pointer a8) fun i9 i10 =>
 ∃ n11, (H2.bump 16).cell i9 ((i10 + 1) + 1) = some (.int .i64 n11) ∧
 (
 bif (decide (n5 ≥ (IntKind.u64.wrap n11))) then (
 stc (H2.bump 16) i1 0 [(.int .i64 4), (.slice none 0 0), (.int .u64 0), (.int .i64 0)] fun H12 =>
 ∃ n13, ∃ a14 i15, ∃ n16, ∃ n17, H12.cellsAt i1 0 4 = some [(.int .i64 n13), (.slice a14 i15 0), (.int .u64 n16), (.int .i64 n17)] ∧
 R (.agg #[(.int .i64 n13), (.slice a14 i15 0), (.int .u64 n16), (.int .i64 n17)]) H12)
 else (
 AS.asAddr (.pointer x0) fun i18 i19 =>
 ∃ n20, (H2.bump 16).cell i18 ((i19 + 1) + 3) = some (.int .i64 n20) ∧
 bif (n20 == 1) then (
 stc (H2.bump 16) i1 0 [(.int .i64 3), (.slice none 0 0), (.int .u64 0), (.int .i64 0)] fun H21 =>
 ∃ n22, ∃ a23 i24, ∃ n25, ∃ n26, H21.cellsAt i1 0 4 = some [(.int .i64 n22), (.slice a23 i24 0), (.int .u64 n25), (.int .i64 n26)] ∧
 R (.agg #[(.int .i64 n22), (.slice a23 i24 0), (.int .u64 n25), (.int .i64 n26)]) H21)
 else (
 AS.asAddr (.pointer x0) fun i27 i28 =>
 ∃ a29, ((H2.bump 16).bump 21).cell i27 i28 = some (.pointer a29) ∧
 AS.asAddr (.pointer a29) fun i30 i31 =>
 ∃ a32, ((H2.bump 16).bump 21).cell i30 i31 = some (.pointer a32) ∧
 AS.asAddr (.pointer x0) fun i33 i34 =>
 ∃ a35, ((H2.bump 16).bump 21).cell i33 i34 = some (.pointer a35) ∧
 AS.asAddr (.pointer a35) fun i36 i37 =>
 ∃ n38, ((H2.bump 16).bump 21).cell i36 (i37 + 6) = some (.int .i64 n38) ∧
 CA en F.array_Run_at [(.pointer x0)] ((H2.bump 16).bump 21) fun v39 H40 =>
 ∃ n41, v39 = (.int .i64 n41) ∧
 AS.asAddr (.pointer x0) fun i42 i43 =>
 ∃ n44, H40.cell i42 (i43 + 6) = some (.int .u64 n44) ∧
 CA en F.smem_Mem_Store [(.pointer a32), (.int .i64 n38), (.int .i64 n41), (.int .u64 n44)] H40 fun v45 H46 =>
 ∃ b47, v45 = (.bool b47) ∧
 (
 stc H46 i1 0 [(.int .i64 0), (.slice none 0 0), (.int .u64 0), (.int .i64 0)] fun H58 =>
 ∃ n59, ∃ a60 i61, ∃ n62, ∃ n63, H58.cellsAt i1 0 4 = some [(.int .i64 n59), (.slice a60 i61 0), (.int .u64 n62), (.int .i64 n63)] ∧
 R (.agg #[(.int .i64 n59), (.slice a60 i61 0), (.int .u64 n62), (.int .i64 n63)]) H58) ∧
 ((∃ n49, ((H2.bump 16).bump 21).cell i42 (i43 + 6) = some (.int .u64 n49) ∧
 n44 = n49) ∧ (∃ n48, H40.cell i42 (i43 + 6) = some (.int .u64 n48) ∧
 n44 = n48) ∧ True) ∧
 ((∃ n51, ((H2.bump 16).bump 21).cell i36 (i37 + 6) = some (.int .i64 n51) ∧
 n38 = n51) ∧ (∃ n50, H40.cell i36 (i37 + 6) = some (.int .i64 n50) ∧
 n38 = n50) ∧ True) ∧
 ((∃ a53, ((H2.bump 16).bump 21).cell i33 i34 = some (.pointer a53) ∧
 a35 = a53) ∧ (∃ a52, H40.cell i33 i34 = some (.pointer a52) ∧
 a35 = a52) ∧ True) ∧
 ((∃ a55, ((H2.bump 16).bump 21).cell i30 i31 = some (.pointer a55) ∧
 a32 = a55) ∧ (∃ a54, H40.cell i30 i31 = some (.pointer a54) ∧
 a32 = a54) ∧ True) ∧
 ((∃ a57, ((H2.bump 16).bump 21).cell i27 i28 = some (.pointer a57) ∧
 a29 = a57) ∧ (∃ a56, H40.cell i27 i28 = some (.pointer a56) ∧
 a29 = a56) ∧ True) ∧
 True))) ∧
 True) →
    CA en F.array_Run_update [(.pointer x0)] H R := by
  intro h
  refine wpFn_ok (Z := []) (fn := Go.Proofs.Try.f72) ?_ ?_ ?_
  · kernel_rfl
  · kernel_rfl
  · apply turnInto h
    kernel_rfl


/-! array_Run_drop -/

theorem vc_array_Run_drop (x0 : Option Addr) (H : Heap) (R : Value → Heap → Prop) :
    (
 nwH H (.cells true 0 [(.int .i64 0), (.slice none 0 0), (.int .u64 0), (.int .i64 0)]) fun i1 H2 =>
 AS.asAddr (.pointer x0) fun i3 i4 =>
 ∃ n5, (H2.bump 15).cell i3 ((i4 + 1) + 1) = some (.int .u64 n5) ∧
 AS.asAddr (.pointer x0) fun i6 i7 =>
 ∃ a8, (H2.bump 15).cell i6 i7 = some (.pointer a8) ∧
 AS.asAddr (.pointer a8) fun i9 i10 =>
 ∃ n11, (H2.bump 15).cell i9 ((i10 + 1) + 1) = some (.int .i64 n11) ∧
 (
 bif (decide (n5 ≥ (IntKind.u64.wrap n11))) then (
 stc (H2.bump 15) i1 0 [(.int .i64 2), (.slice none 0 0), (.int .u64 0), (.int .i64 0)] fun H12 =>
 ∃ n13, ∃ a14 i15, ∃ n16, ∃ n17, H12.cellsAt i1 0 4 = some [(.int .i64 n13), (.slice a14 i15 0), (.int .u64 n16), (.int .i64 n17)] ∧
 R (.agg #[(.int .i64 n13), (.slice a14 i15 0), (.int .u64 n16), (.int .i64 n17)]) H12)
 else (
 AS.asAddr (.pointer x0) fun i18 i19 =>
 ∃ a20, ((H2.bump 15).bump 22).cell i18 i19 = some (.pointer a20) ∧
 AS.asAddr (.pointer a20) fun i21 i22 =>
 ∃ a23, ((H2.bump 15).bump 22).cell i21 i22 = some (.pointer a23) ∧
 AS.asAddr (.pointer x0) fun i24 i25 =>
 ∃ a26, ((H2.bump 15).bump 22).cell i24 i25 = some (.pointer a26) ∧
 AS.asAddr (.pointer a26) fun i27 i28 =>
 ∃ n29, ((H2.bump 15).bump 22).cell i27 (i28 + 6) = some (.int .i64 n29) ∧
 CA en F.array_Run_at [(.pointer x0)] ((H2.bump 15).bump 22) fun v30 H31 =>
 ∃ n32, v30 = (.int .i64 n32) ∧
 CA en F.smem_Mem_Swap [(.pointer a23), (.int .i64 n29), (.int .i64 n32), (.int .u64 18446744073709551615), (.int .u64 0)] H31 fun v33 H34 =>
 ∃ n35, ∃ b36, v33 = (.tuple #[(.int .u64 n35), (.bool b36)]) ∧
 (
 bif (n35 == 0) then (
 stc H34 i1 0 [(.int .i64 2), (.slice none 0 0), (.int .u64 0), (.int .i64 0)] fun H45 =>
 ∃ n46, ∃ a47 i48, ∃ n49, ∃ n50, H45.cellsAt i1 0 4 = some [(.int .i64 n46), (.slice a47 i48 0), (.int .u64 n49), (.int .i64 n50)] ∧
 R (.agg #[(.int .i64 n46), (.slice a47 i48 0), (.int .u64 n49), (.int .i64 n50)]) H45)
 else (
 stc H34 i1 0 [(.int .i64 0), (.slice none 0 0), (.int .u64 0), (.int .i64 0)] fun H51 =>
 ∃ n52, ∃ a53 i54, ∃ n55, ∃ n56, H51.cellsAt i1 0 4 = some [(.int .i64 n52), (.slice a53 i54 0), (.int .u64 n55), (.int .i64 n56)] ∧
 R (.agg #[(.int .i64 n52), (.slice a53 i54 0), (.int .u64 n55), (.int .i64 n56)]) H51)) ∧
 ((∃ n38, ((H2.bump 15).bump 22).cell i27 (i28 + 6) = some (.int .i64 n38) ∧
 n29 = n38) ∧ (∃ n37, H31.cell i27 (i28 + 6) = some (.int .i64 n37) ∧
 n29 = n37) ∧ True) ∧
 ((∃ a40, ((H2.bump 15).bump 22).cell i24 i25 = some (.pointer a40) ∧
 a26 = a40) ∧ (∃ a39, H31.cell i24 i25 = some (.pointer a39) ∧
 a26 = a39) ∧ True) ∧
 ((∃ a42, ((H2.bump 15).bump 22).cell i21 i22 = some (.pointer a42) ∧
 a23 = a42) ∧ (∃ a41, H31.cell i21 i22 = some (.pointer a41) ∧
 a23 = a41) ∧ True) ∧
 ((∃ a44, ((H2.bump 15).bump 22).cell i18 i19 = some (.pointer a44) ∧
 a20 = a44) ∧ (∃ a43, H31.cell i18 i19 = some (.pointer a43) ∧
 a20 = a43) ∧ True) ∧
 True)) ∧
 True) →
    CA en F.array_Run_drop [(.pointer x0)] H R := by
  intro h
  refine wpFn_ok (Z := []) (fn := Go.Proofs.Try.f73) ?_ ?_ ?_
  · kernel_rfl
  · kernel_rfl
  · apply turnInto h
    kernel_rfl


/-! array_Run_next -/

theorem vc_array_Run_next (x0 : Option Addr) (H : Heap) (R : Value → Heap → Prop) :
    (
 nwH H (.cells true 0 [(.int .i64 0), (.slice none 0 0), (.int .u64 0), (.int .i64 0)]) fun i1 H2 =>
 AS.asAddr (.pointer x0) fun i3 i4 =>
 ∃ a5, H2.cell i3 i4 = some (.pointer a5) ∧
 AS.asAddr (.pointer a5) fun i6 i7 =>
 ∃ n8, H2.cell i6 ((i7 + 1) + 1) = some (.int .i64 n8) ∧
 AS.asAddr (.pointer x0) fun i9 i10 =>
 ∃ n11, H2.cell i9 ((i10 + 1) + 3) = some (.int .i64 n11) ∧
 bif (n11 == 1) then (
 stc H2 i1 0 [(.int .i64 0), (.slice none 0 0), (.int .u64 0), (.int .i64 0)] fun H12 =>
 ∃ n13, ∃ a14 i15, ∃ n16, ∃ n17, H12.cellsAt i1 0 4 = some [(.int .i64 n13), (.slice a14 i15 0), (.int .u64 n16), (.int .i64 n17)] ∧
 R (.agg #[(.int .i64 n13), (.slice a14 i15 0), (.int .u64 n16), (.int .i64 n17)]) H12)
 else (
 AS.asAddr (.pointer x0) fun i18 i19 =>
 ∃ n20, H2.cell i18 ((i19 + 1) + 1) = some (.int .u64 n20) ∧
 bif (decide (n20 > (IntKind.u64.wrap ((IntKind.u64.wrap n8) - 1)))) then (
 stc H2 i1 0 [(.int .i64 0), (.slice none 0 0), (.int .u64 0), (.int .i64 0)] fun H21 =>
 ∃ n22, ∃ a23 i24, ∃ n25, ∃ n26, H21.cellsAt i1 0 4 = some [(.int .i64 n22), (.slice a23 i24 0), (.int .u64 n25), (.int .i64 n26)] ∧
 R (.agg #[(.int .i64 n22), (.slice a23 i24 0), (.int .u64 n25), (.int .i64 n26)]) H21)
 else (
 AS.asAddr (.pointer x0) fun i27 i28 =>
 ∃ n29, H2.cell i27 ((i28 + 1) + 1) = some (.int .u64 n29) ∧
 bif (n29 == (IntKind.u64.wrap ((IntKind.u64.wrap n8) - 1))) then (
 stc H2 i1 0 [(.int .i64 2), (.slice none 0 0), (.int .u64 0), (.int .i64 0)] fun H30 =>
 ∃ n31, ∃ a32 i33, ∃ n34, ∃ n35, H30.cellsAt i1 0 4 = some [(.int .i64 n31), (.slice a32 i33 0), (.int .u64 n34), (.int .i64 n35)] ∧
 R (.agg #[(.int .i64 n31), (.slice a32 i33 0), (.int .u64 n34), (.int .i64 n35)]) H30)
 else (
 AS.asAddr (.pointer x0) fun i36 i37 =>
 ∃ n38, H2.cell i36 ((i37 + 1) + 1) = some (.int .u64 n38) ∧
 stc H2 i1 0 [(.int .i64 0), (.slice none 0 0), (.int .u64 (IntKind.u64.wrap (n38 + 1))), (.int .i64 0)] fun H39 =>
 ∃ n40, ∃ a41 i42, ∃ n43, ∃ n44, H39.cellsAt i1 0 4 = some [(.int .i64 n40), (.slice a41 i42 0), (.int .u64 n43), (.int .i64 n44)] ∧
 R (.agg #[(.int .i64 n40), (.slice a41 i42 0), (.int .u64 n43), (.int .i64 n44)]) H39)))) →
    CA en F.array_Run_next [(.pointer x0)] H R := by
  intro h
  refine wpFn_ok (Z := []) (fn := Go.Proofs.Try.f74) ?_ ?_ ?_
  · kernel_rfl
  · kernel_rfl
  · apply turnInto h
    kernel_rfl


/-! array_Run_at -/

theorem vc_array_Run_at (x0 : Option Addr) (H : Heap) (R : Value → Heap → Prop) :
    (
 AS.asAddr (.pointer x0) fun i1 i2 =>
 ∃ a3, H.cell i1 i2 = some (.pointer a3) ∧
 AS.asAddr (.pointer a3) fun i4 i5 =>
 ∃ n6, H.cell i4 (i5 + 1) = some (.int .i64 n6) ∧
 bif (n6 == 2) then (
 AS.asAddr (.pointer x0) fun i7 i8 =>
 ∃ n9, (H.bump 22).cell i7 ((i8 + 1) + 4) = some (.int .i64 n9) ∧
 AS.asAddr (.pointer x0) fun i10 i11 =>
 ∃ a12, (H.bump 22).cell i10 i11 = some (.pointer a12) ∧
 AS.asAddr (.pointer a12) fun i13 i14 =>
 ∃ n15, (H.bump 22).cell i13 ((i14 + 1) + 1) = some (.int .i64 n15) ∧
 AS.asAddr (.pointer x0) fun i16 i17 =>
 ∃ n18, (H.bump 22).cell i16 ((i17 + 1) + 1) = some (.int .u64 n18) ∧
 (
 R (.int .i64 (IntKind.i64.wrap ((IntKind.i64.wrap (n9 * n15)) + (IntKind.i64.wrap n18)))) (H.bump 22)) ∧
 True)
 else (
 AS.asAddr (.pointer x0) fun i19 i20 =>
 ∃ n21, H.cell i19 ((i20 + 1) + 1) = some (.int .u64 n21) ∧
 R (.int .i64 (IntKind.i64.wrap n21)) H)) →
    CA en F.array_Run_at [(.pointer x0)] H R := by
  intro h
  refine wpFn_ok (Z := []) (fn := Go.Proofs.Try.f85) ?_ ?_ ?_
  · kernel_rfl
  · kernel_rfl
  · apply turnInto h
    kernel_rfl


/-! crossbarlaw13_is -/

theorem vc_crossbarlaw13_is (x0 : Option Addr) (x1_0 : Int) (x1_1 : Int) (x1_2 : Option Addr) (x1_2l : Nat) (x1_3 : Int) (x1_4 : Int) (x2 : Int) (x3 : Int) (x4 : Int) (H : Heap) (R : Value → Heap → Prop) :
    (
 nwH H (.cells true 0 [(.int .i64 x1_0), (.int .u64 x1_1), (.slice x1_2 x1_2l 0), (.int .i64 x1_3), (.int .i64 x1_4)]) fun i1 H2 =>
 ∃ n3, ∃ n4, ∃ a5 i6, ∃ n7, ∃ n8, H2.cellsAt i1 0 5 = some [(.int .i64 n3), (.int .u64 n4), (.slice a5 i6 0), (.int .i64 n7), (.int .i64 n8)] ∧
 CA en F.array_Map_Begin [(.pointer x0), (.agg #[(.int .i64 n3), (.int .u64 n4), (.slice a5 i6 0), (.int .i64 n7), (.int .i64 n8)])] H2 fun v9 H10 =>
 ∃ a11, v9 = (.pointer a11) ∧
 CA en F.crossbarlaw13_Finish [(.pointer a11), (.int .i64 3)] H10 fun v12 H13 =>
 ∃ n14, ∃ a15 i16, ∃ n17, ∃ n18, ∃ b19, v12 = (.tuple #[(.agg #[(.int .i64 n14), (.slice a15 i16 0), (.int .u64 n17), (.int .i64 n18)]), (.bool b19)]) ∧
 nwH H13 (.cells true 0 [(.int .i64 0), (.slice none 0 0), (.int .u64 0), (.int .i64 0)]) fun i20 H21 =>
 stc H21 i20 0 [(.int .i64 n14), (.slice a15 i16 0), (.int .u64 n17), (.int .i64 n18)] fun H22 =>
 bif (!b19) then (
 R (.bool false) H22)
 else (
 ∃ n23, H22.cell i20 0 = some (.int .i64 n23) ∧
 bif (n23 != x2) then (
 R (.bool false) H22)
 else (
 ∃ n24, H22.cell i20 3 = some (.int .i64 n24) ∧
 bif (n24 != x4) then (
 R (.bool false) H22)
 else (
 ∃ n25, H22.cell i1 0 = some (.int .i64 n25) ∧
 bif (n25 == 1) then (
 bif (x2 == 0) then (
 ∃ a26 i27, H22.cell i20 1 = some (.slice a26 i27 0) ∧
 nwH H22 (.cells true 1 [(.int .u64 x3)]) fun i28 H29 =>
 CA en F.crossbarkit_SameWords [(.slice a26 i27 0), (.slice (some ⟨i28, 0, none⟩) 1 0)] H29 fun v30 H31 =>
 ∃ b32, v30 = (.bool b32) ∧
 R (.bool b32) H31)
 else (
 ∃ a33 i34, H22.cell i20 1 = some (.slice a33 i34 0) ∧
 bif (((i34 : Nat) : Int) == 0) then (
 ∃ n35, H22.cell i20 2 = some (.int .u64 n35) ∧
 R (.bool (n35 == x3)) H22)
 else (
 R (.bool false) H22)))
 else (
 ∃ a36 i37, H22.cell i20 1 = some (.slice a36 i37 0) ∧
 bif (((i37 : Nat) : Int) == 0) then (
 ∃ n38, H22.cell i20 2 = some (.int .u64 n38) ∧
 R (.bool (n38 == x3)) H22)
 else (
 R (.bool false) H22)))))) →
    CA en F.crossbarlaw13_is [(.pointer x0), (.agg #[(.int .i64 x1_0), (.int .u64 x1_1), (.slice x1_2 x1_2l 0), (.int .i64 x1_3), (.int .i64 x1_4)]), (.int .i64 x2), (.int .u64 x3), (.int .i64 x4)] H R := by
  intro h
  refine wpFn_ok (Z := []) (fn := Go.Proofs.Try.f27) ?_ ?_ ?_
  · kernel_rfl
  · kernel_rfl
  · apply turnInto h
    kernel_rfl


/-! crossbarlaw13_update -/

theorem vc_crossbarlaw13_update (x0 : Int) (x1 : Int) (x2 : Int) (H : Heap) (R : Value → Heap → Prop) :
    (
 nwH H (.cells true 0 [(.int .i64 0), (.int .u64 0), (.slice none 0 0), (.int .i64 0), (.int .i64 0)]) fun i1 H2 =>
 nwH H2 (.cells true 1 [(.int .u64 x1)]) fun i3 H4 =>
 stc H4 i1 0 [(.int .i64 2), (.int .u64 x0), (.slice (some ⟨i3, 0, none⟩) 1 0), (.int .i64 x2), (.int .i64 0)] fun H5 =>
 ∃ n6, ∃ n7, ∃ a8 i9, ∃ n10, ∃ n11, H5.cellsAt i1 0 5 = some [(.int .i64 n6), (.int .u64 n7), (.slice a8 i9 0), (.int .i64 n10), (.int .i64 n11)] ∧
 R (.agg #[(.int .i64 n6), (.int .u64 n7), (.slice a8 i9 0), (.int .i64 n10), (.int .i64 n11)]) H5) →
    CA en F.crossbarlaw13_update [(.int .u64 x0), (.int .u64 x1), (.int .i64 x2)] H R := by
  intro h
  refine wpFn_ok (Z := []) (fn := Go.Proofs.Try.f30) ?_ ?_ ?_
  · kernel_rfl
  · kernel_rfl
  · apply turnInto h
    kernel_rfl


/-! crossbarlaw13_Finish -/
noncomputable def L_crossbarlaw13_Finish_0 : Code := loopAt Go.Proofs.Try.f43 0

theorem vc_crossbarlaw13_Finish (x0 : Option Addr) (x1 : Int) (H : Heap) (R : Value → Heap → Prop) :
    (
 nwH H (.cells true 0 [(.int .i64 0), (.slice none 0 0), (.int .u64 0), (.int .i64 0)]) fun i1 H2 =>
 bif x0.isNone then (
 stc H2 i1 0 [(.int .i64 0), (.slice none 0 0), (.int .u64 0), (.int .i64 0)] fun H3 =>
 ∃ n4, ∃ a5 i6, ∃ n7, ∃ n8, H3.cellsAt i1 0 4 = some [(.int .i64 n4), (.slice a5 i6 0), (.int .u64 n7), (.int .i64 n8)] ∧
 R (.tuple #[(.agg #[(.int .i64 n4), (.slice a5 i6 0), (.int .u64 n7), (.int .i64 n8)]), (.bool false)]) H3)
 else (
 LA en L_crossbarlaw13_Finish_0 [(.pointer x0), (.int .i64 x1), undef, undef, (.pointer (some ⟨i1, 0, none⟩)), (.bool false), (.int .i64 0), (.int .i64 0), undef, undef, (.pointer x0), (.bool false), undef, undef, undef, undef, undef, undef, undef, undef, undef, undef, undef, undef, undef, undef, undef, undef, undef, undef, undef, undef] H2 [(X.exit 0, fun (x9 : Fr) (H10 : Heap) =>
 AS.asBool (x9.getD 5 undef) fun b11 =>
 stc H10 i1 0 [(.int .i64 0), (.slice none 0 0), (.int .u64 0), (.int .i64 0)] fun H12 =>
 ∃ n13, ∃ a14 i15, ∃ n16, ∃ n17, H12.cellsAt i1 0 4 = some [(.int .i64 n13), (.slice a14 i15 0), (.int .u64 n16), (.int .i64 n17)] ∧
 R (.tuple #[(.agg #[(.int .i64 n13), (.slice a14 i15 0), (.int .u64 n16), (.int .i64 n17)]), (.bool false)]) H12),
 (X.ret, fun (x18 : Fr) (H19 : Heap) =>
 AS.asBool (x18.getD 5 undef) fun b20 =>
 ∃ n21, ∃ a22 i23, ∃ n24, ∃ n25, H19.cellsAt i1 0 4 = some [(.int .i64 n21), (.slice a22 i23 0), (.int .u64 n24), (.int .i64 n25)] ∧
 R (.tuple #[(.agg #[(.int .i64 n21), (.slice a22 i23 0), (.int .u64 n24), (.int .i64 n25)]), (.bool b20)]) H19)])) →
    CA en F.crossbarlaw13_Finish [(.pointer x0), (.int .i64 x1)] H R := by
  intro h
  refine wpFn_ok (Z := [[(5, (.bool false))]]) (fn := Go.Proofs.Try.f43) ?_ ?_ ?_
  · kernel_rfl
  · kernel_rfl
  · apply turnInto h
    kernel_rfl

theorem use_crossbarlaw13_Finish_0 {t0 : Option Addr} {t1 : Int} {t4 : Nat} {t10 : Option Addr} {K0 : Fr → Heap → Prop} {K1 : Fr → Heap → Prop} {t5 : Bool} {t6 : Int} {t7 : Int} {t8 : Value} {t9 : Value} {t13 : Value} {t14 : Value} {t15 : Value} {t16 : Value} {t17 : Value} {t18 : Value} {t19 : Value} {t20 : Value} {t21 : Value} {t22 : Value} {t23 : Value} {t24 : Value} {t25 : Value} {t26 : Value} {t27 : Value} {t28 : Value} {t29 : Value} {t30 : Value} {H : Heap} (I : Nat → Bool → Int → Int → Heap → Prop) (n : Nat) (h0 : I n t5 t6 t7 H)
    (hstep : ∀ (n : Nat) (t5 : Bool) (t6 : Int) (t7 : Int) (ys : Fr) (H : Heap), I n t5 t6 t7 H →
    (
 bif (decide (t7 < t1)) then (
 CA en F.array_Run_Step [(.pointer t0)] H fun v1 H2 =>
 ∃ b3, ∃ b4, v1 = (.tuple #[(.bool b3), (.bool b4)]) ∧
 bif b3 then (
 bif b4 then (
 CA en F.array_Run_Result [(.pointer t0)] H2 fun v5 H6 =>
 ∃ n7, ∃ a8 i9, ∃ n10, ∃ n11, v5 = (.agg #[(.int .i64 n7), (.slice a8 i9 0), (.int .u64 n10), (.int .i64 n11)]) ∧
 stc H6 t4 0 [(.int .i64 n7), (.slice a8 i9 0), (.int .u64 n10), (.int .i64 n11)] fun H12 =>
 K1 [(.pointer t0), (.int .i64 t1), undef, undef, (.pointer (some ⟨t4, 0, none⟩)), (.bool ((IntKind.i64.wrap (t6 + 1)) == 1)), (.int .i64 (IntKind.i64.wrap (t6 + 1))), (.int .i64 t7), (.bool b3), (.bool b4), (.pointer t10), (.bool false), undef, (.int .i64 t7), (.int .i64 t1), (.bool true), (ys.getD 16 undef), (ys.getD 17 undef), (.tuple #[(.bool b3), (.bool b4)]), (.pointer t0), (.tuple #[(.bool b3), (.bool b4)]), (.bool b3), (.bool b4), (.bool true), (.int .i64 t6), (.int .i64 (IntKind.i64.wrap (t6 + 1))), (.bool true), (.pointer t0), (.agg #[(.int .i64 n7), (.slice a8 i9 0), (.int .u64 n10), (.int .i64 n11)]), (.int .i64 (IntKind.i64.wrap (t6 + 1))), (.bool ((IntKind.i64.wrap (t6 + 1)) == 1)), undef] H12)
 else (
 ∃ k13, k13 < n ∧
 I k13 t5 (IntKind.i64.wrap (t6 + 1)) (IntKind.i64.wrap (t7 + 1)) H2))
 else (
 bif b4 then (
 CA en F.array_Run_Result [(.pointer t0)] H2 fun v14 H15 =>
 ∃ n16, ∃ a17 i18, ∃ n19, ∃ n20, v14 = (.agg #[(.int .i64 n16), (.slice a17 i18 0), (.int .u64 n19), (.int .i64 n20)]) ∧
 stc H15 t4 0 [(.int .i64 n16), (.slice a17 i18 0), (.int .u64 n19), (.int .i64 n20)] fun H21 =>
 K1 [(.pointer t0), (.int .i64 t1), undef, undef, (.pointer (some ⟨t4, 0, none⟩)), (.bool (t6 == 1)), (.int .i64 t6), (.int .i64 t7), (.bool b3), (.bool b4), (.pointer t10), (.bool false), undef, (.int .i64 t7), (.int .i64 t1), (.bool true), (ys.getD 16 undef), (ys.getD 17 undef), (.tuple #[(.bool b3), (.bool b4)]), (.pointer t0), (.tuple #[(.bool b3), (.bool b4)]), (.bool b3), (.bool b4), (.bool false), (ys.getD 24 undef), (ys.getD 25 undef), (.bool true), (.pointer t0), (.agg #[(.int .i64 n16), (.slice a17 i18 0), (.int .u64 n19), (.int .i64 n20)]), (.int .i64 t6), (.bool (t6 == 1)), undef] H21)
 else (
 ∃ k22, k22 < n ∧
 I k22 t5 t6 (IntKind.i64.wrap (t7 + 1)) H2)))
 else (
 K0 [(.pointer t0), (.int .i64 t1), undef, undef, (.pointer (some ⟨t4, 0, none⟩)), (.bool t5), (.int .i64 t6), (.int .i64 t7), (ys.getD 8 undef), (ys.getD 9 undef), (.pointer t10), (.bool false), undef, (.int .i64 t7), (.int .i64 t1), (.bool false), (ys.getD 16 undef), (ys.getD 17 undef), (ys.getD 18 undef), (ys.getD 19 undef), (ys.getD 20 undef), (ys.getD 21 undef), (ys.getD 22 undef), (ys.getD 23 undef), (ys.getD 24 undef), (ys.getD 25 undef), (ys.getD 26 undef), (ys.getD 27 undef), (ys.getD 28 undef), (ys.getD 29 undef), (ys.getD 30 undef), undef] H))) :
    LA en L_crossbarlaw13_Finish_0 [(.pointer t0), (.int .i64 t1), undef, undef, (.pointer (some ⟨t4, 0, none⟩)), (.bool t5), (.int .i64 t6), (.int .i64 t7), t8, t9, (.pointer t10), (.bool false), undef, t13, t14, t15, t16, t17, t18, t19, t20, t21, t22, t23, t24, t25, t26, t27, t28, t29, t30, undef] H [(X.exit 0, K0), (X.ret, K1)] := by
  refine LA_rule (Z := []) (fun m xs H' => AS.asBool (xs.getD 5 undef) fun t5 => AS.asInt .i64 (xs.getD 6 undef) fun t6 => AS.asInt .i64 (xs.getD 7 undef) fun t7 => I m t5 t6 t7 H') ?_ n H ?_
  · intro n H
    suffices hs : ∀ s13 : Value, ∀ s14 : Value, ∀ s15 : Value, ∀ s19 : Value, ∀ s20 : Value, ∀ s18 : Value, ∀ s21 : Value, ∀ s22 : Value, ∀ s8 : Value, ∀ s9 : Value, ∀ s23 : Value, ∀ s24 : Value, ∀ s25 : Value, ∀ s6 : Value, ∀ s26 : Value, ∀ s27 : Value, ∀ s28 : Value, ∀ s29 : Value, ∀ s30 : Value, ∀ s5 : Value, ∀ s16 : Value, ∀ s17 : Value, ∀ s7 : Value, ((AS.asBool s5 fun t5 => AS.asInt .i64 s6 fun t6 => AS.asInt .i64 s7 fun t7 => I n t5 t6 t7 H) → wpCode en L_crossbarlaw13_Finish_0 [] [(.pointer t0), (.int .i64 t1), undef, undef, (.pointer (some ⟨t4, 0, none⟩)), s5, s6, s7, s8, s9, (.pointer t10), (.bool false), undef, s13, s14, s15, s16, s17, s18, s19, s20, s21, s22, s23, s24, s25, s26, s27, s28, s29, s30, undef] H (loopQ (fun m xs H' => AS.asBool (xs.getD 5 undef) fun t5 => AS.asInt .i64 (xs.getD 6 undef) fun t6 => AS.asInt .i64 (xs.getD 7 undef) fun t7 => I m t5 t6 t7 H') n [(X.exit 0, K0), (X.ret, K1)])) by
      apply turnInto hs
      kernel_rfl
    intro s13 s14 s15 s19 s20 s18 s21 s22 s8 s9 s23 s24 s25 s6 s26 s27 s28 s29 s30 s5 s16 s17 s7 hP
    replace hP := asBool_elim hP
    obtain ⟨t5, rfl, hP⟩ := hP
    replace hP := asInt_elim hP
    obtain ⟨t6, rfl, hP⟩ := hP
    replace hP := asInt_elim hP
    obtain ⟨t7, rfl, hP⟩ := hP
    apply turnInto (hstep n t5 t6 t7 [(.pointer t0), (.int .i64 t1), undef, undef, (.pointer (some ⟨t4, 0, none⟩)), (.bool t5), (.int .i64 t6), (.int .i64 t7), s8, s9, (.pointer t10), (.bool false), undef, s13, s14, s15, s16, s17, s18, s19, s20, s21, s22, s23, s24, s25, s26, s27, s28, s29, s30, undef] H hP)
    kernel_rfl
  · apply turnInto h0
    kernel_rfl


/-! crossbarlaw13_ArrayCells -/
noncomputable def L_crossbarlaw13_ArrayCells_0 : Code := loopAt Go.Proofs.Try.f6 0

theorem vc_crossbarlaw13_ArrayCells (x0 : Bool) (x1 : Int) (x2 : Int) (x3 : Int) (x4 : Int) (H : Heap) (R : Value → Heap → Prop) :
    (
 CA en F.smem_New [(.int .i64 1024)] H fun v1 H2 =>
 ∃ a3, v1 = (.pointer a3) ∧
 bif a3.isNone then (
 R (.bool false) H2)
 else (
 CA en F.crossbarkit_Pick [(.int .i64 x1), (.int .i64 64)] H2 fun v4 H5 =>
 ∃ n6, v4 = (.int .i64 n6) ∧
 nwH H5 (.cells true 0 [(.int .i64 0), (.int .i64 0), (.int .i64 0), (.int .i64 0), (.int .i64 0)]) fun i7 H8 =>
 stc H8 i7 0 [(.int .i64 1), (.int .i64 (IntKind.i64.wrap (1 + n6))), (.int .i64 1), (.int .i64 0), (.int .i64 0)] fun H9 =>
 ∃ n10, H9.cell i7 1 = some (.int .i64 n10) ∧
 CA en F.crossbarkit_Pick [(.int .i64 x2), (.int .i64 4)] H9 fun v11 H12 =>
 ∃ n13, v11 = (.int .i64 n13) ∧
 bif x0 then (
 stc H12 i7 0 [(.int .i64 2)] fun H14 =>
 ∃ n15, ∃ n16, ∃ n17, ∃ n18, ∃ n19, H14.cellsAt i7 0 5 = some [(.int .i64 n15), (.int .i64 n16), (.int .i64 n17), (.int .i64 n18), (.int .i64 n19)] ∧
 CA en F.array_New [(.pointer a3), (.agg #[(.int .i64 n15), (.int .i64 n16), (.int .i64 n17), (.int .i64 n18), (.int .i64 n19)]), (.int .i64 (IntKind.i64.wrap (1 + n13)))] H14 fun v20 H21 =>
 ∃ a22, ∃ n23, v20 = (.tuple #[(.pointer a22), (.int .i64 n23)]) ∧
 bif (n23 != 0) then (
 R (.bool false) H21)
 else (
 bif a22.isNone then (
 R (.bool false) H21)
 else (
 CA en F.crossbarkit_Pick [(.int .i64 x3), (.int .i64 (IntKind.i64.wrap (n10 * (IntKind.i64.wrap (1 + n13)))))] H21 fun v24 H25 =>
 ∃ n26, v24 = (.int .i64 n26) ∧
 CA en F.array_Map_Cell [(.pointer a22), (.int .i64 (IntKind.i64.wrap (1 + n26)))] H25 fun v27 H28 =>
 ∃ n29, ∃ n30, v27 = (.tuple #[(.int .i64 n29), (.int .i64 n30)]) ∧
 CA en F.smem_Mem_Store [(.pointer a3), (.int .i64 n29), (.int .i64 n30), (.int .u64 x4)] H28 fun v31 H32 =>
 ∃ b33, v31 = (.bool b33) ∧
 bif (!b33) then (
 R (.bool false) H32)
 else (
 LA en L_crossbarlaw13_ArrayCells_0 [(.bool x0), (.int .i64 x1), (.int .i64 (IntKind.i64.wrap (1 + n13))), (.int .i64 (IntKind.i64.wrap (1 + n26))), (.int .u64 x4), undef, undef, undef, undef, undef, (.bool false), (.pointer a3), (.pointer (some ⟨i7, 0, none⟩)), (.int .i64 (IntKind.i64.wrap (n10 * (IntKind.i64.wrap (1 + n13))))), (.pointer a22), (.int .i64 n23), (.int .i64 n29), (.int .i64 n30), (.int .i64 1), undef, undef, undef, undef, (.pointer a3), (.pointer a3), (.bool false), (.int .i64 x1), (.int .i64 n6), (.int .i64 (IntKind.i64.wrap (1 + n6))), (.agg #[(.int .i64 1), (.int .i64 (IntKind.i64.wrap (1 + n6))), (.int .i64 1), (.int .i64 0), (.int .i64 0)]), (.pointer (some ⟨i7, 1, none⟩)), (.int .i64 n10), (.int .i64 x2), (.int .i64 n13), (.int .i64 (IntKind.i64.wrap (1 + n13))), (.bool true), (.pointer (some ⟨i7, 0, none⟩)), (.int .i64 n10), (.int .i64 (IntKind.i64.wrap (1 + n13))), (.int .i64 (IntKind.i64.wrap (n10 * (IntKind.i64.wrap (1 + n13))))), (.tuple #[(.pointer a22), (.int .i64 n23)]), (.pointer a3), (.agg #[(.int .i64 n15), (.int .i64 n16), (.int .i64 n17), (.int .i64 n18), (.int .i64 n19)]), (.int .i64 (IntKind.i64.wrap (1 + n13))), (.tuple #[(.pointer a22), (.int .i64 n23)]), (.pointer a22), (.int .i64 n23), (.int .i64 n23), (.bool (n23 != 0)), (.bool false), (.pointer a22), (.bool a22.isNone), (.bool false), (.int .i64 x3), (.int .i64 (IntKind.i64.wrap (n10 * (IntKind.i64.wrap (1 + n13))))), (.int .i64 n26), (.int .i64 (IntKind.i64.wrap (1 + n26))), (.tuple #[(.int .i64 n29), (.int .i64 n30)]), (.pointer a22), (.int .i64 (IntKind.i64.wrap (1 + n26))), (.tuple #[(.int .i64 n29), (.int .i64 n30)]), (.int .i64 n29), (.int .i64 n30), (.pointer a3), (.int .i64 n29), (.int .i64 n30), (.int .u64 x4), (.bool b33), (.bool false), undef, undef, undef, undef, undef, undef, undef, undef, undef, undef, undef, undef, undef, undef, undef, undef, undef, undef, undef, undef, undef, undef, undef, undef, undef, undef, undef, undef, undef, undef, undef, undef, undef, undef, undef, undef, undef, undef, undef, undef, undef, undef, undef, undef, undef, undef, undef, undef, undef, undef, undef, undef, undef, undef, undef, undef] H32 [(X.exit 0, fun (x34 : Fr) (H35 : Heap) =>
 AS.asBool (x34.getD 10 undef) fun b36 =>
 CA en F.array_Map_Cell [(.pointer a22), (.int .i64 (IntKind.i64.wrap ((IntKind.i64.wrap (n10 * (IntKind.i64.wrap (1 + n13)))) + 1)))] H35 fun v37 H38 =>
 ∃ n39, ∃ n40, v37 = (.tuple #[(.int .i64 n39), (.int .i64 n40)]) ∧
 CA en F.array_Map_Cell [(.pointer a22), (.int .i64 0)] H38 fun v41 H42 =>
 ∃ n43, ∃ n44, v41 = (.tuple #[(.int .i64 n43), (.int .i64 n44)]) ∧
 bif (n39 == 0) then (
 bif (n40 == 0) then (
 bif (n43 == 0) then (
 bif (n44 == 0) then (
 CA en F.crossbarlaw13_works [] H42 fun v45 H46 =>
 ∃ b47, v45 = (.bool b47) ∧
 R (.bool b47) H46)
 else (
 R (.bool false) H42))
 else (
 R (.bool false) H42))
 else (
 R (.bool false) H42))
 else (
 R (.bool false) H42)),
 (X.ret, fun (x48 : Fr) (H49 : Heap) =>
 AS.asBool (x48.getD 10 undef) fun b50 =>
 R (.bool b50) H49)]))))
 else (
 ∃ n51, ∃ n52, ∃ n53, ∃ n54, ∃ n55, H12.cellsAt i7 0 5 = some [(.int .i64 n51), (.int .i64 n52), (.int .i64 n53), (.int .i64 n54), (.int .i64 n55)] ∧
 CA en F.array_New [(.pointer a3), (.agg #[(.int .i64 n51), (.int .i64 n52), (.int .i64 n53), (.int .i64 n54), (.int .i64 n55)]), (.int .i64 (IntKind.i64.wrap (1 + n13)))] H12 fun v56 H57 =>
 ∃ a58, ∃ n59, v56 = (.tuple #[(.pointer a58), (.int .i64 n59)]) ∧
 bif (n59 != 0) then (
 R (.bool false) H57)
 else (
 bif a58.isNone then (
 R (.bool false) H57)
 else (
 CA en F.crossbarkit_Pick [(.int .i64 x3), (.int .i64 n10)] H57 fun v60 H61 =>
 ∃ n62, v60 = (.int .i64 n62) ∧
 CA en F.array_Map_Cell [(.pointer a58), (.int .i64 (IntKind.i64.wrap (1 + n62)))] H61 fun v63 H64 =>
 ∃ n65, ∃ n66, v63 = (.tuple #[(.int .i64 n65), (.int .i64 n66)]) ∧
 CA en F.smem_Mem_Store [(.pointer a3), (.int .i64 n65), (.int .i64 n66), (.int .u64 x4)] H64 fun v67 H68 =>
 ∃ b69, v67 = (.bool b69) ∧
 bif (!b69) then (
 R (.bool false) H68)
 else (
 LA en L_crossbarlaw13_ArrayCells_0 [(.bool x0), (.int .i64 x1), (.int .i64 (IntKind.i64.wrap (1 + n13))), (.int .i64 (IntKind.i64.wrap (1 + n62))), (.int .u64 x4), undef, undef, undef, undef, undef, (.bool false), (.pointer a3), (.pointer (some ⟨i7, 0, none⟩)), (.int .i64 n10), (.pointer a58), (.int .i64 n59), (.int .i64 n65), (.int .i64 n66), (.int .i64 1), undef, undef, undef, undef, (.pointer a3), (.pointer a3), (.bool false), (.int .i64 x1), (.int .i64 n6), (.int .i64 (IntKind.i64.wrap (1 + n6))), (.agg #[(.int .i64 1), (.int .i64 (IntKind.i64.wrap (1 + n6))), (.int .i64 1), (.int .i64 0), (.int .i64 0)]), (.pointer (some ⟨i7, 1, none⟩)), (.int .i64 n10), (.int .i64 x2), (.int .i64 n13), (.int .i64 (IntKind.i64.wrap (1 + n13))), (.bool false), undef, undef, undef, undef, (.tuple #[(.pointer a58), (.int .i64 n59)]), (.pointer a3), (.agg #[(.int .i64 n51), (.int .i64 n52), (.int .i64 n53), (.int .i64 n54), (.int .i64 n55)]), (.int .i64 (IntKind.i64.wrap (1 + n13))), (.tuple #[(.pointer a58), (.int .i64 n59)]), (.pointer a58), (.int .i64 n59), (.int .i64 n59), (.bool (n59 != 0)), (.bool false), (.pointer a58), (.bool a58.isNone), (.bool false), (.int .i64 x3), (.int .i64 n10), (.int .i64 n62), (.int .i64 (IntKind.i64.wrap (1 + n62))), (.tuple #[(.int .i64 n65), (.int .i64 n66)]), (.pointer a58), (.int .i64 (IntKind.i64.wrap (1 + n62))), (.tuple #[(.int .i64 n65), (.int .i64 n66)]), (.int .i64 n65), (.int .i64 n66), (.pointer a3), (.int .i64 n65), (.int .i64 n66), (.int .u64 x4), (.bool b69), (.bool false), undef, undef, undef, undef, undef, undef, undef, undef, undef, undef, undef, undef, undef, undef, undef, undef, undef, undef, undef, undef, undef, undef, undef, undef, undef, undef, undef, undef, undef, undef, undef, undef, undef, undef, undef, undef, undef, undef, undef, undef, undef, undef, undef, undef, undef, undef, undef, undef, undef, undef, undef, undef, undef, undef, undef, undef] H68 [(X.exit 0, fun (x70 : Fr) (H71 : Heap) =>
 AS.asBool (x70.getD 10 undef) fun b72 =>
 CA en F.array_Map_Cell [(.pointer a58), (.int .i64 (IntKind.i64.wrap (n10 + 1)))] H71 fun v73 H74 =>
 ∃ n75, ∃ n76, v73 = (.tuple #[(.int .i64 n75), (.int .i64 n76)]) ∧
 CA en F.array_Map_Cell [(.pointer a58), (.int .i64 0)] H74 fun v77 H78 =>
 ∃ n79, ∃ n80, v77 = (.tuple #[(.int .i64 n79), (.int .i64 n80)]) ∧
 bif (n75 == 0) then (
 bif (n76 == 0) then (
 bif (n79 == 0) then (
 bif (n80 == 0) then (
 CA en F.crossbarlaw13_works [] H78 fun v81 H82 =>
 ∃ b83, v81 = (.bool b83) ∧
 R (.bool b83) H82)
 else (
 R (.bool false) H78))
 else (
 R (.bool false) H78))
 else (
 R (.bool false) H78))
 else (
 R (.bool false) H78)),
 (X.ret, fun (x84 : Fr) (H85 : Heap) =>
 AS.asBool (x84.getD 10 undef) fun b86 =>
 R (.bool b86) H85)])))))) →
    CA en F.crossbarlaw13_ArrayCells [(.bool x0), (.int .i64 x1), (.int .i64 x2), (.int .i64 x3), (.int .u64 x4)] H R := by
  intro h
  refine wpFn_ok (Z := [[(10, (.bool false))]]) (fn := Go.Proofs.Try.f6) ?_ ?_ ?_
  · kernel_rfl
  · kernel_rfl
  · apply turnInto h
    kernel_rfl

theorem use_crossbarlaw13_ArrayCells_0 {t0 : Bool} {t1 : Int} {t2 : Int} {t3 : Int} {t4 : Int} {t11 : Option Addr} {t12 : Nat} {t13 : Int} {t14 : Option Addr} {t15 : Int} {t16 : Int} {t17 : Int} {t23 : Option Addr} {t24 : Option Addr} {t26 : Int} {t27 : Int} {t28 : Int} {t29_1 : Int} {t30 : Nat} {t31 : Int} {t32 : Int} {t33 : Int} {t34 : Int} {t35 : Value} {t36 : Value} {t37 : Value} {t38 : Value} {t39 : Value} {t40_0 : Option Addr} {t40_1 : Int} {t41 : Option Addr} {t42_0 : Int} {t42_1 : Int} {t42_2 : Int} {t42_3 : Int} {t42_4 : Int} {t43 : Int} {t44_0 : Option Addr} {t44_1 : Int} {t45 : Option Addr} {t46 : Int} {t47 : Int} {t48 : Bool} {t50 : Option Addr} {t51 : Bool} {t53 : Int} {t54 : Int} {t55 : Int} {t56 : Int} {t57_0 : Int} {t57_1 : Int} {t58 : Option Addr} {t59 : Int} {t60_0 : Int} {t60_1 : Int} {t61 : Int} {t62 : Int} {t63 : Option Addr} {t64 : Int} {t65 : Int} {t66 : Int} {t67 : Bool} {K0 : Fr → Heap → Prop} {K1 : Fr → Heap → Prop} {t10 : Bool} {t18 : Int} {t19 : Value} {t20 : Value} {t69 : Value} {t70 : Value} {t71 : Value} {t72 : Value} {t73 : Value} {t74 : Value} {t75 : Value} {t76 : Value} {t77 : Value} {t78 : Value} {t79 : Value} {t80 : Value} {t81 : Value} {t82 : Value} {t83 : Value} {t84 : Value} {t85 : Value} {t86 : Value} {t87 : Value} {t88 : Value} {t89 : Value} {t90 : Value} {t91 : Value} {t92 : Value} {t93 : Value} {t94 : Value} {t95 : Value} {H : Heap} (I : Nat → Bool → Int → Heap → Prop) (n : Nat) (h0 : I n t10 t18 H)
    (hstep : ∀ (n : Nat) (t10 : Bool) (t18 : Int) (ys : Fr) (H : Heap), I n t10 t18 H →
    (
 bif (decide (t18 ≤ t13)) then (
 ∃ n1, ((H.bump 14).set (H.next + 12) (.cells true 0 [(.int .i64 0), (.int .u64 0), (.slice none 0 0), (.int .i64 0), (.int .i64 0)])).cell t12 1 = some (.int .i64 n1) ∧
 nz n1 ∧
 ∃ n2, ((H.bump 14).set (H.next + 12) (.cells true 0 [(.int .i64 0), (.int .u64 0), (.slice none 0 0), (.int .i64 0), (.int .i64 0)])).cell t12 1 = some (.int .i64 n2) ∧
 nz n2 ∧
 stc ((H.bump 14).set (H.next + 12) (.cells true 0 [(.int .i64 0), (.int .u64 0), (.slice none 0 0), (.int .i64 0), (.int .i64 0)])) (H.next + 12) 0 [(.int .i64 1), (.int .u64 (IntKind.u64.wrap (Int.tmod (IntKind.i64.wrap (t18 - 1)) n1))), (.slice none 0 0), (.int .i64 0), (.int .i64 (IntKind.i64.wrap (Int.tdiv (IntKind.i64.wrap (t18 - 1)) n2)))] fun H3 =>
 (
 bif (t18 == t3) then (
 ∃ n5, ∃ n6, ∃ a7 i8, ∃ n9, ∃ n10, H3.cellsAt (H.next + 12) 0 5 = some [(.int .i64 n5), (.int .u64 n6), (.slice a7 i8 0), (.int .i64 n9), (.int .i64 n10)] ∧
 CA en F.crossbarlaw13_is [(.pointer t14), (.agg #[(.int .i64 n5), (.int .u64 n6), (.slice a7 i8 0), (.int .i64 n9), (.int .i64 n10)]), (.int .i64 0), (.int .u64 t4), (.int .i64 t18)] H3 fun v11 H12 =>
 ∃ b13, v11 = (.bool b13) ∧
 bif (!b13) then (
 K1 [(.bool t0), (.int .i64 t1), (.int .i64 t2), (.int .i64 t3), (.int .u64 t4), undef, undef, undef, undef, undef, (.bool false), (.pointer t11), (.pointer (some ⟨t12, 0, none⟩)), (.int .i64 t13), (.pointer t14), (.int .i64 t15), (.int .i64 t16), (.int .i64 t17), (.int .i64 t18), (.pointer (some ⟨(H.next + 12), 0, none⟩)), (.int .u64 t4), undef, undef, (.pointer t23), (.pointer t24), (.bool false), (.int .i64 t26), (.int .i64 t27), (.int .i64 t28), (.agg #[(.int .i64 1), (.int .i64 t29_1), (.int .i64 1), (.int .i64 0), (.int .i64 0)]), (.pointer (some ⟨t30, 1, none⟩)), (.int .i64 t31), (.int .i64 t32), (.int .i64 t33), (.int .i64 t34), t35, t36, t37, t38, t39, (.tuple #[(.pointer t40_0), (.int .i64 t40_1)]), (.pointer t41), (.agg #[(.int .i64 t42_0), (.int .i64 t42_1), (.int .i64 t42_2), (.int .i64 t42_3), (.int .i64 t42_4)]), (.int .i64 t43), (.tuple #[(.pointer t44_0), (.int .i64 t44_1)]), (.pointer t45), (.int .i64 t46), (.int .i64 t47), (.bool t48), (.bool false), (.pointer t50), (.bool t51), (.bool false), (.int .i64 t53), (.int .i64 t54), (.int .i64 t55), (.int .i64 t56), (.tuple #[(.int .i64 t57_0), (.int .i64 t57_1)]), (.pointer t58), (.int .i64 t59), (.tuple #[(.int .i64 t60_0), (.int .i64 t60_1)]), (.int .i64 t61), (.int .i64 t62), (.pointer t63), (.int .i64 t64), (.int .i64 t65), (.int .u64 t66), (.bool t67), (.bool false), (.int .i64 t18), (.int .i64 t13), (.bool true), (ys.getD 72 undef), (ys.getD 73 undef), (.int .i64 t18), (.int .i64 (IntKind.i64.wrap (t18 - 1))), (.pointer (some ⟨t12, 1, none⟩)), (.int .i64 n1), (.int .i64 (Int.tmod (IntKind.i64.wrap (t18 - 1)) n1)), (.int .u64 (IntKind.u64.wrap (Int.tmod (IntKind.i64.wrap (t18 - 1)) n1))), (.int .i64 t18), (.int .i64 (IntKind.i64.wrap (t18 - 1))), (.pointer (some ⟨t12, 1, none⟩)), (.int .i64 n2), (.int .i64 (IntKind.i64.wrap (Int.tdiv (IntKind.i64.wrap (t18 - 1)) n2))), (.agg #[(.int .i64 1), (.int .u64 (IntKind.u64.wrap (Int.tmod (IntKind.i64.wrap (t18 - 1)) n1))), (.slice none 0 0), (.int .i64 0), (.int .i64 (IntKind.i64.wrap (Int.tdiv (IntKind.i64.wrap (t18 - 1)) n2)))]), (.int .i64 t18), (.int .i64 t3), (.bool true), (.int .u64 t4), (.pointer t14), (.agg #[(.int .i64 n5), (.int .u64 n6), (.slice a7 i8 0), (.int .i64 n9), (.int .i64 n10)]), (.int .u64 t4), (.int .i64 t18), (.bool b13), (.bool true), undef, undef, undef, undef, undef, undef, undef, undef, undef, undef, undef, undef, undef, undef, undef, undef, undef, undef, undef, undef, undef, undef, undef, undef, undef, undef, undef, undef, undef] H12)
 else (
 ∃ k14, k14 < n ∧
 I k14 t10 (IntKind.i64.wrap (t18 + 1)) H12))
 else (
 ∃ n15, ∃ n16, ∃ a17 i18, ∃ n19, ∃ n20, H3.cellsAt (H.next + 12) 0 5 = some [(.int .i64 n15), (.int .u64 n16), (.slice a17 i18 0), (.int .i64 n19), (.int .i64 n20)] ∧
 CA en F.crossbarlaw13_is [(.pointer t14), (.agg #[(.int .i64 n15), (.int .u64 n16), (.slice a17 i18 0), (.int .i64 n19), (.int .i64 n20)]), (.int .i64 0), (.int .u64 0), (.int .i64 t18)] H3 fun v21 H22 =>
 ∃ b23, v21 = (.bool b23) ∧
 bif (!b23) then (
 K1 [(.bool t0), (.int .i64 t1), (.int .i64 t2), (.int .i64 t3), (.int .u64 t4), undef, undef, undef, undef, undef, (.bool false), (.pointer t11), (.pointer (some ⟨t12, 0, none⟩)), (.int .i64 t13), (.pointer t14), (.int .i64 t15), (.int .i64 t16), (.int .i64 t17), (.int .i64 t18), (.pointer (some ⟨(H.next + 12), 0, none⟩)), (.int .u64 0), undef, undef, (.pointer t23), (.pointer t24), (.bool false), (.int .i64 t26), (.int .i64 t27), (.int .i64 t28), (.agg #[(.int .i64 1), (.int .i64 t29_1), (.int .i64 1), (.int .i64 0), (.int .i64 0)]), (.pointer (some ⟨t30, 1, none⟩)), (.int .i64 t31), (.int .i64 t32), (.int .i64 t33), (.int .i64 t34), t35, t36, t37, t38, t39, (.tuple #[(.pointer t40_0), (.int .i64 t40_1)]), (.pointer t41), (.agg #[(.int .i64 t42_0), (.int .i64 t42_1), (.int .i64 t42_2), (.int .i64 t42_3), (.int .i64 t42_4)]), (.int .i64 t43), (.tuple #[(.pointer t44_0), (.int .i64 t44_1)]), (.pointer t45), (.int .i64 t46), (.int .i64 t47), (.bool t48), (.bool false), (.pointer t50), (.bool t51), (.bool false), (.int .i64 t53), (.int .i64 t54), (.int .i64 t55), (.int .i64 t56), (.tuple #[(.int .i64 t57_0), (.int .i64 t57_1)]), (.pointer t58), (.int .i64 t59), (.tuple #[(.int .i64 t60_0), (.int .i64 t60_1)]), (.int .i64 t61), (.int .i64 t62), (.pointer t63), (.int .i64 t64), (.int .i64 t65), (.int .u64 t66), (.bool t67), (.bool false), (.int .i64 t18), (.int .i64 t13), (.bool true), (ys.getD 72 undef), (ys.getD 73 undef), (.int .i64 t18), (.int .i64 (IntKind.i64.wrap (t18 - 1))), (.pointer (some ⟨t12, 1, none⟩)), (.int .i64 n1), (.int .i64 (Int.tmod (IntKind.i64.wrap (t18 - 1)) n1)), (.int .u64 (IntKind.u64.wrap (Int.tmod (IntKind.i64.wrap (t18 - 1)) n1))), (.int .i64 t18), (.int .i64 (IntKind.i64.wrap (t18 - 1))), (.pointer (some ⟨t12, 1, none⟩)), (.int .i64 n2), (.int .i64 (IntKind.i64.wrap (Int.tdiv (IntKind.i64.wrap (t18 - 1)) n2))), (.agg #[(.int .i64 1), (.int .u64 (IntKind.u64.wrap (Int.tmod (IntKind.i64.wrap (t18 - 1)) n1))), (.slice none 0 0), (.int .i64 0), (.int .i64 (IntKind.i64.wrap (Int.tdiv (IntKind.i64.wrap (t18 - 1)) n2)))]), (.int .i64 t18), (.int .i64 t3), (.bool false), (ys.getD 89 undef), (.pointer t14), (.agg #[(.int .i64 n15), (.int .u64 n16), (.slice a17 i18 0), (.int .i64 n19), (.int .i64 n20)]), (.int .u64 0), (.int .i64 t18), (.bool b23), (.bool true), undef, undef, undef, undef, undef, undef, undef, undef, undef, undef, undef, undef, undef, undef, undef, undef, undef, undef, undef, undef, undef, undef, undef, undef, undef, undef, undef, undef, undef] H22)
 else (
 ∃ k24, k24 < n ∧
 I k24 t10 (IntKind.i64.wrap (t18 + 1)) H22))) ∧
 ((∃ c4, ((H.bump 14).set (H.next + 12) (.cells true 0 [(.int .i64 0), (.int .u64 0), (.slice none 0 0), (.int .i64 0), (.int .i64 0)])).get (H.next + 12) = some (.cells true 0 c4) ∧ sameN.sameL 8 [(.int .i64 0), (.int .u64 0), (.slice none 0 0), (.int .i64 0), (.int .i64 0)] c4 = true) ∧ True) ∧
 True)
 else (
 K0 [(.bool t0), (.int .i64 t1), (.int .i64 t2), (.int .i64 t3), (.int .u64 t4), undef, undef, undef, undef, undef, (.bool t10), (.pointer t11), (.pointer (some ⟨t12, 0, none⟩)), (.int .i64 t13), (.pointer t14), (.int .i64 t15), (.int .i64 t16), (.int .i64 t17), (.int .i64 t18), (ys.getD 19 undef), (ys.getD 20 undef), undef, undef, (.pointer t23), (.pointer t24), (.bool false), (.int .i64 t26), (.int .i64 t27), (.int .i64 t28), (.agg #[(.int .i64 1), (.int .i64 t29_1), (.int .i64 1), (.int .i64 0), (.int .i64 0)]), (.pointer (some ⟨t30, 1, none⟩)), (.int .i64 t31), (.int .i64 t32), (.int .i64 t33), (.int .i64 t34), t35, t36, t37, t38, t39, (.tuple #[(.pointer t40_0), (.int .i64 t40_1)]), (.pointer t41), (.agg #[(.int .i64 t42_0), (.int .i64 t42_1), (.int .i64 t42_2), (.int .i64 t42_3), (.int .i64 t42_4)]), (.int .i64 t43), (.tuple #[(.pointer t44_0), (.int .i64 t44_1)]), (.pointer t45), (.int .i64 t46), (.int .i64 t47), (.bool t48), (.bool false), (.pointer t50), (.bool t51), (.bool false), (.int .i64 t53), (.int .i64 t54), (.int .i64 t55), (.int .i64 t56), (.tuple #[(.int .i64 t57_0), (.int .i64 t57_1)]), (.pointer t58), (.int .i64 t59), (.tuple #[(.int .i64 t60_0), (.int .i64 t60_1)]), (.int .i64 t61), (.int .i64 t62), (.pointer t63), (.int .i64 t64), (.int .i64 t65), (.int .u64 t66), (.bool t67), (.bool false), (.int .i64 t18), (.int .i64 t13), (.bool false), (ys.getD 72 undef), (ys.getD 73 undef), (ys.getD 74 undef), (ys.getD 75 undef), (ys.getD 76 undef), (ys.getD 77 undef), (ys.getD 78 undef), (ys.getD 79 undef), (ys.getD 80 undef), (ys.getD 81 undef), (ys.getD 82 undef), (ys.getD 83 undef), (ys.getD 84 undef), (ys.getD 85 undef), (ys.getD 86 undef), (ys.getD 87 undef), (ys.getD 88 undef), (ys.getD 89 undef), (ys.getD 90 undef), (ys.getD 91 undef), (ys.getD 92 undef), (ys.getD 93 undef), (ys.getD 94 undef), (ys.getD 95 undef), undef, undef, undef, undef, undef, undef, undef, undef, undef, undef, undef, undef, undef, undef, undef, undef, undef, undef, undef, undef, undef, undef, undef, undef, undef, undef, undef, undef, undef] H))) :
    LA en L_crossbarlaw13_ArrayCells_0 [(.bool t0), (.int .i64 t1), (.int .i64 t2), (.int .i64 t3), (.int .u64 t4), undef, undef, undef, undef, undef, (.bool t10), (.pointer t11), (.pointer (some ⟨t12, 0, none⟩)), (.int .i64 t13), (.pointer t14), (.int .i64 t15), (.int .i64 t16), (.int .i64 t17), (.int .i64 t18), t19, t20, undef, undef, (.pointer t23), (.pointer t24), (.bool false), (.int .i64 t26), (.int .i64 t27), (.int .i64 t28), (.agg #[(.int .i64 1), (.int .i64 t29_1), (.int .i64 1), (.int .i64 0), (.int .i64 0)]), (.pointer (some ⟨t30, 1, none⟩)), (.int .i64 t31), (.int .i64 t32), (.int .i64 t33), (.int .i64 t34), t35, t36, t37, t38, t39, (.tuple #[(.pointer t40_0), (.int .i64 t40_1)]), (.pointer t41), (.agg #[(.int .i64 t42_0), (.int .i64 t42_1), (.int .i64 t42_2), (.int .i64 t42_3), (.int .i64 t42_4)]), (.int .i64 t43), (.tuple #[(.pointer t44_0), (.int .i64 t44_1)]), (.pointer t45), (.int .i64 t46), (.int .i64 t47), (.bool t48), (.bool false), (.pointer t50), (.bool t51), (.bool false), (.int .i64 t53), (.int .i64 t54), (.int .i64 t55), (.int .i64 t56), (.tuple #[(.int .i64 t57_0), (.int .i64 t57_1)]), (.pointer t58), (.int .i64 t59), (.tuple #[(.int .i64 t60_0), (.int .i64 t60_1)]), (.int .i64 t61), (.int .i64 t62), (.pointer t63), (.int .i64 t64), (.int .i64 t65), (.int .u64 t66), (.bool t67), (.bool false), t69, t70, t71, t72, t73, t74, t75, t76, t77, t78, t79, t80, t81, t82, t83, t84, t85, t86, t87, t88, t89, t90, t91, t92, t93, t94, t95, undef, undef, undef, undef, undef, undef, undef, undef, undef, undef, undef, undef, undef, undef, undef, undef, undef, undef, undef, undef, undef, undef, undef, undef, undef, undef, undef, undef, undef] H [(X.exit 0, K0), (X.ret, K1)] := by
  refine LA_rule (Z := []) (fun m xs H' => AS.asBool (xs.getD 10 undef) fun t10 => AS.asInt .i64 (xs.getD 18 undef) fun t18 => I m t10 t18 H') ?_ n H ?_
  · intro n H
    suffices hs : ∀ s69 : Value, ∀ s70 : Value, ∀ s71 : Value, ∀ s74 : Value, ∀ s75 : Value, ∀ s76 : Value, ∀ s77 : Value, ∀ s78 : Value, ∀ s79 : Value, ∀ s80 : Value, ∀ s81 : Value, ∀ s82 : Value, ∀ s83 : Value, ∀ s84 : Value, ∀ s85 : Value, ∀ s19 : Value, ∀ s20 : Value, ∀ s86 : Value, ∀ s87 : Value, ∀ s88 : Value, ∀ s89 : Value, ∀ s90 : Value, ∀ s91 : Value, ∀ s92 : Value, ∀ s93 : Value, ∀ s94 : Value, ∀ s95 : Value, ∀ s10 : Value, ∀ s72 : Value, ∀ s73 : Value, ∀ s18 : Value, ((AS.asBool s10 fun t10 => AS.asInt .i64 s18 fun t18 => I n t10 t18 H) → wpCode en L_crossbarlaw13_ArrayCells_0 [] [(.bool t0), (.int .i64 t1), (.int .i64 t2), (.int .i64 t3), (.int .u64 t4), undef, undef, undef, undef, undef, s10, (.pointer t11), (.pointer (some ⟨t12, 0, none⟩)), (.int .i64 t13), (.pointer t14), (.int .i64 t15), (.int .i64 t16), (.int .i64 t17), s18, s19, s20, undef, undef, (.pointer t23), (.pointer t24), (.bool false), (.int .i64 t26), (.int .i64 t27), (.int .i64 t28), (.agg #[(.int .i64 1), (.int .i64 t29_1), (.int .i64 1), (.int .i64 0), (.int .i64 0)]), (.pointer (some ⟨t30, 1, none⟩)), (.int .i64 t31), (.int .i64 t32), (.int .i64 t33), (.int .i64 t34), t35, t36, t37, t38, t39, (.tuple #[(.pointer t40_0), (.int .i64 t40_1)]), (.pointer t41), (.agg #[(.int .i64 t42_0), (.int .i64 t42_1), (.int .i64 t42_2), (.int .i64 t42_3), (.int .i64 t42_4)]), (.int .i64 t43), (.tuple #[(.pointer t44_0), (.int .i64 t44_1)]), (.pointer t45), (.int .i64 t46), (.int .i64 t47), (.bool t48), (.bool false), (.pointer t50), (.bool t51), (.bool false), (.int .i64 t53), (.int .i64 t54), (.int .i64 t55), (.int .i64 t56), (.tuple #[(.int .i64 t57_0), (.int .i64 t57_1)]), (.pointer t58), (.int .i64 t59), (.tuple #[(.int .i64 t60_0), (.int .i64 t60_1)]), (.int .i64 t61), (.int .i64 t62), (.pointer t63), (.int .i64 t64), (.int .i64 t65), (.int .u64 t66), (.bool t67), (.bool false), s69, s70, s71, s72, s73, s74, s75, s76, s77, s78, s79, s80, s81, s82, s83, s84, s85, s86, s87, s88, s89, s90, s91, s92, s93, s94, s95, undef, undef, undef, undef, undef, undef, undef, undef, undef, undef, undef, undef, undef, undef, undef, undef, undef, undef, undef, undef, undef, undef, undef, undef, undef, undef, undef, undef, undef] H (loopQ (fun m xs H' => AS.asBool (xs.getD 10 undef) fun t10 => AS.asInt .i64 (xs.getD 18 undef) fun t18 => I m t10 t18 H') n [(X.exit 0, K0), (X.ret, K1)])) by
      apply turnInto hs
      kernel_rfl
    intro s69 s70 s71 s74 s75 s76 s77 s78 s79 s80 s81 s82 s83 s84 s85 s19 s20 s86 s87 s88 s89 s90 s91 s92 s93 s94 s95 s10 s72 s73 s18 hP
    replace hP := asBool_elim hP
    obtain ⟨t10, rfl, hP⟩ := hP
    replace hP := asInt_elim hP
    obtain ⟨t18, rfl, hP⟩ := hP
    apply turnInto (hstep n t10 t18 [(.bool t0), (.int .i64 t1), (.int .i64 t2), (.int .i64 t3), (.int .u64 t4), undef, undef, undef, undef, undef, (.bool t10), (.pointer t11), (.pointer (some ⟨t12, 0, none⟩)), (.int .i64 t13), (.pointer t14), (.int .i64 t15), (.int .i64 t16), (.int .i64 t17), (.int .i64 t18), s19, s20, undef, undef, (.pointer t23), (.pointer t24), (.bool false), (.int .i64 t26), (.int .i64 t27), (.int .i64 t28), (.agg #[(.int .i64 1), (.int .i64 t29_1), (.int .i64 1), (.int .i64 0), (.int .i64 0)]), (.pointer (some ⟨t30, 1, none⟩)), (.int .i64 t31), (.int .i64 t32), (.int .i64 t33), (.int .i64 t34), t35, t36, t37, t38, t39, (.tuple #[(.pointer t40_0), (.int .i64 t40_1)]), (.pointer t41), (.agg #[(.int .i64 t42_0), (.int .i64 t42_1), (.int .i64 t42_2), (.int .i64 t42_3), (.int .i64 t42_4)]), (.int .i64 t43), (.tuple #[(.pointer t44_0), (.int .i64 t44_1)]), (.pointer t45), (.int .i64 t46), (.int .i64 t47), (.bool t48), (.bool false), (.pointer t50), (.bool t51), (.bool false), (.int .i64 t53), (.int .i64 t54), (.int .i64 t55), (.int .i64 t56), (.tuple #[(.int .i64 t57_0), (.int .i64 t57_1)]), (.pointer t58), (.int .i64 t59), (.tuple #[(.int .i64 t60_0), (.int .i64 t60_1)]), (.int .i64 t61), (.int .i64 t62), (.pointer t63), (.int .i64 t64), (.int .i64 t65), (.int .u64 t66), (.bool t67), (.bool false), s69, s70, s71, s72, s73, s74, s75, s76, s77, s78, s79, s80, s81, s82, s83, s84, s85, s86, s87, s88, s89, s90, s91, s92, s93, s94, s95, undef, undef, undef, undef, undef, undef, undef, undef, undef, undef, undef, undef, undef, undef, undef, undef, undef, undef, undef, undef, undef, undef, undef, undef, undef, undef, undef, undef, undef] H hP)
    kernel_rfl
  · apply turnInto h0
    kernel_rfl

end Go.Proofs.Ythnifkjpkepbaaa
