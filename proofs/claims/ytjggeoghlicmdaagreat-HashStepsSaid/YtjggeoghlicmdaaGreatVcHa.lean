/-
  What functions of this seat's program need (printed by a program, checked by the kernel).
-/
import Derived.Test.YtjggeoghlicmdaaGreatNames
import Derived.Test.YtjggeoghlicmdaaGreatAs41
namespace Go.Proofs.YtjggeoghlicmdaaGreat
open Go Go.AS Go.RowKit
set_option linter.unusedVariables false
set_option maxRecDepth 100000
set_option maxHeartbeats 2000000

/-! hash_New -/

theorem vc_hash_New (x0 : Option Addr) (x1 : Option Addr) (x2_0 : Int) (x2_1 : Int) (x2_2 : Int) (x2_3 : Int) (x2_4 : Int) (H : Heap) (R : Value → Heap → Prop) :
    (
 nwH H (.cells true 0 [(.int .i64 x2_0), (.int .i64 x2_1), (.int .i64 x2_2), (.int .i64 x2_3), (.int .i64 x2_4)]) fun i1 H2 =>
 ∃ n3, ∃ n4, ∃ n5, ∃ n6, ∃ n7, H2.cellsAt i1 0 5 = some [(.int .i64 n3), (.int .i64 n4), (.int .i64 n5), (.int .i64 n6), (.int .i64 n7)] ∧
 nwH H2 (.cells true 0 [(.int .i64 0), (.int .i64 0), (.int .i64 0), (.int .i64 0), (.int .i64 0)]) fun i8 H9 =>
 stc H9 i8 0 [(.int .i64 n3), (.int .i64 n4), (.int .i64 n5), (.int .i64 n6), (.int .i64 n7)] fun H10 =>
 stc H10 i8 0 [(.int .i64 4)] fun H11 =>
 stc H11 i8 4 [(.int .i64 0)] fun H12 =>
 ∃ n13, H12.cell i1 0 = some (.int .i64 n13) ∧
 bif (n13 != 4) then (
 ∃ n14, H12.cell i1 0 = some (.int .i64 n14) ∧
 bif (n14 != 10) then (
 R (.tuple #[(.pointer none), (.int .i64 1)]) H12)
 else (
 ∃ n15, ∃ n16, ∃ n17, ∃ n18, ∃ n19, H12.cellsAt i8 0 5 = some [(.int .i64 n15), (.int .i64 n16), (.int .i64 n17), (.int .i64 n18), (.int .i64 n19)] ∧
 nwH H12 (.cells true 5 [(.int .i64 n15), (.int .i64 n16), (.int .i64 n17), (.int .i64 n18), (.int .i64 n19)]) fun i20 H21 =>
 CA en F.decl_Check [(.slice (some ⟨i20, 0, none⟩) 1 0)] H21 fun v22 H23 =>
 ∃ n24, v22 = (.int .i64 n24) ∧
 bif (n24 != 0) then (
 R (.tuple #[(.pointer none), (.int .i64 1)]) H23)
 else (
 ∃ n25, H23.cell i1 3 = some (.int .i64 n25) ∧
 CA en F.smem_Mem_Make [(.pointer x0), (.int .i64 (IntKind.i64.wrap (2 + (IntKind.i64.wrap (3 * n25)))))] H23 fun v26 H27 =>
 ∃ n28, ∃ n29, v26 = (.tuple #[(.int .i64 n28), (.int .i64 n29)]) ∧
 bif (n29 != 0) then (
 R (.tuple #[(.pointer none), (.int .i64 5)]) H27)
 else (
 ∃ n30, ∃ n31, ∃ n32, ∃ n33, ∃ n34, H27.cellsAt i1 0 5 = some [(.int .i64 n30), (.int .i64 n31), (.int .i64 n32), (.int .i64 n33), (.int .i64 n34)] ∧
 nwH H27 (.cells true 0 [(.pointer x0), (.pointer x1), (.int .i64 n30), (.int .i64 n31), (.int .i64 n32), (.int .i64 n33), (.int .i64 n34), (.int .i64 n28)]) fun i35 H36 =>
 R (.tuple #[(.pointer (some ⟨i35, 0, none⟩)), (.int .i64 0)]) H36))))
 else (
 ∃ n37, ∃ n38, ∃ n39, ∃ n40, ∃ n41, H12.cellsAt i8 0 5 = some [(.int .i64 n37), (.int .i64 n38), (.int .i64 n39), (.int .i64 n40), (.int .i64 n41)] ∧
 nwH H12 (.cells true 5 [(.int .i64 n37), (.int .i64 n38), (.int .i64 n39), (.int .i64 n40), (.int .i64 n41)]) fun i42 H43 =>
 CA en F.decl_Check [(.slice (some ⟨i42, 0, none⟩) 1 0)] H43 fun v44 H45 =>
 ∃ n46, v44 = (.int .i64 n46) ∧
 bif (n46 != 0) then (
 R (.tuple #[(.pointer none), (.int .i64 1)]) H45)
 else (
 ∃ n47, H45.cell i1 3 = some (.int .i64 n47) ∧
 CA en F.smem_Mem_Make [(.pointer x0), (.int .i64 (IntKind.i64.wrap (2 + (IntKind.i64.wrap (3 * n47)))))] H45 fun v48 H49 =>
 ∃ n50, ∃ n51, v48 = (.tuple #[(.int .i64 n50), (.int .i64 n51)]) ∧
 bif (n51 != 0) then (
 R (.tuple #[(.pointer none), (.int .i64 5)]) H49)
 else (
 ∃ n52, ∃ n53, ∃ n54, ∃ n55, ∃ n56, H49.cellsAt i1 0 5 = some [(.int .i64 n52), (.int .i64 n53), (.int .i64 n54), (.int .i64 n55), (.int .i64 n56)] ∧
 nwH H49 (.cells true 0 [(.pointer x0), (.pointer x1), (.int .i64 n52), (.int .i64 n53), (.int .i64 n54), (.int .i64 n55), (.int .i64 n56), (.int .i64 n50)]) fun i57 H58 =>
 R (.tuple #[(.pointer (some ⟨i57, 0, none⟩)), (.int .i64 0)]) H58)))) →
    CA en F.hash_New [(.pointer x0), (.pointer x1), (.agg #[(.int .i64 x2_0), (.int .i64 x2_1), (.int .i64 x2_2), (.int .i64 x2_3), (.int .i64 x2_4)])] H R := by
  intro h
  refine wpFn_ok (Z := []) (fn := Go.Proofs.Tryz.f68) ?_ ?_ ?_
  · kernel_rfl
  · kernel_rfl
  · apply turnInto h
    kernel_rfl


/-! hash_Map_Begin -/

theorem vc_hash_Map_Begin (x0 : Option Addr) (x1_0 : Int) (x1_1 : Int) (x1_2 : Option Addr) (x1_2l : Nat) (x1_3 : Int) (x1_4 : Int) (H : Heap) (R : Value → Heap → Prop) :
    (
 nwH H (.cells true 0 [(.int .i64 x1_0), (.int .u64 x1_1), (.slice x1_2 x1_2l 0), (.int .i64 x1_3), (.int .i64 x1_4)]) fun i1 H2 =>
 ∃ n3, ∃ n4, ∃ a5 i6, ∃ n7, ∃ n8, H2.cellsAt i1 0 5 = some [(.int .i64 n3), (.int .u64 n4), (.slice a5 i6 0), (.int .i64 n7), (.int .i64 n8)] ∧
 nwH H2 (.cells true 0 [(.pointer x0), (.int .i64 n3), (.int .u64 n4), (.slice a5 i6 0), (.int .i64 n7), (.int .i64 n8), (.int .u64 0), .nilFunc, (.bool false), (.bool false), (.int .i64 0), (.slice none 0 0), (.int .u64 0), (.int .i64 0), (.int .i64 0), (.int .i64 0), (.int .i64 0), (.int .i64 0), (.int .i64 0), (.int .u64 0), (.int .u64 0)]) fun i9 H10 =>
 nwH H10 (.cells true 0 [(.pointer none)]) fun i11 H12 =>
 stc H12 i11 0 [(.pointer (some ⟨i9, 0, none⟩))] fun H13 =>
 ∃ a14 i15, H13.cell i1 2 = some (.slice a14 i15 0) ∧
 bif (decide (((i15 : Nat) : Int) > 0)) then (
 ∃ a16, (H13.bump 8).cell i11 0 = some (.pointer a16) ∧
 ∃ a17 i18, (H13.bump 8).cell i1 2 = some (.slice a17 i18 0) ∧
 inB 0 i18 ∧
 asRow a17 fun i19 i20 =>
 ∃ n21, (H13.bump 8).cell i19 i20 = some (.int .u64 n21) ∧
 AS.asAddr (.pointer a16) fun i22 i23 =>
 stc (H13.bump 8) i22 (i23 + 6) [(.int .u64 n21)] fun H24 =>
 (
 ∃ a25, H24.cell i11 0 = some (.pointer a25) ∧
 AS.asAddr (.pointer a25) fun i26 i27 =>
 stc H24 i26 ((i27 + 1) + 2) [(.slice none 0 0)] fun H28 =>
 ∃ n29, H28.cell i1 0 = some (.int .i64 n29) ∧
 bif (n29 == 4) then (
 ∃ a30, H28.cell i11 0 = some (.pointer a30) ∧
 ∃ a31, H28.cell i11 0 = some (.pointer a31) ∧
 AS.asAddr (.pointer a30) fun i32 i33 =>
 stc H28 i32 (i33 + 7) [(.func (.func F.hash_Run_begin) #[(.pointer a31)] #[])] fun H34 =>
 ∃ a35, H34.cell i11 0 = some (.pointer a35) ∧
 R (.pointer a35) H34)
 else (
 ∃ a36, (H28.bump 11).cell i11 0 = some (.pointer a36) ∧
 ∃ n37, (H28.bump 11).cell i1 1 = some (.int .u64 n37) ∧
 AS.asAddr (.pointer x0) fun i38 i39 =>
 ∃ n40, (H28.bump 11).cell i38 ((i39 + 2) + 3) = some (.int .i64 n40) ∧
 CA en F.decl_Bucket [(.int .u64 n37), (.int .i64 n40)] (H28.bump 11) fun v41 H42 =>
 ∃ n43, v41 = (.int .i64 n43) ∧
 CA en F.hash_Run_enter [(.pointer a36), (.int .i64 n43), (.func (.func F.hash_Map_Begin_1) #[] #[(.pointer (some ⟨i11, 0, none⟩)), (.pointer (some ⟨i1, 0, none⟩))])] H42 fun v44 H45 =>
 v44 = undef ∧
 (
 ∃ a48, H45.cell i11 0 = some (.pointer a48) ∧
 R (.pointer a48) H45) ∧
 ((∃ a47, (H28.bump 11).cell i11 0 = some (.pointer a47) ∧
 a36 = a47) ∧ (∃ a46, H42.cell i11 0 = some (.pointer a46) ∧
 a36 = a46) ∧ True) ∧
 True)) ∧
 True)
 else (
 ∃ a49, H13.cell i11 0 = some (.pointer a49) ∧
 AS.asAddr (.pointer a49) fun i50 i51 =>
 stc H13 i50 ((i51 + 1) + 2) [(.slice none 0 0)] fun H52 =>
 ∃ n53, H52.cell i1 0 = some (.int .i64 n53) ∧
 bif (n53 == 4) then (
 ∃ a54, H52.cell i11 0 = some (.pointer a54) ∧
 ∃ a55, H52.cell i11 0 = some (.pointer a55) ∧
 AS.asAddr (.pointer a54) fun i56 i57 =>
 stc H52 i56 (i57 + 7) [(.func (.func F.hash_Run_begin) #[(.pointer a55)] #[])] fun H58 =>
 ∃ a59, H58.cell i11 0 = some (.pointer a59) ∧
 R (.pointer a59) H58)
 else (
 ∃ a60, (H52.bump 11).cell i11 0 = some (.pointer a60) ∧
 ∃ n61, (H52.bump 11).cell i1 1 = some (.int .u64 n61) ∧
 AS.asAddr (.pointer x0) fun i62 i63 =>
 ∃ n64, (H52.bump 11).cell i62 ((i63 + 2) + 3) = some (.int .i64 n64) ∧
 CA en F.decl_Bucket [(.int .u64 n61), (.int .i64 n64)] (H52.bump 11) fun v65 H66 =>
 ∃ n67, v65 = (.int .i64 n67) ∧
 CA en F.hash_Run_enter [(.pointer a60), (.int .i64 n67), (.func (.func F.hash_Map_Begin_1) #[] #[(.pointer (some ⟨i11, 0, none⟩)), (.pointer (some ⟨i1, 0, none⟩))])] H66 fun v68 H69 =>
 v68 = undef ∧
 (
 ∃ a72, H69.cell i11 0 = some (.pointer a72) ∧
 R (.pointer a72) H69) ∧
 ((∃ a71, (H52.bump 11).cell i11 0 = some (.pointer a71) ∧
 a60 = a71) ∧ (∃ a70, H66.cell i11 0 = some (.pointer a70) ∧
 a60 = a70) ∧ True) ∧
 True))) →
    CA en F.hash_Map_Begin [(.pointer x0), (.agg #[(.int .i64 x1_0), (.int .u64 x1_1), (.slice x1_2 x1_2l 0), (.int .i64 x1_3), (.int .i64 x1_4)])] H R := by
  intro h
  refine wpFn_ok (Z := []) (fn := Go.Proofs.Tryz.f28) ?_ ?_ ?_
  · kernel_rfl
  · kernel_rfl
  · apply turnInto h
    kernel_rfl


/-! hash_Map_Room -/

theorem vc_hash_Map_Room (x0 : Option Addr) (x1 : Int) (H : Heap) (R : Value → Heap → Prop) :
    (
 nwH H (.cells true 0 [(.pointer x0), (.int .i64 0), (.int .u64 0), (.slice none 0 0), (.int .i64 0), (.int .i64 0), (.int .u64 0), .nilFunc, (.bool false), (.bool false), (.int .i64 0), (.slice none 0 0), (.int .u64 0), (.int .i64 0), (.int .i64 0), (.int .i64 0), (.int .i64 0), (.int .i64 0), (.int .i64 0), (.int .u64 0), (.int .u64 0)]) fun i1 H2 =>
 nwH H2 (.cells true 0 [(.pointer (some ⟨i1, 0, none⟩)), (.slice none 0 0), (.slice none 0 0)]) fun i3 H4 =>
 nwH H4 (.cells true 0 [(.pointer none)]) fun i5 H6 =>
 stc H6 i5 0 [(.pointer (some ⟨i3, 0, none⟩))] fun H7 =>
 ∃ a8, H7.cell i5 0 = some (.pointer a8) ∧
 AS.asAddr (.pointer a8) fun i9 i10 =>
 ∃ a11, H7.cell i9 i10 = some (.pointer a11) ∧
 CA en F.hash_Run_enter [(.pointer a11), (.int .i64 x1), (.func (.func F.hash_Map_Room_1) #[] #[(.pointer (some ⟨i5, 0, none⟩))])] H7 fun v12 H13 =>
 v12 = undef ∧
 ∃ a14, H13.cell i5 0 = some (.pointer a14) ∧
 R (.pointer a14) H13) →
    CA en F.hash_Map_Room [(.pointer x0), (.int .i64 x1)] H R := by
  intro h
  refine wpFn_ok (Z := []) (fn := Go.Proofs.Tryz.f35) ?_ ?_ ?_
  · kernel_rfl
  · kernel_rfl
  · apply turnInto h
    kernel_rfl


/-! hash_Map_Cell -/

theorem vc_hash_Map_Cell (x0 : Option Addr) (x1 : Int) (H : Heap) (R : Value → Heap → Prop) :
    (
 AS.asAddr (.pointer x0) fun i1 i2 =>
 ∃ n3, H.cell i1 (i2 + 2) = some (.int .i64 n3) ∧
 bif (n3 == 10) then (
 R (.tuple #[(.int .i64 0), (.int .i64 0)]) H)
 else (
 bif (decide (x1 < 1)) then (
 R (.tuple #[(.int .i64 0), (.int .i64 0)]) H)
 else (
 R (.tuple #[(.int .i64 x1), (.int .i64 2)]) H))) →
    CA en F.hash_Map_Cell [(.pointer x0), (.int .i64 x1)] H R := by
  intro h
  refine wpFn_ok (Z := []) (fn := Go.Proofs.Tryz.f40) ?_ ?_ ?_
  · kernel_rfl
  · kernel_rfl
  · apply turnInto h
    kernel_rfl


/-! hash_Map_Begin_1 -/

theorem vc_hash_Map_Begin_1 (c0 : Option Addr) (c1 : Option Addr) (H : Heap) (R : Value → Heap → Prop) :
    (
 AS.asAddr (.pointer c0) fun i1 i2 =>
 ∃ a3, H.cell i1 i2 = some (.pointer a3) ∧
 AS.asAddr (.pointer c1) fun i4 i5 =>
 ∃ n6, H.cell i4 (i5 + 1) = some (.int .u64 n6) ∧
 CA en F.hash_Run_seek [(.pointer a3), (.int .u64 n6), (.bool false), (.func (.func F.hash_Map_Begin_1_1) #[] #[(.pointer c0), (.pointer c1)])] H fun v7 H8 =>
 v7 = undef ∧
 AS.asAddr (.pointer c0) fun i9 i10 =>
 ∃ a11, H8.cell i9 i10 = some (.pointer a11) ∧
 AS.asAddr (.pointer a11) fun i12 i13 =>
 ∃ v14, H8.cell i12 (i13 + 7) = some v14 ∧
 AS.asFn v14 fun f15 l16 l17 =>
 (∃ fn, en.fn f15 = some fn) ∧
 CA en f15 (l16 ++ [] ++ l17) H8 fun v18 H19 =>
 v18 = undef ∧
 R undef H19) →
    CA en F.hash_Map_Begin_1 [(.pointer c0), (.pointer c1)] H R := by
  intro h
  refine wpFn_ok (Z := []) (fn := Go.Proofs.Tryz.f72) ?_ ?_ ?_
  · kernel_rfl
  · kernel_rfl
  · apply turnInto h
    kernel_rfl


/-! hash_Map_Begin_1_1 -/

theorem vc_hash_Map_Begin_1_1 (x0 : Bool) (c0 : Option Addr) (c1 : Option Addr) (H : Heap) (R : Value → Heap → Prop) :
    (
 AS.asAddr (.pointer c0) fun i1 i2 =>
 ∃ a3, (H.bump 12).cell i1 i2 = some (.pointer a3) ∧
 bif x0 then (
 AS.asAddr (.pointer c0) fun i4 i5 =>
 ∃ a6, (H.bump 12).cell i4 i5 = some (.pointer a6) ∧
 AS.asAddr (.pointer a6) fun i7 i8 =>
 ∃ n9, (H.bump 12).cell i7 (i8 + 19) = some (.int .u64 n9) ∧
 AS.asAddr (.pointer c1) fun i10 i11 =>
 ∃ n12, (H.bump 12).cell i10 (i11 + 1) = some (.int .u64 n12) ∧
 CA en F.hash_Run_found [(.pointer a3), (.bool (n9 == n12))] (H.bump 12) fun v13 H14 =>
 v13 = undef ∧
 (
 R undef H14) ∧
 True)
 else (
 CA en F.hash_Run_found [(.pointer a3), (.bool false)] (H.bump 12) fun v15 H16 =>
 v15 = undef ∧
 (
 R undef H16) ∧
 True)) →
    CA en F.hash_Map_Begin_1_1 [(.bool x0), (.pointer c0), (.pointer c1)] H R := by
  intro h
  refine wpFn_ok (Z := []) (fn := Go.Proofs.Tryz.f74) ?_ ?_ ?_
  · kernel_rfl
  · kernel_rfl
  · apply turnInto h
    kernel_rfl


/-! hash_Map_Room_1 -/

theorem vc_hash_Map_Room_1 (c0 : Option Addr) (H : Heap) (R : Value → Heap → Prop) :
    (
 AS.asAddr (.pointer c0) fun i1 i2 =>
 ∃ a3, H.cell i1 i2 = some (.pointer a3) ∧
 CA en F.hash_Visit_collect [(.pointer a3)] H fun v4 H5 =>
 v4 = undef ∧
 AS.asAddr (.pointer c0) fun i6 i7 =>
 ∃ a8, H5.cell i6 i7 = some (.pointer a8) ∧
 AS.asAddr (.pointer a8) fun i9 i10 =>
 ∃ a11, H5.cell i9 i10 = some (.pointer a11) ∧
 AS.asAddr (.pointer a11) fun i12 i13 =>
 ∃ v14, H5.cell i12 (i13 + 7) = some v14 ∧
 AS.asFn v14 fun f15 l16 l17 =>
 (∃ fn, en.fn f15 = some fn) ∧
 CA en f15 (l16 ++ [] ++ l17) H5 fun v18 H19 =>
 v18 = undef ∧
 R undef H19) →
    CA en F.hash_Map_Room_1 [(.pointer c0)] H R := by
  intro h
  refine wpFn_ok (Z := []) (fn := Go.Proofs.Tryz.f77) ?_ ?_ ?_
  · kernel_rfl
  · kernel_rfl
  · apply turnInto h
    kernel_rfl


/-! hash_Map_found -/

theorem vc_hash_Map_found (x0 : Option Addr) (x1 : Int) (x2 : Int) (H : Heap) (R : Value → Heap → Prop) :
    (
 nwH H (.cells true 0 [(.int .i64 0), (.slice none 0 0), (.int .u64 0), (.int .i64 0)]) fun i1 H2 =>
 AS.asAddr (.pointer x0) fun i3 i4 =>
 ∃ n5, H2.cell i3 (i4 + 2) = some (.int .i64 n5) ∧
 bif (n5 == 10) then (
 nwH H2 (.cells true 1 [(.int .u64 x1)]) fun i6 H7 =>
 stc H7 i1 0 [(.int .i64 0), (.slice (some ⟨i6, 0, none⟩) 1 0), (.int .u64 0), (.int .i64 (IntKind.i64.wrap x1))] fun H8 =>
 ∃ n9, ∃ a10 i11, ∃ n12, ∃ n13, H8.cellsAt i1 0 4 = some [(.int .i64 n9), (.slice a10 i11 0), (.int .u64 n12), (.int .i64 n13)] ∧
 R (.agg #[(.int .i64 n9), (.slice a10 i11 0), (.int .u64 n12), (.int .i64 n13)]) H8)
 else (
 nwH H2 (.cells true 1 [(.int .u64 x1)]) fun i14 H15 =>
 stc H15 i1 0 [(.int .i64 0), (.slice (some ⟨i14, 0, none⟩) 1 0), (.int .u64 0), (.int .i64 x2)] fun H16 =>
 ∃ n17, ∃ a18 i19, ∃ n20, ∃ n21, H16.cellsAt i1 0 4 = some [(.int .i64 n17), (.slice a18 i19 0), (.int .u64 n20), (.int .i64 n21)] ∧
 R (.agg #[(.int .i64 n17), (.slice a18 i19 0), (.int .u64 n20), (.int .i64 n21)]) H16)) →
    CA en F.hash_Map_found [(.pointer x0), (.int .u64 x1), (.int .i64 x2)] H R := by
  intro h
  refine wpFn_ok (Z := []) (fn := Go.Proofs.Tryz.f82) ?_ ?_ ?_
  · kernel_rfl
  · kernel_rfl
  · apply turnInto h
    kernel_rfl


/-! hash_Map_lockAt -/

theorem vc_hash_Map_lockAt (x0 : Option Addr) (x1 : Int) (H : Heap) (R : Value → Heap → Prop) :
    (
 R (.int .i64 (IntKind.i64.wrap (2 + (IntKind.i64.wrap (3 * x1))))) H) →
    CA en F.hash_Map_lockAt [(.pointer x0), (.int .i64 x1)] H R := by
  intro h
  refine wpFn_ok (Z := []) (fn := Go.Proofs.Tryz.f121) ?_ ?_ ?_
  · kernel_rfl
  · kernel_rfl
  · apply turnInto h
    kernel_rfl


/-! hash_Map_headAt -/

theorem vc_hash_Map_headAt (x0 : Option Addr) (x1 : Int) (H : Heap) (R : Value → Heap → Prop) :
    (
 nwH H (.cells true 0 [(.int .i64 0), (.int .i64 0)]) fun i1 H2 =>
 AS.asAddr (.pointer x0) fun i3 i4 =>
 ∃ n5, H2.cell i3 (i4 + 7) = some (.int .i64 n5) ∧
 stc H2 i1 0 [(.int .i64 n5), (.int .i64 (IntKind.i64.wrap ((IntKind.i64.wrap (2 + (IntKind.i64.wrap (3 * x1)))) + 2)))] fun H6 =>
 ∃ n7, ∃ n8, H6.cellsAt i1 0 2 = some [(.int .i64 n7), (.int .i64 n8)] ∧
 R (.agg #[(.int .i64 n7), (.int .i64 n8)]) H6) →
    CA en F.hash_Map_headAt [(.pointer x0), (.int .i64 x1)] H R := by
  intro h
  refine wpFn_ok (Z := []) (fn := Go.Proofs.Tryz.f124) ?_ ?_ ?_
  · kernel_rfl
  · kernel_rfl
  · apply turnInto h
    kernel_rfl


/-! hash_Run_Step -/

theorem vc_hash_Run_Step (x0 : Option Addr) (H : Heap) (R : Value → Heap → Prop) :
    (
 AS.asAddr (.pointer x0) fun i1 i2 =>
 ∃ b3, H.cell i1 (i2 + 9) = some (.bool b3) ∧
 bif b3 then (
 R (.tuple #[(.bool false), (.bool true)]) H)
 else (
 AS.asAddr (.pointer x0) fun i4 i5 =>
 stc H i4 (i5 + 8) [(.bool false)] fun H6 =>
 AS.asAddr (.pointer x0) fun i7 i8 =>
 ∃ v9, H6.cell i7 (i8 + 7) = some v9 ∧
 AS.asFn v9 fun f10 l11 l12 =>
 (∃ fn, en.fn f10 = some fn) ∧
 CA en f10 (l11 ++ [] ++ l12) H6 fun v13 H14 =>
 v13 = undef ∧
 AS.asAddr (.pointer x0) fun i15 i16 =>
 ∃ b17, (H14.bump 10).cell i15 (i16 + 8) = some (.bool b17) ∧
 AS.asAddr (.pointer x0) fun i18 i19 =>
 ∃ b20, (H14.bump 10).cell i18 (i19 + 9) = some (.bool b20) ∧
 (
 R (.tuple #[(.bool b17), (.bool b20)]) (H14.bump 10)) ∧
 True)) →
    CA en F.hash_Run_Step [(.pointer x0)] H R := by
  intro h
  refine wpFn_ok (Z := []) (fn := Go.Proofs.Tryz.f33) ?_ ?_ ?_
  · kernel_rfl
  · kernel_rfl
  · apply turnInto h
    kernel_rfl


/-! hash_Run_Result -/

theorem vc_hash_Run_Result (x0 : Option Addr) (H : Heap) (R : Value → Heap → Prop) :
    (
 nwH H (.cells true 0 [(.int .i64 0), (.slice none 0 0), (.int .u64 0), (.int .i64 0)]) fun i1 H2 =>
 AS.asAddr (.pointer x0) fun i3 i4 =>
 ∃ n5, ∃ a6 i7, ∃ n8, ∃ n9, H2.cellsAt i3 (i4 + 10) 4 = some [(.int .i64 n5), (.slice a6 i7 0), (.int .u64 n8), (.int .i64 n9)] ∧
 nwH H2 (.cells true 0 [(.int .i64 0), (.slice none 0 0), (.int .u64 0), (.int .i64 0)]) fun i10 H11 =>
 stc H11 i10 0 [(.int .i64 n5), (.slice a6 i7 0), (.int .u64 n8), (.int .i64 n9)] fun H12 =>
 AS.asAddr (.pointer x0) fun i13 i14 =>
 ∃ a15 i16, H12.cell i13 ((i14 + 10) + 1) = some (.slice a15 i16 0) ∧
 CA en F.slices_Clone_uint64_uint64 [(.slice a15 i16 0)] H12 fun v17 H18 =>
 ∃ a19 i20, v17 = (.slice a19 i20 0) ∧
 stc H18 i10 1 [(.slice a19 i20 0)] fun H21 =>
 ∃ n22, ∃ a23 i24, ∃ n25, ∃ n26, H21.cellsAt i10 0 4 = some [(.int .i64 n22), (.slice a23 i24 0), (.int .u64 n25), (.int .i64 n26)] ∧
 stc H21 i1 0 [(.int .i64 n22), (.slice a23 i24 0), (.int .u64 n25), (.int .i64 n26)] fun H27 =>
 ∃ n28, ∃ a29 i30, ∃ n31, ∃ n32, H27.cellsAt i1 0 4 = some [(.int .i64 n28), (.slice a29 i30 0), (.int .u64 n31), (.int .i64 n32)] ∧
 R (.agg #[(.int .i64 n28), (.slice a29 i30 0), (.int .u64 n31), (.int .i64 n32)]) H27) →
    CA en F.hash_Run_Result [(.pointer x0)] H R := by
  intro h
  refine wpFn_ok (Z := []) (fn := Go.Proofs.Tryz.f34) ?_ ?_ ?_
  · kernel_rfl
  · kernel_rfl
  · apply turnInto h
    kernel_rfl


/-! hash_Run_begin -/

theorem vc_hash_Run_begin (x0 : Option Addr) (H : Heap) (R : Value → Heap → Prop) :
    (
 AS.asAddr (.pointer x0) fun i1 i2 =>
 ∃ a3, (H.bump 22).cell i1 i2 = some (.pointer a3) ∧
 AS.asAddr (.pointer a3) fun i4 i5 =>
 ∃ a6, (H.bump 22).cell i4 i5 = some (.pointer a6) ∧
 AS.asAddr (.pointer x0) fun i7 i8 =>
 ∃ a9, (H.bump 22).cell i7 i8 = some (.pointer a9) ∧
 AS.asAddr (.pointer a9) fun i10 i11 =>
 ∃ n12, (H.bump 22).cell i10 (i11 + 7) = some (.int .i64 n12) ∧
 CA en F.smem_Mem_Load [(.pointer a6), (.int .i64 n12), (.int .i64 1)] (H.bump 22) fun v13 H14 =>
 ∃ n15, ∃ b16, v13 = (.tuple #[(.int .u64 n15), (.bool b16)]) ∧
 AS.asAddr (.pointer x0) fun i17 i18 =>
 stc H14 i17 (i18 + 20) [(.int .u64 n15)] fun H19 =>
 (
 AS.asAddr (.pointer x0) fun i20 i21 =>
 ∃ n22, H19.cell i20 ((i21 + 1) + 3) = some (.int .i64 n22) ∧
 bif (n22 != 1) then (
 AS.asAddr (.pointer x0) fun i23 i24 =>
 ∃ n25, (H19.bump 15).cell i23 ((i24 + 1) + 1) = some (.int .u64 n25) ∧
 AS.asAddr (.pointer x0) fun i26 i27 =>
 ∃ a28, (H19.bump 15).cell i26 i27 = some (.pointer a28) ∧
 AS.asAddr (.pointer a28) fun i29 i30 =>
 ∃ n31, (H19.bump 15).cell i29 ((i30 + 2) + 3) = some (.int .i64 n31) ∧
 CA en F.decl_Bucket [(.int .u64 n25), (.int .i64 n31)] (H19.bump 15) fun v32 H33 =>
 ∃ n34, v32 = (.int .i64 n34) ∧
 (
 AS.asAddr (.pointer x0) fun i35 i36 =>
 ∃ n37, H33.cell i35 ((i36 + 1) + 3) = some (.int .i64 n37) ∧
 CA en F.hash_Run_search [(.pointer x0), (.int .i64 n34), (.bool (n37 != 1))] H33 fun v38 H39 =>
 v38 = undef ∧
 R undef H39) ∧
 True)
 else (
 AS.asAddr (.pointer x0) fun i40 i41 =>
 ∃ n42, H19.cell i40 ((i41 + 1) + 3) = some (.int .i64 n42) ∧
 CA en F.hash_Run_search [(.pointer x0), (.int .i64 0), (.bool (n42 != 1))] H19 fun v43 H44 =>
 v43 = undef ∧
 R undef H44)) ∧
 True) →
    CA en F.hash_Run_begin [(.pointer x0)] H R := by
  intro h
  refine wpFn_ok (Z := []) (fn := Go.Proofs.Tryz.f69) ?_ ?_ ?_
  · kernel_rfl
  · kernel_rfl
  · apply turnInto h
    kernel_rfl


/-! hash_Run_enter -/

theorem vc_hash_Run_enter (x0 : Option Addr) (x1 : Int) (x2 : Nat) (x2l : List Value) (x2c : List Value) (H : Heap) (R : Value → Heap → Prop) :
    (
 nwH H (.cells true 0 [(.pointer x0)]) fun i1 H2 =>
 nwH H2 (.cells true 0 [(.func (.func x2) ⟨x2l⟩ ⟨x2c⟩)]) fun i3 H4 =>
 ∃ a5, ((H4.bump 23).set (H4.next + 21) (.cells true 0 [(.pointer none)])).cell i1 0 = some (.pointer a5) ∧
 AS.asAddr (.pointer a5) fun i6 i7 =>
 ∃ a8, ((H4.bump 23).set (H4.next + 21) (.cells true 0 [(.pointer none)])).cell i6 i7 = some (.pointer a8) ∧
 AS.asAddr (.pointer a8) fun i9 i10 =>
 ∃ a11, ((H4.bump 23).set (H4.next + 21) (.cells true 0 [(.pointer none)])).cell i9 i10 = some (.pointer a11) ∧
 ∃ a12, ((H4.bump 23).set (H4.next + 21) (.cells true 0 [(.pointer none)])).cell i1 0 = some (.pointer a12) ∧
 AS.asAddr (.pointer a12) fun i13 i14 =>
 ∃ a15, ((H4.bump 23).set (H4.next + 21) (.cells true 0 [(.pointer none)])).cell i13 i14 = some (.pointer a15) ∧
 AS.asAddr (.pointer a15) fun i16 i17 =>
 ∃ n18, ((H4.bump 23).set (H4.next + 21) (.cells true 0 [(.pointer none)])).cell i16 (i17 + 7) = some (.int .i64 n18) ∧
 ∃ a19, ((H4.bump 23).set (H4.next + 21) (.cells true 0 [(.pointer none)])).cell i1 0 = some (.pointer a19) ∧
 AS.asAddr (.pointer a19) fun i20 i21 =>
 ∃ a22, ((H4.bump 23).set (H4.next + 21) (.cells true 0 [(.pointer none)])).cell i20 i21 = some (.pointer a22) ∧
 CA en F.hash_Map_lockAt [(.pointer a22), (.int .i64 x1)] ((H4.bump 23).set (H4.next + 21) (.cells true 0 [(.pointer none)])) fun v23 H24 =>
 ∃ n25, v23 = (.int .i64 n25) ∧
 CA en F.lock_Take [(.pointer a11), (.int .i64 n18), (.int .i64 n25)] H24 fun v26 H27 =>
 ∃ a28, v26 = (.pointer a28) ∧
 stc H27 (H4.next + 21) 0 [(.pointer a28)] fun H29 =>
 (
 ∃ a45, H29.cell i1 0 = some (.pointer a45) ∧
 AS.asAddr (.pointer a45) fun i46 i47 =>
 stc H29 i46 (i47 + 14) [(.int .i64 x1)] fun H48 =>
 ∃ a49, H48.cell i1 0 = some (.pointer a49) ∧
 AS.asAddr (.pointer a49) fun i50 i51 =>
 stc H48 i50 (i51 + 7) [(.func (.func F.hash_Run_enter_1) #[] #[(.pointer (some ⟨(H4.next + 21), 0, none⟩)), (.pointer (some ⟨i3, 0, none⟩)), (.pointer (some ⟨i1, 0, none⟩))])] fun H52 =>
 R undef H52) ∧
 ((∃ c32, ((H4.bump 23).set (H4.next + 21) (.cells true 0 [(.pointer none)])).get (H4.next + 21) = some (.cells true 0 c32) ∧ sameN.sameL 8 [(.pointer none)] c32 = true) ∧ (∃ c31, H24.get (H4.next + 21) = some (.cells true 0 c31) ∧ sameN.sameL 8 [(.pointer none)] c31 = true) ∧ (∃ c30, H27.get (H4.next + 21) = some (.cells true 0 c30) ∧ sameN.sameL 8 [(.pointer none)] c30 = true) ∧ True) ∧
 ((∃ n34, ((H4.bump 23).set (H4.next + 21) (.cells true 0 [(.pointer none)])).cell i16 (i17 + 7) = some (.int .i64 n34) ∧
 n18 = n34) ∧ (∃ n33, H24.cell i16 (i17 + 7) = some (.int .i64 n33) ∧
 n18 = n33) ∧ True) ∧
 ((∃ a36, ((H4.bump 23).set (H4.next + 21) (.cells true 0 [(.pointer none)])).cell i13 i14 = some (.pointer a36) ∧
 a15 = a36) ∧ (∃ a35, H24.cell i13 i14 = some (.pointer a35) ∧
 a15 = a35) ∧ True) ∧
 ((∃ a38, ((H4.bump 23).set (H4.next + 21) (.cells true 0 [(.pointer none)])).cell i1 0 = some (.pointer a38) ∧
 a12 = a38) ∧ (∃ a37, H24.cell i1 0 = some (.pointer a37) ∧
 a12 = a37) ∧ True) ∧
 ((∃ a40, ((H4.bump 23).set (H4.next + 21) (.cells true 0 [(.pointer none)])).cell i9 i10 = some (.pointer a40) ∧
 a11 = a40) ∧ (∃ a39, H24.cell i9 i10 = some (.pointer a39) ∧
 a11 = a39) ∧ True) ∧
 ((∃ a42, ((H4.bump 23).set (H4.next + 21) (.cells true 0 [(.pointer none)])).cell i6 i7 = some (.pointer a42) ∧
 a8 = a42) ∧ (∃ a41, H24.cell i6 i7 = some (.pointer a41) ∧
 a8 = a41) ∧ True) ∧
 ((∃ a44, ((H4.bump 23).set (H4.next + 21) (.cells true 0 [(.pointer none)])).cell i1 0 = some (.pointer a44) ∧
 a5 = a44) ∧ (∃ a43, H24.cell i1 0 = some (.pointer a43) ∧
 a5 = a43) ∧ True) ∧
 True) →
    CA en F.hash_Run_enter [(.pointer x0), (.int .i64 x1), (.func (.func x2) ⟨x2l⟩ ⟨x2c⟩)] H R := by
  intro h
  refine wpFn_ok (Z := []) (fn := Go.Proofs.Tryz.f70) ?_ ?_ ?_
  · kernel_rfl
  · kernel_rfl
  · apply turnInto h
    kernel_rfl


/-! hash_Run_seek -/

theorem vc_hash_Run_seek (x0 : Option Addr) (x1 : Int) (x2 : Bool) (x3 : Nat) (x3l : List Value) (x3c : List Value) (H : Heap) (R : Value → Heap → Prop) :
    (
 nwH H (.cells true 0 [(.pointer x0)]) fun i1 H2 =>
 nwH H2 (.cells true 0 [(.int .u64 x1)]) fun i3 H4 =>
 nwH H4 (.cells true 0 [(.bool x2)]) fun i5 H6 =>
 nwH H6 (.cells true 0 [(.func (.func x3) ⟨x3l⟩ ⟨x3c⟩)]) fun i7 H8 =>
 ∃ a9, (H8.bump 13).cell i1 0 = some (.pointer a9) ∧
 ∃ a10, (H8.bump 13).cell i1 0 = some (.pointer a10) ∧
 AS.asAddr (.pointer a10) fun i11 i12 =>
 ∃ a13, (H8.bump 13).cell i11 i12 = some (.pointer a13) ∧
 ∃ a14, (H8.bump 13).cell i1 0 = some (.pointer a14) ∧
 AS.asAddr (.pointer a14) fun i15 i16 =>
 ∃ n17, (H8.bump 13).cell i15 (i16 + 14) = some (.int .i64 n17) ∧
 CA en F.hash_Map_headAt [(.pointer a13), (.int .i64 n17)] (H8.bump 13) fun v18 H19 =>
 ∃ n20, ∃ n21, v18 = (.agg #[(.int .i64 n20), (.int .i64 n21)]) ∧
 AS.asAddr (.pointer a9) fun i22 i23 =>
 stc H19 i22 (i23 + 15) [(.int .i64 n20), (.int .i64 n21)] fun H24 =>
 (
 nwH H24 (.cells true 0 [.nilFunc]) fun i27 H28 =>
 nwH H28 (.cells true 0 [.nilFunc]) fun i29 H30 =>
 stc H30 i29 0 [(.func (.func F.hash_Run_seek_1) #[] #[(.pointer (some ⟨i1, 0, none⟩)), (.pointer (some ⟨i3, 0, none⟩)), (.pointer (some ⟨i5, 0, none⟩)), (.pointer (some ⟨i7, 0, none⟩)), (.pointer (some ⟨i27, 0, none⟩))])] fun H31 =>
 stc H31 i27 0 [(.func (.func F.hash_Run_seek_2) #[] #[(.pointer (some ⟨i1, 0, none⟩)), (.pointer (some ⟨i29, 0, none⟩)), (.pointer (some ⟨i7, 0, none⟩))])] fun H32 =>
 ∃ a33, H32.cell i1 0 = some (.pointer a33) ∧
 ∃ v34, H32.cell i27 0 = some v34 ∧
 AS.asAddr (.pointer a33) fun i35 i36 =>
 AS.asCells v34 fun vs38 =>
 bif (Nat.beq vs38.length 1) then (
 stc H32 i35 (i36 + 7) vs38 fun H37 =>
 R undef H37)
 else False) ∧
 ((∃ a26, (H8.bump 13).cell i1 0 = some (.pointer a26) ∧
 a9 = a26) ∧ (∃ a25, H19.cell i1 0 = some (.pointer a25) ∧
 a9 = a25) ∧ True) ∧
 True) →
    CA en F.hash_Run_seek [(.pointer x0), (.int .u64 x1), (.bool x2), (.func (.func x3) ⟨x3l⟩ ⟨x3c⟩)] H R := by
  intro h
  refine wpFn_ok (Z := []) (fn := Go.Proofs.Tryz.f73) ?_ ?_ ?_
  · kernel_rfl
  · kernel_rfl
  · apply turnInto h
    kernel_rfl


/-! hash_Run_found -/

theorem vc_hash_Run_found (x0 : Option Addr) (x1 : Bool) (H : Heap) (R : Value → Heap → Prop) :
    (
 AS.asAddr (.pointer x0) fun i1 i2 =>
 ∃ n3, H.cell i1 (i2 + 1) = some (.int .i64 n3) ∧
 bif (n3 == 2) then (
 bif x1 then (
 AS.asAddr (.pointer x0) fun i4 i5 =>
 ∃ n6, H.cell i4 ((i5 + 1) + 3) = some (.int .i64 n6) ∧
 bif (n6 == 1) then (
 CA en F.hash_Run_none [(.pointer x0), (.int .i64 3)] H fun v7 H8 =>
 v7 = undef ∧
 R undef H8)
 else (
 AS.asAddr (.pointer x0) fun i9 i10 =>
 ∃ n11, H.cell i9 (i10 + 1) = some (.int .i64 n11) ∧
 bif (n11 == 2) then (
 bif x1 then (
 AS.asAddr (.pointer x0) fun i12 i13 =>
 stc H i12 (i13 + 7) [(.func (.func F.hash_Run_set) #[(.pointer x0)] #[])] fun H14 =>
 R undef H14)
 else (
 AS.asAddr (.pointer x0) fun i15 i16 =>
 ∃ n17, H.cell i15 (i16 + 1) = some (.int .i64 n17) ∧
 bif (n17 == 2) then (
 AS.asAddr (.pointer x0) fun i18 i19 =>
 ∃ n20, H.cell i18 ((i19 + 1) + 3) = some (.int .i64 n20) ∧
 bif (n20 != 2) then (
 AS.asAddr (.pointer x0) fun i21 i22 =>
 stc H i21 (i22 + 7) [(.func (.func F.hash_Run_space) #[(.pointer x0)] #[])] fun H23 =>
 R undef H23)
 else (
 bif (!x1) then (
 CA en F.hash_Run_none [(.pointer x0), (.int .i64 2)] H fun v24 H25 =>
 v24 = undef ∧
 R undef H25)
 else (
 AS.asAddr (.pointer x0) fun i26 i27 =>
 ∃ n28, H.cell i26 (i27 + 1) = some (.int .i64 n28) ∧
 bif (n28 == 1) then (
 AS.asAddr (.pointer x0) fun i29 i30 =>
 stc H i29 (i30 + 7) [(.func (.func F.hash_Run_look) #[(.pointer x0)] #[])] fun H31 =>
 R undef H31)
 else (
 AS.asAddr (.pointer x0) fun i32 i33 =>
 ∃ n34, H.cell i32 (i33 + 1) = some (.int .i64 n34) ∧
 bif (n34 == 3) then (
 AS.asAddr (.pointer x0) fun i35 i36 =>
 stc H i35 (i36 + 7) [(.func (.func F.hash_Run_drop) #[(.pointer x0)] #[])] fun H37 =>
 R undef H37)
 else (
 AS.asAddr (.pointer x0) fun i38 i39 =>
 stc H i38 (i39 + 7) [(.func (.func F.hash_Run_take) #[(.pointer x0)] #[])] fun H40 =>
 R undef H40)))))
 else (
 bif (!x1) then (
 CA en F.hash_Run_none [(.pointer x0), (.int .i64 2)] H fun v41 H42 =>
 v41 = undef ∧
 R undef H42)
 else (
 AS.asAddr (.pointer x0) fun i43 i44 =>
 ∃ n45, H.cell i43 (i44 + 1) = some (.int .i64 n45) ∧
 bif (n45 == 1) then (
 AS.asAddr (.pointer x0) fun i46 i47 =>
 stc H i46 (i47 + 7) [(.func (.func F.hash_Run_look) #[(.pointer x0)] #[])] fun H48 =>
 R undef H48)
 else (
 AS.asAddr (.pointer x0) fun i49 i50 =>
 ∃ n51, H.cell i49 (i50 + 1) = some (.int .i64 n51) ∧
 bif (n51 == 3) then (
 AS.asAddr (.pointer x0) fun i52 i53 =>
 stc H i52 (i53 + 7) [(.func (.func F.hash_Run_drop) #[(.pointer x0)] #[])] fun H54 =>
 R undef H54)
 else (
 AS.asAddr (.pointer x0) fun i55 i56 =>
 stc H i55 (i56 + 7) [(.func (.func F.hash_Run_take) #[(.pointer x0)] #[])] fun H57 =>
 R undef H57))))))
 else (
 AS.asAddr (.pointer x0) fun i58 i59 =>
 ∃ n60, H.cell i58 (i59 + 1) = some (.int .i64 n60) ∧
 bif (n60 == 2) then (
 AS.asAddr (.pointer x0) fun i61 i62 =>
 ∃ n63, H.cell i61 ((i62 + 1) + 3) = some (.int .i64 n63) ∧
 bif (n63 != 2) then (
 AS.asAddr (.pointer x0) fun i64 i65 =>
 stc H i64 (i65 + 7) [(.func (.func F.hash_Run_space) #[(.pointer x0)] #[])] fun H66 =>
 R undef H66)
 else (
 bif (!x1) then (
 CA en F.hash_Run_none [(.pointer x0), (.int .i64 2)] H fun v67 H68 =>
 v67 = undef ∧
 R undef H68)
 else (
 AS.asAddr (.pointer x0) fun i69 i70 =>
 ∃ n71, H.cell i69 (i70 + 1) = some (.int .i64 n71) ∧
 bif (n71 == 1) then (
 AS.asAddr (.pointer x0) fun i72 i73 =>
 stc H i72 (i73 + 7) [(.func (.func F.hash_Run_look) #[(.pointer x0)] #[])] fun H74 =>
 R undef H74)
 else (
 AS.asAddr (.pointer x0) fun i75 i76 =>
 ∃ n77, H.cell i75 (i76 + 1) = some (.int .i64 n77) ∧
 bif (n77 == 3) then (
 AS.asAddr (.pointer x0) fun i78 i79 =>
 stc H i78 (i79 + 7) [(.func (.func F.hash_Run_drop) #[(.pointer x0)] #[])] fun H80 =>
 R undef H80)
 else (
 AS.asAddr (.pointer x0) fun i81 i82 =>
 stc H i81 (i82 + 7) [(.func (.func F.hash_Run_take) #[(.pointer x0)] #[])] fun H83 =>
 R undef H83)))))
 else (
 bif (!x1) then (
 CA en F.hash_Run_none [(.pointer x0), (.int .i64 2)] H fun v84 H85 =>
 v84 = undef ∧
 R undef H85)
 else (
 AS.asAddr (.pointer x0) fun i86 i87 =>
 ∃ n88, H.cell i86 (i87 + 1) = some (.int .i64 n88) ∧
 bif (n88 == 1) then (
 AS.asAddr (.pointer x0) fun i89 i90 =>
 stc H i89 (i90 + 7) [(.func (.func F.hash_Run_look) #[(.pointer x0)] #[])] fun H91 =>
 R undef H91)
 else (
 AS.asAddr (.pointer x0) fun i92 i93 =>
 ∃ n94, H.cell i92 (i93 + 1) = some (.int .i64 n94) ∧
 bif (n94 == 3) then (
 AS.asAddr (.pointer x0) fun i95 i96 =>
 stc H i95 (i96 + 7) [(.func (.func F.hash_Run_drop) #[(.pointer x0)] #[])] fun H97 =>
 R undef H97)
 else (
 AS.asAddr (.pointer x0) fun i98 i99 =>
 stc H i98 (i99 + 7) [(.func (.func F.hash_Run_take) #[(.pointer x0)] #[])] fun H100 =>
 R undef H100)))))))
 else (
 AS.asAddr (.pointer x0) fun i101 i102 =>
 ∃ n103, H.cell i101 (i102 + 1) = some (.int .i64 n103) ∧
 bif (n103 == 2) then (
 bif x1 then (
 AS.asAddr (.pointer x0) fun i104 i105 =>
 stc H i104 (i105 + 7) [(.func (.func F.hash_Run_set) #[(.pointer x0)] #[])] fun H106 =>
 R undef H106)
 else (
 AS.asAddr (.pointer x0) fun i107 i108 =>
 ∃ n109, H.cell i107 (i108 + 1) = some (.int .i64 n109) ∧
 bif (n109 == 2) then (
 AS.asAddr (.pointer x0) fun i110 i111 =>
 ∃ n112, H.cell i110 ((i111 + 1) + 3) = some (.int .i64 n112) ∧
 bif (n112 != 2) then (
 AS.asAddr (.pointer x0) fun i113 i114 =>
 stc H i113 (i114 + 7) [(.func (.func F.hash_Run_space) #[(.pointer x0)] #[])] fun H115 =>
 R undef H115)
 else (
 bif (!x1) then (
 CA en F.hash_Run_none [(.pointer x0), (.int .i64 2)] H fun v116 H117 =>
 v116 = undef ∧
 R undef H117)
 else (
 AS.asAddr (.pointer x0) fun i118 i119 =>
 ∃ n120, H.cell i118 (i119 + 1) = some (.int .i64 n120) ∧
 bif (n120 == 1) then (
 AS.asAddr (.pointer x0) fun i121 i122 =>
 stc H i121 (i122 + 7) [(.func (.func F.hash_Run_look) #[(.pointer x0)] #[])] fun H123 =>
 R undef H123)
 else (
 AS.asAddr (.pointer x0) fun i124 i125 =>
 ∃ n126, H.cell i124 (i125 + 1) = some (.int .i64 n126) ∧
 bif (n126 == 3) then (
 AS.asAddr (.pointer x0) fun i127 i128 =>
 stc H i127 (i128 + 7) [(.func (.func F.hash_Run_drop) #[(.pointer x0)] #[])] fun H129 =>
 R undef H129)
 else (
 AS.asAddr (.pointer x0) fun i130 i131 =>
 stc H i130 (i131 + 7) [(.func (.func F.hash_Run_take) #[(.pointer x0)] #[])] fun H132 =>
 R undef H132)))))
 else (
 bif (!x1) then (
 CA en F.hash_Run_none [(.pointer x0), (.int .i64 2)] H fun v133 H134 =>
 v133 = undef ∧
 R undef H134)
 else (
 AS.asAddr (.pointer x0) fun i135 i136 =>
 ∃ n137, H.cell i135 (i136 + 1) = some (.int .i64 n137) ∧
 bif (n137 == 1) then (
 AS.asAddr (.pointer x0) fun i138 i139 =>
 stc H i138 (i139 + 7) [(.func (.func F.hash_Run_look) #[(.pointer x0)] #[])] fun H140 =>
 R undef H140)
 else (
 AS.asAddr (.pointer x0) fun i141 i142 =>
 ∃ n143, H.cell i141 (i142 + 1) = some (.int .i64 n143) ∧
 bif (n143 == 3) then (
 AS.asAddr (.pointer x0) fun i144 i145 =>
 stc H i144 (i145 + 7) [(.func (.func F.hash_Run_drop) #[(.pointer x0)] #[])] fun H146 =>
 R undef H146)
 else (
 AS.asAddr (.pointer x0) fun i147 i148 =>
 stc H i147 (i148 + 7) [(.func (.func F.hash_Run_take) #[(.pointer x0)] #[])] fun H149 =>
 R undef H149))))))
 else (
 AS.asAddr (.pointer x0) fun i150 i151 =>
 ∃ n152, H.cell i150 (i151 + 1) = some (.int .i64 n152) ∧
 bif (n152 == 2) then (
 AS.asAddr (.pointer x0) fun i153 i154 =>
 ∃ n155, H.cell i153 ((i154 + 1) + 3) = some (.int .i64 n155) ∧
 bif (n155 != 2) then (
 AS.asAddr (.pointer x0) fun i156 i157 =>
 stc H i156 (i157 + 7) [(.func (.func F.hash_Run_space) #[(.pointer x0)] #[])] fun H158 =>
 R undef H158)
 else (
 bif (!x1) then (
 CA en F.hash_Run_none [(.pointer x0), (.int .i64 2)] H fun v159 H160 =>
 v159 = undef ∧
 R undef H160)
 else (
 AS.asAddr (.pointer x0) fun i161 i162 =>
 ∃ n163, H.cell i161 (i162 + 1) = some (.int .i64 n163) ∧
 bif (n163 == 1) then (
 AS.asAddr (.pointer x0) fun i164 i165 =>
 stc H i164 (i165 + 7) [(.func (.func F.hash_Run_look) #[(.pointer x0)] #[])] fun H166 =>
 R undef H166)
 else (
 AS.asAddr (.pointer x0) fun i167 i168 =>
 ∃ n169, H.cell i167 (i168 + 1) = some (.int .i64 n169) ∧
 bif (n169 == 3) then (
 AS.asAddr (.pointer x0) fun i170 i171 =>
 stc H i170 (i171 + 7) [(.func (.func F.hash_Run_drop) #[(.pointer x0)] #[])] fun H172 =>
 R undef H172)
 else (
 AS.asAddr (.pointer x0) fun i173 i174 =>
 stc H i173 (i174 + 7) [(.func (.func F.hash_Run_take) #[(.pointer x0)] #[])] fun H175 =>
 R undef H175)))))
 else (
 bif (!x1) then (
 CA en F.hash_Run_none [(.pointer x0), (.int .i64 2)] H fun v176 H177 =>
 v176 = undef ∧
 R undef H177)
 else (
 AS.asAddr (.pointer x0) fun i178 i179 =>
 ∃ n180, H.cell i178 (i179 + 1) = some (.int .i64 n180) ∧
 bif (n180 == 1) then (
 AS.asAddr (.pointer x0) fun i181 i182 =>
 stc H i181 (i182 + 7) [(.func (.func F.hash_Run_look) #[(.pointer x0)] #[])] fun H183 =>
 R undef H183)
 else (
 AS.asAddr (.pointer x0) fun i184 i185 =>
 ∃ n186, H.cell i184 (i185 + 1) = some (.int .i64 n186) ∧
 bif (n186 == 3) then (
 AS.asAddr (.pointer x0) fun i187 i188 =>
 stc H i187 (i188 + 7) [(.func (.func F.hash_Run_drop) #[(.pointer x0)] #[])] fun H189 =>
 R undef H189)
 else (
 AS.asAddr (.pointer x0) fun i190 i191 =>
 stc H i190 (i191 + 7) [(.func (.func F.hash_Run_take) #[(.pointer x0)] #[])] fun H192 =>
 R undef H192)))))))
 else (
 AS.asAddr (.pointer x0) fun i193 i194 =>
 ∃ n195, H.cell i193 (i194 + 1) = some (.int .i64 n195) ∧
 bif (n195 == 2) then (
 bif x1 then (
 AS.asAddr (.pointer x0) fun i196 i197 =>
 stc H i196 (i197 + 7) [(.func (.func F.hash_Run_set) #[(.pointer x0)] #[])] fun H198 =>
 R undef H198)
 else (
 AS.asAddr (.pointer x0) fun i199 i200 =>
 ∃ n201, H.cell i199 (i200 + 1) = some (.int .i64 n201) ∧
 bif (n201 == 2) then (
 AS.asAddr (.pointer x0) fun i202 i203 =>
 ∃ n204, H.cell i202 ((i203 + 1) + 3) = some (.int .i64 n204) ∧
 bif (n204 != 2) then (
 AS.asAddr (.pointer x0) fun i205 i206 =>
 stc H i205 (i206 + 7) [(.func (.func F.hash_Run_space) #[(.pointer x0)] #[])] fun H207 =>
 R undef H207)
 else (
 bif (!x1) then (
 CA en F.hash_Run_none [(.pointer x0), (.int .i64 2)] H fun v208 H209 =>
 v208 = undef ∧
 R undef H209)
 else (
 AS.asAddr (.pointer x0) fun i210 i211 =>
 ∃ n212, H.cell i210 (i211 + 1) = some (.int .i64 n212) ∧
 bif (n212 == 1) then (
 AS.asAddr (.pointer x0) fun i213 i214 =>
 stc H i213 (i214 + 7) [(.func (.func F.hash_Run_look) #[(.pointer x0)] #[])] fun H215 =>
 R undef H215)
 else (
 AS.asAddr (.pointer x0) fun i216 i217 =>
 ∃ n218, H.cell i216 (i217 + 1) = some (.int .i64 n218) ∧
 bif (n218 == 3) then (
 AS.asAddr (.pointer x0) fun i219 i220 =>
 stc H i219 (i220 + 7) [(.func (.func F.hash_Run_drop) #[(.pointer x0)] #[])] fun H221 =>
 R undef H221)
 else (
 AS.asAddr (.pointer x0) fun i222 i223 =>
 stc H i222 (i223 + 7) [(.func (.func F.hash_Run_take) #[(.pointer x0)] #[])] fun H224 =>
 R undef H224)))))
 else (
 bif (!x1) then (
 CA en F.hash_Run_none [(.pointer x0), (.int .i64 2)] H fun v225 H226 =>
 v225 = undef ∧
 R undef H226)
 else (
 AS.asAddr (.pointer x0) fun i227 i228 =>
 ∃ n229, H.cell i227 (i228 + 1) = some (.int .i64 n229) ∧
 bif (n229 == 1) then (
 AS.asAddr (.pointer x0) fun i230 i231 =>
 stc H i230 (i231 + 7) [(.func (.func F.hash_Run_look) #[(.pointer x0)] #[])] fun H232 =>
 R undef H232)
 else (
 AS.asAddr (.pointer x0) fun i233 i234 =>
 ∃ n235, H.cell i233 (i234 + 1) = some (.int .i64 n235) ∧
 bif (n235 == 3) then (
 AS.asAddr (.pointer x0) fun i236 i237 =>
 stc H i236 (i237 + 7) [(.func (.func F.hash_Run_drop) #[(.pointer x0)] #[])] fun H238 =>
 R undef H238)
 else (
 AS.asAddr (.pointer x0) fun i239 i240 =>
 stc H i239 (i240 + 7) [(.func (.func F.hash_Run_take) #[(.pointer x0)] #[])] fun H241 =>
 R undef H241))))))
 else (
 AS.asAddr (.pointer x0) fun i242 i243 =>
 ∃ n244, H.cell i242 (i243 + 1) = some (.int .i64 n244) ∧
 bif (n244 == 2) then (
 AS.asAddr (.pointer x0) fun i245 i246 =>
 ∃ n247, H.cell i245 ((i246 + 1) + 3) = some (.int .i64 n247) ∧
 bif (n247 != 2) then (
 AS.asAddr (.pointer x0) fun i248 i249 =>
 stc H i248 (i249 + 7) [(.func (.func F.hash_Run_space) #[(.pointer x0)] #[])] fun H250 =>
 R undef H250)
 else (
 bif (!x1) then (
 CA en F.hash_Run_none [(.pointer x0), (.int .i64 2)] H fun v251 H252 =>
 v251 = undef ∧
 R undef H252)
 else (
 AS.asAddr (.pointer x0) fun i253 i254 =>
 ∃ n255, H.cell i253 (i254 + 1) = some (.int .i64 n255) ∧
 bif (n255 == 1) then (
 AS.asAddr (.pointer x0) fun i256 i257 =>
 stc H i256 (i257 + 7) [(.func (.func F.hash_Run_look) #[(.pointer x0)] #[])] fun H258 =>
 R undef H258)
 else (
 AS.asAddr (.pointer x0) fun i259 i260 =>
 ∃ n261, H.cell i259 (i260 + 1) = some (.int .i64 n261) ∧
 bif (n261 == 3) then (
 AS.asAddr (.pointer x0) fun i262 i263 =>
 stc H i262 (i263 + 7) [(.func (.func F.hash_Run_drop) #[(.pointer x0)] #[])] fun H264 =>
 R undef H264)
 else (
 AS.asAddr (.pointer x0) fun i265 i266 =>
 stc H i265 (i266 + 7) [(.func (.func F.hash_Run_take) #[(.pointer x0)] #[])] fun H267 =>
 R undef H267)))))
 else (
 bif (!x1) then (
 CA en F.hash_Run_none [(.pointer x0), (.int .i64 2)] H fun v268 H269 =>
 v268 = undef ∧
 R undef H269)
 else (
 AS.asAddr (.pointer x0) fun i270 i271 =>
 ∃ n272, H.cell i270 (i271 + 1) = some (.int .i64 n272) ∧
 bif (n272 == 1) then (
 AS.asAddr (.pointer x0) fun i273 i274 =>
 stc H i273 (i274 + 7) [(.func (.func F.hash_Run_look) #[(.pointer x0)] #[])] fun H275 =>
 R undef H275)
 else (
 AS.asAddr (.pointer x0) fun i276 i277 =>
 ∃ n278, H.cell i276 (i277 + 1) = some (.int .i64 n278) ∧
 bif (n278 == 3) then (
 AS.asAddr (.pointer x0) fun i279 i280 =>
 stc H i279 (i280 + 7) [(.func (.func F.hash_Run_drop) #[(.pointer x0)] #[])] fun H281 =>
 R undef H281)
 else (
 AS.asAddr (.pointer x0) fun i282 i283 =>
 stc H i282 (i283 + 7) [(.func (.func F.hash_Run_take) #[(.pointer x0)] #[])] fun H284 =>
 R undef H284))))))) →
    CA en F.hash_Run_found [(.pointer x0), (.bool x1)] H R := by
  intro h
  refine wpFn_ok (Z := []) (fn := Go.Proofs.Tryz.f75) ?_ ?_ ?_
  · kernel_rfl
  · kernel_rfl
  · apply turnInto h
    kernel_rfl


/-! hash_Run_give -/

theorem vc_hash_Run_give (x0 : Option Addr) (x1_0 : Int) (x1_1 : Option Addr) (x1_1l : Nat) (x1_2 : Int) (x1_3 : Int) (H : Heap) (R : Value → Heap → Prop) :
    (
 nwH H (.cells true 0 [(.int .i64 x1_0), (.slice x1_1 x1_1l 0), (.int .u64 x1_2), (.int .i64 x1_3)]) fun i1 H2 =>
 ∃ n3, ∃ a4 i5, ∃ n6, ∃ n7, H2.cellsAt i1 0 4 = some [(.int .i64 n3), (.slice a4 i5 0), (.int .u64 n6), (.int .i64 n7)] ∧
 AS.asAddr (.pointer x0) fun i8 i9 =>
 stc H2 i8 (i9 + 10) [(.int .i64 n3), (.slice a4 i5 0), (.int .u64 n6), (.int .i64 n7)] fun H10 =>
 AS.asAddr (.pointer x0) fun i11 i12 =>
 stc H10 i11 (i12 + 8) [(.bool true)] fun H13 =>
 R undef H13) →
    CA en F.hash_Run_give [(.pointer x0), (.agg #[(.int .i64 x1_0), (.slice x1_1 x1_1l 0), (.int .u64 x1_2), (.int .i64 x1_3)])] H R := by
  intro h
  refine wpFn_ok (Z := []) (fn := Go.Proofs.Tryz.f81) ?_ ?_ ?_
  · kernel_rfl
  · kernel_rfl
  · apply turnInto h
    kernel_rfl


/-! hash_Run_leave -/

theorem vc_hash_Run_leave (x0 : Option Addr) (H : Heap) (R : Value → Heap → Prop) :
    (
 AS.asAddr (.pointer x0) fun i1 i2 =>
 ∃ a3, (H.bump 24).cell i1 i2 = some (.pointer a3) ∧
 AS.asAddr (.pointer a3) fun i4 i5 =>
 ∃ a6, (H.bump 24).cell i4 i5 = some (.pointer a6) ∧
 AS.asAddr (.pointer x0) fun i7 i8 =>
 ∃ a9, (H.bump 24).cell i7 i8 = some (.pointer a9) ∧
 AS.asAddr (.pointer a9) fun i10 i11 =>
 ∃ n12, (H.bump 24).cell i10 (i11 + 7) = some (.int .i64 n12) ∧
 AS.asAddr (.pointer x0) fun i13 i14 =>
 ∃ a15, (H.bump 24).cell i13 i14 = some (.pointer a15) ∧
 AS.asAddr (.pointer x0) fun i16 i17 =>
 ∃ n18, (H.bump 24).cell i16 (i17 + 14) = some (.int .i64 n18) ∧
 CA en F.hash_Map_lockAt [(.pointer a15), (.int .i64 n18)] (H.bump 24) fun v19 H20 =>
 ∃ n21, v19 = (.int .i64 n21) ∧
 CA en F.lock_Drop [(.pointer a6), (.int .i64 n12), (.int .i64 n21)] H20 fun v22 H23 =>
 ∃ b24, v22 = (.bool b24) ∧
 (
 AS.asAddr (.pointer x0) fun i33 i34 =>
 stc H23 i33 (i34 + 9) [(.bool true)] fun H35 =>
 R undef H35) ∧
 ((∃ n26, (H.bump 24).cell i10 (i11 + 7) = some (.int .i64 n26) ∧
 n12 = n26) ∧ (∃ n25, H20.cell i10 (i11 + 7) = some (.int .i64 n25) ∧
 n12 = n25) ∧ True) ∧
 ((∃ a28, (H.bump 24).cell i7 i8 = some (.pointer a28) ∧
 a9 = a28) ∧ (∃ a27, H20.cell i7 i8 = some (.pointer a27) ∧
 a9 = a27) ∧ True) ∧
 ((∃ a30, (H.bump 24).cell i4 i5 = some (.pointer a30) ∧
 a6 = a30) ∧ (∃ a29, H20.cell i4 i5 = some (.pointer a29) ∧
 a6 = a29) ∧ True) ∧
 ((∃ a32, (H.bump 24).cell i1 i2 = some (.pointer a32) ∧
 a3 = a32) ∧ (∃ a31, H20.cell i1 i2 = some (.pointer a31) ∧
 a3 = a31) ∧ True) ∧
 True) →
    CA en F.hash_Run_leave [(.pointer x0)] H R := by
  intro h
  refine wpFn_ok (Z := []) (fn := Go.Proofs.Tryz.f83) ?_ ?_ ?_
  · kernel_rfl
  · kernel_rfl
  · apply turnInto h
    kernel_rfl


/-! hash_Run_search -/

theorem vc_hash_Run_search (x0 : Option Addr) (x1 : Int) (x2 : Bool) (H : Heap) (R : Value → Heap → Prop) :
    (
 nwH H (.cells true 0 [(.pointer x0)]) fun i1 H2 =>
 nwH H2 (.cells true 0 [(.int .i64 x1)]) fun i3 H4 =>
 nwH H4 (.cells true 0 [(.bool x2)]) fun i5 H6 =>
 ∃ n7, (H6.bump 10).cell i3 0 = some (.int .i64 n7) ∧
 ∃ a8, (H6.bump 10).cell i1 0 = some (.pointer a8) ∧
 AS.asAddr (.pointer a8) fun i9 i10 =>
 ∃ a11, (H6.bump 10).cell i9 i10 = some (.pointer a11) ∧
 AS.asAddr (.pointer a11) fun i12 i13 =>
 ∃ n14, (H6.bump 10).cell i12 ((i13 + 2) + 3) = some (.int .i64 n14) ∧
 (
 bif (decide (n7 ≥ n14)) then (
 ∃ a15, (H6.bump 10).cell i1 0 = some (.pointer a15) ∧
 AS.asAddr (.pointer a15) fun i16 i17 =>
 stc (H6.bump 10) i16 (i17 + 7) [(.func (.func F.hash_Run_search_1) #[] #[(.pointer (some ⟨i1, 0, none⟩))])] fun H18 =>
 R undef H18)
 else (
 ∃ a19, (H6.bump 10).cell i1 0 = some (.pointer a19) ∧
 AS.asAddr (.pointer a19) fun i20 i21 =>
 ∃ n22, (H6.bump 10).cell i20 ((i21 + 1) + 1) = some (.int .u64 n22) ∧
 nwH (H6.bump 10) (.cells true 0 [(.int .u64 0)]) fun i23 H24 =>
 stc H24 i23 0 [(.int .u64 n22)] fun H25 =>
 ∃ b26, H25.cell i5 0 = some (.bool b26) ∧
 bif (!b26) then (
 stc H25 i23 0 [(.int .u64 0)] fun H27 =>
 ∃ a28, H27.cell i1 0 = some (.pointer a28) ∧
 ∃ n29, H27.cell i3 0 = some (.int .i64 n29) ∧
 CA en F.hash_Run_enter [(.pointer a28), (.int .i64 n29), (.func (.func F.hash_Run_search_2) #[] #[(.pointer (some ⟨i1, 0, none⟩)), (.pointer (some ⟨i23, 0, none⟩)), (.pointer (some ⟨i5, 0, none⟩)), (.pointer (some ⟨i3, 0, none⟩))])] H27 fun v30 H31 =>
 v30 = undef ∧
 R undef H31)
 else (
 ∃ a32, H25.cell i1 0 = some (.pointer a32) ∧
 ∃ n33, H25.cell i3 0 = some (.int .i64 n33) ∧
 CA en F.hash_Run_enter [(.pointer a32), (.int .i64 n33), (.func (.func F.hash_Run_search_2) #[] #[(.pointer (some ⟨i1, 0, none⟩)), (.pointer (some ⟨i23, 0, none⟩)), (.pointer (some ⟨i5, 0, none⟩)), (.pointer (some ⟨i3, 0, none⟩))])] H25 fun v34 H35 =>
 v34 = undef ∧
 R undef H35))) ∧
 True) →
    CA en F.hash_Run_search [(.pointer x0), (.int .i64 x1), (.bool x2)] H R := by
  intro h
  refine wpFn_ok (Z := []) (fn := Go.Proofs.Tryz.f119) ?_ ?_ ?_
  · kernel_rfl
  · kernel_rfl
  · apply turnInto h
    kernel_rfl


/-! hash_Run_enter_1 -/

theorem vc_hash_Run_enter_1 (c0 : Option Addr) (c1 : Option Addr) (c2 : Option Addr) (H : Heap) (R : Value → Heap → Prop) :
    (
 AS.asAddr (.pointer c0) fun i1 i2 =>
 ∃ a3, H.cell i1 i2 = some (.pointer a3) ∧
 CA en F.lock_Taker_Step [(.pointer a3)] H fun v4 H5 =>
 ∃ b6, v4 = (.bool b6) ∧
 bif b6 then (
 AS.asAddr (.pointer c2) fun i7 i8 =>
 ∃ a9, H5.cell i7 i8 = some (.pointer a9) ∧
 AS.asAddr (.pointer c1) fun i10 i11 =>
 ∃ v12, H5.cell i10 i11 = some v12 ∧
 AS.asAddr (.pointer a9) fun i13 i14 =>
 AS.asCells v12 fun vs16 =>
 bif (Nat.beq vs16.length 1) then (
 stc H5 i13 (i14 + 7) vs16 fun H15 =>
 R undef H15)
 else False)
 else (
 R undef H5)) →
    CA en F.hash_Run_enter_1 [(.pointer c0), (.pointer c1), (.pointer c2)] H R := by
  intro h
  refine wpFn_ok (Z := []) (fn := Go.Proofs.Tryz.f122) ?_ ?_ ?_
  · kernel_rfl
  · kernel_rfl
  · apply turnInto h
    kernel_rfl


/-! hash_Run_seek_1 -/

theorem vc_hash_Run_seek_1 (c0 : Option Addr) (c1 : Option Addr) (c2 : Option Addr) (c3 : Option Addr) (c4 : Option Addr) (H : Heap) (R : Value → Heap → Prop) :
    (
 AS.asAddr (.pointer c0) fun i1 i2 =>
 ∃ a3, (H.bump 19).cell i1 i2 = some (.pointer a3) ∧
 AS.asAddr (.pointer c0) fun i4 i5 =>
 ∃ a6, (H.bump 19).cell i4 i5 = some (.pointer a6) ∧
 AS.asAddr (.pointer a6) fun i7 i8 =>
 ∃ a9, (H.bump 19).cell i7 i8 = some (.pointer a9) ∧
 AS.asAddr (.pointer a9) fun i10 i11 =>
 ∃ a12, (H.bump 19).cell i10 i11 = some (.pointer a12) ∧
 AS.asAddr (.pointer c0) fun i13 i14 =>
 ∃ a15, (H.bump 19).cell i13 i14 = some (.pointer a15) ∧
 AS.asAddr (.pointer a15) fun i16 i17 =>
 ∃ n18, (H.bump 19).cell i16 (i17 + 17) = some (.int .i64 n18) ∧
 CA en F.smem_Mem_Load [(.pointer a12), (.int .i64 n18), (.int .i64 1)] (H.bump 19) fun v19 H20 =>
 ∃ n21, ∃ b22, v19 = (.tuple #[(.int .u64 n21), (.bool b22)]) ∧
 AS.asAddr (.pointer a3) fun i23 i24 =>
 stc H20 i23 (i24 + 19) [(.int .u64 n21)] fun H25 =>
 (
 AS.asAddr (.pointer c0) fun i32 i33 =>
 ∃ a34, (H25.bump 18).cell i32 i33 = some (.pointer a34) ∧
 AS.asAddr (.pointer a34) fun i35 i36 =>
 ∃ n37, (H25.bump 18).cell i35 (i36 + 19) = some (.int .u64 n37) ∧
 AS.asAddr (.pointer c1) fun i38 i39 =>
 ∃ n40, (H25.bump 18).cell i38 i39 = some (.int .u64 n40) ∧
 bif (decide (n37 > n40)) then (
 (
 AS.asAddr (.pointer c3) fun i41 i42 =>
 ∃ v43, (H25.bump 18).cell i41 i42 = some v43 ∧
 AS.asFn v43 fun f44 l45 l46 =>
 (∃ fn, en.fn f44 = some fn) ∧
 CA en f44 (l45 ++ [(.bool true)] ++ l46) (H25.bump 18) fun v47 H48 =>
 v47 = undef ∧
 R undef H48) ∧
 True)
 else (
 AS.asAddr (.pointer c0) fun i49 i50 =>
 ∃ a51, (H25.bump 18).cell i49 i50 = some (.pointer a51) ∧
 AS.asAddr (.pointer a51) fun i52 i53 =>
 ∃ n54, (H25.bump 18).cell i52 (i53 + 19) = some (.int .u64 n54) ∧
 AS.asAddr (.pointer c1) fun i55 i56 =>
 ∃ n57, (H25.bump 18).cell i55 i56 = some (.int .u64 n57) ∧
 bif (n54 == n57) then (
 AS.asAddr (.pointer c2) fun i58 i59 =>
 ∃ b60, (H25.bump 18).cell i58 i59 = some (.bool b60) ∧
 (
 bif (!b60) then (
 AS.asAddr (.pointer c3) fun i61 i62 =>
 ∃ v63, (H25.bump 18).cell i61 i62 = some v63 ∧
 AS.asFn v63 fun f64 l65 l66 =>
 (∃ fn, en.fn f64 = some fn) ∧
 CA en f64 (l65 ++ [(.bool true)] ++ l66) (H25.bump 18) fun v67 H68 =>
 v67 = undef ∧
 R undef H68)
 else (
 AS.asAddr (.pointer c0) fun i69 i70 =>
 ∃ a71, ((H25.bump 18).bump 9).cell i69 i70 = some (.pointer a71) ∧
 AS.asAddr (.pointer c0) fun i72 i73 =>
 ∃ a74, ((H25.bump 18).bump 9).cell i72 i73 = some (.pointer a74) ∧
 AS.asAddr (.pointer a74) fun i75 i76 =>
 ∃ n77, ((H25.bump 18).bump 9).cell i75 (i76 + 17) = some (.int .i64 n77) ∧
 AS.asAddr (.pointer a71) fun i78 i79 =>
 stc ((H25.bump 18).bump 9) i78 (i79 + 15) [(.int .i64 n77), (.int .i64 0)] fun H80 =>
 (
 AS.asAddr (.pointer c0) fun i81 i82 =>
 ∃ a83, H80.cell i81 i82 = some (.pointer a83) ∧
 AS.asAddr (.pointer c4) fun i84 i85 =>
 ∃ v86, H80.cell i84 i85 = some v86 ∧
 AS.asAddr (.pointer a83) fun i87 i88 =>
 AS.asCells v86 fun vs90 =>
 bif (Nat.beq vs90.length 1) then (
 stc H80 i87 (i88 + 7) vs90 fun H89 =>
 R undef H89)
 else False) ∧
 True)) ∧
 True)
 else (
 (
 AS.asAddr (.pointer c0) fun i91 i92 =>
 ∃ a93, ((H25.bump 18).bump 9).cell i91 i92 = some (.pointer a93) ∧
 AS.asAddr (.pointer c0) fun i94 i95 =>
 ∃ a96, ((H25.bump 18).bump 9).cell i94 i95 = some (.pointer a96) ∧
 AS.asAddr (.pointer a96) fun i97 i98 =>
 ∃ n99, ((H25.bump 18).bump 9).cell i97 (i98 + 17) = some (.int .i64 n99) ∧
 AS.asAddr (.pointer a93) fun i100 i101 =>
 stc ((H25.bump 18).bump 9) i100 (i101 + 15) [(.int .i64 n99), (.int .i64 0)] fun H102 =>
 (
 AS.asAddr (.pointer c0) fun i103 i104 =>
 ∃ a105, H102.cell i103 i104 = some (.pointer a105) ∧
 AS.asAddr (.pointer c4) fun i106 i107 =>
 ∃ v108, H102.cell i106 i107 = some v108 ∧
 AS.asAddr (.pointer a105) fun i109 i110 =>
 AS.asCells v108 fun vs112 =>
 bif (Nat.beq vs112.length 1) then (
 stc H102 i109 (i110 + 7) vs112 fun H111 =>
 R undef H111)
 else False) ∧
 True) ∧
 True))) ∧
 ((AS.asAddr (.pointer c0) fun i29 i30 =>
 ∃ a31, (H.bump 19).cell i29 i30 = some (.pointer a31) ∧
 a3 = a31) ∧ (AS.asAddr (.pointer c0) fun i26 i27 =>
 ∃ a28, H20.cell i26 i27 = some (.pointer a28) ∧
 a3 = a28) ∧ True) ∧
 True) →
    CA en F.hash_Run_seek_1 [(.pointer c0), (.pointer c1), (.pointer c2), (.pointer c3), (.pointer c4)] H R := by
  intro h
  refine wpFn_ok (Z := []) (fn := Go.Proofs.Tryz.f125) ?_ ?_ ?_
  · kernel_rfl
  · kernel_rfl
  · apply turnInto h
    kernel_rfl


/-! hash_Run_seek_2 -/

theorem vc_hash_Run_seek_2 (c0 : Option Addr) (c1 : Option Addr) (c2 : Option Addr) (H : Heap) (R : Value → Heap → Prop) :
    (
 AS.asAddr (.pointer c0) fun i1 i2 =>
 ∃ a3, (H.bump 23).cell i1 i2 = some (.pointer a3) ∧
 AS.asAddr (.pointer a3) fun i4 i5 =>
 ∃ a6, (H.bump 23).cell i4 i5 = some (.pointer a6) ∧
 AS.asAddr (.pointer a6) fun i7 i8 =>
 ∃ a9, (H.bump 23).cell i7 i8 = some (.pointer a9) ∧
 AS.asAddr (.pointer c0) fun i10 i11 =>
 ∃ a12, (H.bump 23).cell i10 i11 = some (.pointer a12) ∧
 AS.asAddr (.pointer a12) fun i13 i14 =>
 ∃ n15, (H.bump 23).cell i13 (i14 + 15) = some (.int .i64 n15) ∧
 AS.asAddr (.pointer c0) fun i16 i17 =>
 ∃ a18, (H.bump 23).cell i16 i17 = some (.pointer a18) ∧
 AS.asAddr (.pointer a18) fun i19 i20 =>
 ∃ n21, (H.bump 23).cell i19 ((i20 + 15) + 1) = some (.int .i64 n21) ∧
 CA en F.smem_Mem_Load [(.pointer a9), (.int .i64 n15), (.int .i64 n21)] (H.bump 23) fun v22 H23 =>
 ∃ n24, ∃ b25, v22 = (.tuple #[(.int .u64 n24), (.bool b25)]) ∧
 (
 AS.asAddr (.pointer c0) fun i26 i27 =>
 ∃ a28, H23.cell i26 i27 = some (.pointer a28) ∧
 AS.asAddr (.pointer a28) fun i29 i30 =>
 stc H23 i29 (i30 + 17) [(.int .i64 (IntKind.i64.wrap n24))] fun H31 =>
 AS.asAddr (.pointer c0) fun i32 i33 =>
 ∃ a34, H31.cell i32 i33 = some (.pointer a34) ∧
 AS.asAddr (.pointer c1) fun i35 i36 =>
 ∃ v37, H31.cell i35 i36 = some v37 ∧
 AS.asAddr (.pointer a34) fun i38 i39 =>
 AS.asCells v37 fun vs41 =>
 bif (Nat.beq vs41.length 1) then (
 stc H31 i38 (i39 + 7) vs41 fun H40 =>
 AS.asAddr (.pointer c0) fun i42 i43 =>
 ∃ a44, H40.cell i42 i43 = some (.pointer a44) ∧
 AS.asAddr (.pointer a44) fun i45 i46 =>
 ∃ n47, H40.cell i45 (i46 + 17) = some (.int .i64 n47) ∧
 bif (n47 == 0) then (
 AS.asAddr (.pointer c2) fun i48 i49 =>
 ∃ v50, H40.cell i48 i49 = some v50 ∧
 AS.asFn v50 fun f51 l52 l53 =>
 (∃ fn, en.fn f51 = some fn) ∧
 CA en f51 (l52 ++ [(.bool false)] ++ l53) H40 fun v54 H55 =>
 v54 = undef ∧
 R undef H55)
 else (
 R undef H40))
 else False) ∧
 True) →
    CA en F.hash_Run_seek_2 [(.pointer c0), (.pointer c1), (.pointer c2)] H R := by
  intro h
  refine wpFn_ok (Z := []) (fn := Go.Proofs.Tryz.f126) ?_ ?_ ?_
  · kernel_rfl
  · kernel_rfl
  · apply turnInto h
    kernel_rfl


/-! hash_Run_none -/

theorem vc_hash_Run_none (x0 : Option Addr) (x1 : Int) (H : Heap) (R : Value → Heap → Prop) :
    (
 CA en F.hash_Run_end [(.pointer x0), (.agg #[(.int .i64 x1), (.slice none 0 0), (.int .u64 0), (.int .i64 0)])] H fun v1 H2 =>
 v1 = undef ∧
 R undef H2) →
    CA en F.hash_Run_none [(.pointer x0), (.int .i64 x1)] H R := by
  intro h
  refine wpFn_ok (Z := []) (fn := Go.Proofs.Tryz.f127) ?_ ?_ ?_
  · kernel_rfl
  · kernel_rfl
  · apply turnInto h
    kernel_rfl


/-! hash_Run_set -/

theorem vc_hash_Run_set (x0 : Option Addr) (H : Heap) (R : Value → Heap → Prop) :
    (
 AS.asAddr (.pointer x0) fun i1 i2 =>
 ∃ a3, (H.bump 16).cell i1 i2 = some (.pointer a3) ∧
 AS.asAddr (.pointer a3) fun i4 i5 =>
 ∃ a6, (H.bump 16).cell i4 i5 = some (.pointer a6) ∧
 AS.asAddr (.pointer x0) fun i7 i8 =>
 ∃ n9, (H.bump 16).cell i7 (i8 + 17) = some (.int .i64 n9) ∧
 AS.asAddr (.pointer x0) fun i10 i11 =>
 ∃ n12, (H.bump 16).cell i10 (i11 + 6) = some (.int .u64 n12) ∧
 CA en F.smem_Mem_Store [(.pointer a6), (.int .i64 n9), (.int .i64 2), (.int .u64 n12)] (H.bump 16) fun v13 H14 =>
 ∃ b15, v13 = (.bool b15) ∧
 (
 CA en F.hash_Run_end [(.pointer x0), (.agg #[(.int .i64 0), (.slice none 0 0), (.int .u64 0), (.int .i64 0)])] H14 fun v16 H17 =>
 v16 = undef ∧
 R undef H17) ∧
 True) →
    CA en F.hash_Run_set [(.pointer x0)] H R := by
  intro h
  refine wpFn_ok (Z := []) (fn := Go.Proofs.Tryz.f128) ?_ ?_ ?_
  · kernel_rfl
  · kernel_rfl
  · apply turnInto h
    kernel_rfl


/-! hash_Run_space -/

theorem vc_hash_Run_space (x0 : Option Addr) (H : Heap) (R : Value → Heap → Prop) :
    (
 AS.asAddr (.pointer x0) fun i1 i2 =>
 ∃ a3, (H.bump 20).cell i1 i2 = some (.pointer a3) ∧
 AS.asAddr (.pointer a3) fun i4 i5 =>
 ∃ a6, (H.bump 20).cell i4 i5 = some (.pointer a6) ∧
 AS.asAddr (.pointer x0) fun i7 i8 =>
 ∃ a9, (H.bump 20).cell i7 i8 = some (.pointer a9) ∧
 AS.asAddr (.pointer a9) fun i10 i11 =>
 ∃ n12, (H.bump 20).cell i10 (i11 + 7) = some (.int .i64 n12) ∧
 CA en F.smem_Mem_Load [(.pointer a6), (.int .i64 n12), (.int .i64 0)] (H.bump 20) fun v13 H14 =>
 ∃ n15, ∃ b16, v13 = (.tuple #[(.int .u64 n15), (.bool b16)]) ∧
 (
 AS.asAddr (.pointer x0) fun i17 i18 =>
 stc H14 i17 (i18 + 20) [(.int .u64 (IntKind.u64.wrap ((BitVec.ofInt 64 n15 &&& (BitVec.ofInt 64 4294967295)).toNat : Int)))] fun H19 =>
 AS.asAddr (.pointer x0) fun i20 i21 =>
 ∃ n22, (H19.bump 22).cell i20 (i21 + 20) = some (.int .u64 n22) ∧
 AS.asAddr (.pointer x0) fun i23 i24 =>
 ∃ a25, (H19.bump 22).cell i23 i24 = some (.pointer a25) ∧
 AS.asAddr (.pointer a25) fun i26 i27 =>
 ∃ n28, (H19.bump 22).cell i26 ((i27 + 2) + 1) = some (.int .i64 n28) ∧
 bif (decide (n22 < (IntKind.u64.wrap n28))) then (
 AS.asAddr (.pointer x0) fun i29 i30 =>
 ∃ n31, (H19.bump 22).cell i29 (i30 + 18) = some (.int .i64 n31) ∧
 (
 bif (n31 == 0) then (
 AS.asAddr (.pointer x0) fun i32 i33 =>
 stc (H19.bump 22) i32 (i33 + 7) [(.func (.func F.hash_Run_make) #[(.pointer x0)] #[])] fun H34 =>
 R undef H34)
 else (
 AS.asAddr (.pointer x0) fun i35 i36 =>
 ∃ n37, ((H19.bump 22).bump 15).cell i35 (i36 + 20) = some (.int .u64 n37) ∧
 AS.asAddr (.pointer x0) fun i38 i39 =>
 ∃ a40, ((H19.bump 22).bump 15).cell i38 i39 = some (.pointer a40) ∧
 AS.asAddr (.pointer a40) fun i41 i42 =>
 ∃ n43, ((H19.bump 22).bump 15).cell i41 ((i42 + 2) + 1) = some (.int .i64 n43) ∧
 (
 bif (decide (n37 < (IntKind.u64.wrap n43))) then (
 AS.asAddr (.pointer x0) fun i44 i45 =>
 stc ((H19.bump 22).bump 15) i44 (i45 + 7) [(.func (.func F.hash_Run_add) #[(.pointer x0)] #[])] fun H46 =>
 R undef H46)
 else (
 nn 32 ∧
 bif ((Int.fdiv n15 4294967296) == 0) then (
 AS.asAddr (.pointer x0) fun i47 i48 =>
 ∃ n49, ((H19.bump 22).bump 15).cell i47 (i48 + 18) = some (.int .i64 n49) ∧
 bif (decide (n49 > 0)) then (
 AS.asAddr (.pointer x0) fun i50 i51 =>
 ∃ a52, (((H19.bump 22).bump 15).bump 12).cell i50 i51 = some (.pointer a52) ∧
 AS.asAddr (.pointer a52) fun i53 i54 =>
 ∃ a55, (((H19.bump 22).bump 15).bump 12).cell i53 i54 = some (.pointer a55) ∧
 AS.asAddr (.pointer x0) fun i56 i57 =>
 ∃ n58, (((H19.bump 22).bump 15).bump 12).cell i56 (i57 + 18) = some (.int .i64 n58) ∧
 CA en F.smem_Mem_Free [(.pointer a55), (.int .i64 n58)] (((H19.bump 22).bump 15).bump 12) fun v59 H60 =>
 ∃ b61, v59 = (.bool b61) ∧
 (
 CA en F.hash_Run_none [(.pointer x0), (.int .i64 4)] H60 fun v62 H63 =>
 v62 = undef ∧
 R undef H63) ∧
 True)
 else (
 CA en F.hash_Run_none [(.pointer x0), (.int .i64 4)] ((H19.bump 22).bump 15) fun v64 H65 =>
 v64 = undef ∧
 R undef H65))
 else (
 R undef ((H19.bump 22).bump 15)))) ∧
 True)) ∧
 True)
 else (
 (
 AS.asAddr (.pointer x0) fun i66 i67 =>
 ∃ n68, ((H19.bump 22).bump 15).cell i66 (i67 + 20) = some (.int .u64 n68) ∧
 AS.asAddr (.pointer x0) fun i69 i70 =>
 ∃ a71, ((H19.bump 22).bump 15).cell i69 i70 = some (.pointer a71) ∧
 AS.asAddr (.pointer a71) fun i72 i73 =>
 ∃ n74, ((H19.bump 22).bump 15).cell i72 ((i73 + 2) + 1) = some (.int .i64 n74) ∧
 (
 bif (decide (n68 < (IntKind.u64.wrap n74))) then (
 AS.asAddr (.pointer x0) fun i75 i76 =>
 stc ((H19.bump 22).bump 15) i75 (i76 + 7) [(.func (.func F.hash_Run_add) #[(.pointer x0)] #[])] fun H77 =>
 R undef H77)
 else (
 nn 32 ∧
 bif ((Int.fdiv n15 4294967296) == 0) then (
 AS.asAddr (.pointer x0) fun i78 i79 =>
 ∃ n80, ((H19.bump 22).bump 15).cell i78 (i79 + 18) = some (.int .i64 n80) ∧
 bif (decide (n80 > 0)) then (
 AS.asAddr (.pointer x0) fun i81 i82 =>
 ∃ a83, (((H19.bump 22).bump 15).bump 12).cell i81 i82 = some (.pointer a83) ∧
 AS.asAddr (.pointer a83) fun i84 i85 =>
 ∃ a86, (((H19.bump 22).bump 15).bump 12).cell i84 i85 = some (.pointer a86) ∧
 AS.asAddr (.pointer x0) fun i87 i88 =>
 ∃ n89, (((H19.bump 22).bump 15).bump 12).cell i87 (i88 + 18) = some (.int .i64 n89) ∧
 CA en F.smem_Mem_Free [(.pointer a86), (.int .i64 n89)] (((H19.bump 22).bump 15).bump 12) fun v90 H91 =>
 ∃ b92, v90 = (.bool b92) ∧
 (
 CA en F.hash_Run_none [(.pointer x0), (.int .i64 4)] H91 fun v93 H94 =>
 v93 = undef ∧
 R undef H94) ∧
 True)
 else (
 CA en F.hash_Run_none [(.pointer x0), (.int .i64 4)] ((H19.bump 22).bump 15) fun v95 H96 =>
 v95 = undef ∧
 R undef H96))
 else (
 R undef ((H19.bump 22).bump 15)))) ∧
 True) ∧
 True)) ∧
 True) →
    CA en F.hash_Run_space [(.pointer x0)] H R := by
  intro h
  refine wpFn_ok (Z := []) (fn := Go.Proofs.Tryz.f129) ?_ ?_ ?_
  · kernel_rfl
  · kernel_rfl
  · apply turnInto h
    kernel_rfl


/-! hash_Run_look -/

theorem vc_hash_Run_look (x0 : Option Addr) (H : Heap) (R : Value → Heap → Prop) :
    (
 AS.asAddr (.pointer x0) fun i1 i2 =>
 ∃ a3, (H.bump 17).cell i1 i2 = some (.pointer a3) ∧
 AS.asAddr (.pointer a3) fun i4 i5 =>
 ∃ a6, (H.bump 17).cell i4 i5 = some (.pointer a6) ∧
 AS.asAddr (.pointer x0) fun i7 i8 =>
 ∃ n9, (H.bump 17).cell i7 (i8 + 17) = some (.int .i64 n9) ∧
 CA en F.smem_Mem_Load [(.pointer a6), (.int .i64 n9), (.int .i64 2)] (H.bump 17) fun v10 H11 =>
 ∃ n12, ∃ b13, v10 = (.tuple #[(.int .u64 n12), (.bool b13)]) ∧
 (
 AS.asAddr (.pointer x0) fun i14 i15 =>
 ∃ a16, (H11.bump 12).cell i14 i15 = some (.pointer a16) ∧
 AS.asAddr (.pointer x0) fun i17 i18 =>
 ∃ n19, (H11.bump 12).cell i17 (i18 + 17) = some (.int .i64 n19) ∧
 CA en F.hash_Map_found [(.pointer a16), (.int .u64 n12), (.int .i64 n19)] (H11.bump 12) fun v20 H21 =>
 ∃ n22, ∃ a23 i24, ∃ n25, ∃ n26, v20 = (.agg #[(.int .i64 n22), (.slice a23 i24 0), (.int .u64 n25), (.int .i64 n26)]) ∧
 CA en F.hash_Run_end [(.pointer x0), (.agg #[(.int .i64 n22), (.slice a23 i24 0), (.int .u64 n25), (.int .i64 n26)])] H21 fun v27 H28 =>
 v27 = undef ∧
 (
 R undef H28) ∧
 True) ∧
 True) →
    CA en F.hash_Run_look [(.pointer x0)] H R := by
  intro h
  refine wpFn_ok (Z := []) (fn := Go.Proofs.Tryz.f130) ?_ ?_ ?_
  · kernel_rfl
  · kernel_rfl
  · apply turnInto h
    kernel_rfl


/-! hash_Run_drop -/

theorem vc_hash_Run_drop (x0 : Option Addr) (H : Heap) (R : Value → Heap → Prop) :
    (
 nwH H (.cells true 0 [(.pointer x0)]) fun i1 H2 =>
 ∃ a3, H2.cell i1 0 = some (.pointer a3) ∧
 CA en F.hash_Run_change [(.pointer a3), (.func (.func F.hash_Run_drop_1) #[] #[(.pointer (some ⟨i1, 0, none⟩))])] H2 fun v4 H5 =>
 ∃ v6, v4 = v6 ∧
 AS.asFn v6 fun f7 l8 l9 =>
 (∃ fn, en.fn f7 = some fn) ∧
 CA en f7 (l8 ++ [] ++ l9) H5 fun v10 H11 =>
 v10 = undef ∧
 R undef H11) →
    CA en F.hash_Run_drop [(.pointer x0)] H R := by
  intro h
  refine wpFn_ok (Z := []) (fn := Go.Proofs.Tryz.f131) ?_ ?_ ?_
  · kernel_rfl
  · kernel_rfl
  · apply turnInto h
    kernel_rfl


/-! hash_Run_take -/

theorem vc_hash_Run_take (x0 : Option Addr) (H : Heap) (R : Value → Heap → Prop) :
    (
 CA en F.hash_Run_taking [(.pointer x0), (.func (.func F.hash_Run_away) #[(.pointer x0)] #[])] H fun v1 H2 =>
 v1 = undef ∧
 R undef H2) →
    CA en F.hash_Run_take [(.pointer x0)] H R := by
  intro h
  refine wpFn_ok (Z := []) (fn := Go.Proofs.Tryz.f132) ?_ ?_ ?_
  · kernel_rfl
  · kernel_rfl
  · apply turnInto h
    kernel_rfl


/-! hash_Run_search_1 -/

theorem vc_hash_Run_search_1 (c0 : Option Addr) (H : Heap) (R : Value → Heap → Prop) :
    (
 AS.asAddr (.pointer c0) fun i1 i2 =>
 ∃ a3, H.cell i1 i2 = some (.pointer a3) ∧
 CA en F.hash_Run_still [(.pointer a3), (.agg #[(.int .i64 2), (.slice none 0 0), (.int .u64 0), (.int .i64 0)]), (.func (.func F.hash_Run_search_1_1) #[] #[(.pointer c0)])] H fun v4 H5 =>
 v4 = undef ∧
 R undef H5) →
    CA en F.hash_Run_search_1 [(.pointer c0)] H R := by
  intro h
  refine wpFn_ok (Z := []) (fn := Go.Proofs.Tryz.f170) ?_ ?_ ?_
  · kernel_rfl
  · kernel_rfl
  · apply turnInto h
    kernel_rfl


/-! hash_Run_still -/

theorem vc_hash_Run_still (x0 : Option Addr) (x1_0 : Int) (x1_1 : Option Addr) (x1_1l : Nat) (x1_2 : Int) (x1_3 : Int) (x2 : Nat) (x2l : List Value) (x2c : List Value) (H : Heap) (R : Value → Heap → Prop) :
    (
 nwH H (.cells true 0 [(.pointer x0)]) fun i1 H2 =>
 nwH H2 (.cells true 0 [(.int .i64 x1_0), (.slice x1_1 x1_1l 0), (.int .u64 x1_2), (.int .i64 x1_3)]) fun i3 H4 =>
 ∃ a5, (H4.bump 20).cell i1 0 = some (.pointer a5) ∧
 AS.asAddr (.pointer a5) fun i6 i7 =>
 ∃ a8, (H4.bump 20).cell i6 i7 = some (.pointer a8) ∧
 AS.asAddr (.pointer a8) fun i9 i10 =>
 ∃ a11, (H4.bump 20).cell i9 i10 = some (.pointer a11) ∧
 ∃ a12, (H4.bump 20).cell i1 0 = some (.pointer a12) ∧
 AS.asAddr (.pointer a12) fun i13 i14 =>
 ∃ a15, (H4.bump 20).cell i13 i14 = some (.pointer a15) ∧
 AS.asAddr (.pointer a15) fun i16 i17 =>
 ∃ n18, (H4.bump 20).cell i16 (i17 + 7) = some (.int .i64 n18) ∧
 CA en F.smem_Mem_Load [(.pointer a11), (.int .i64 n18), (.int .i64 1)] (H4.bump 20) fun v19 H20 =>
 ∃ n21, ∃ b22, v19 = (.tuple #[(.int .u64 n21), (.bool b22)]) ∧
 (
 ∃ a23, H20.cell i1 0 = some (.pointer a23) ∧
 AS.asAddr (.pointer a23) fun i24 i25 =>
 ∃ n26, H20.cell i24 (i25 + 20) = some (.int .u64 n26) ∧
 bif (n21 == n26) then (
 ∃ a27, H20.cell i1 0 = some (.pointer a27) ∧
 ∃ n28, ∃ a29 i30, ∃ n31, ∃ n32, H20.cellsAt i3 0 4 = some [(.int .i64 n28), (.slice a29 i30 0), (.int .u64 n31), (.int .i64 n32)] ∧
 CA en F.hash_Run_give [(.pointer a27), (.agg #[(.int .i64 n28), (.slice a29 i30 0), (.int .u64 n31), (.int .i64 n32)])] H20 fun v33 H34 =>
 v33 = undef ∧
 AS.asFn (.func (.func x2) ⟨x2l⟩ ⟨x2c⟩) fun f35 l36 l37 =>
 (∃ fn, en.fn f35 = some fn) ∧
 CA en f35 (l36 ++ [] ++ l37) H34 fun v38 H39 =>
 v38 = undef ∧
 R undef H39)
 else (
 ∃ n40, H20.cell i3 0 = some (.int .i64 n40) ∧
 bif (n40 == 0) then (
 ∃ a41, H20.cell i1 0 = some (.pointer a41) ∧
 AS.asAddr (.pointer a41) fun i42 i43 =>
 stc H20 i42 (i43 + 7) [(.func (.func F.hash_Run_still_1) #[] #[(.pointer (some ⟨i1, 0, none⟩))])] fun H44 =>
 R undef H44)
 else (
 ∃ a45, H20.cell i1 0 = some (.pointer a45) ∧
 ∃ a46, H20.cell i1 0 = some (.pointer a46) ∧
 AS.asAddr (.pointer a45) fun i47 i48 =>
 stc H20 i47 (i48 + 7) [(.func (.func F.hash_Run_begin) #[(.pointer a46)] #[])] fun H49 =>
 R undef H49))) ∧
 True) →
    CA en F.hash_Run_still [(.pointer x0), (.agg #[(.int .i64 x1_0), (.slice x1_1 x1_1l 0), (.int .u64 x1_2), (.int .i64 x1_3)]), (.func (.func x2) ⟨x2l⟩ ⟨x2c⟩)] H R := by
  intro h
  refine wpFn_ok (Z := []) (fn := Go.Proofs.Tryz.f171) ?_ ?_ ?_
  · kernel_rfl
  · kernel_rfl
  · apply turnInto h
    kernel_rfl


/-! hash_Run_search_1_1 -/

theorem vc_hash_Run_search_1_1 (c0 : Option Addr) (H : Heap) (R : Value → Heap → Prop) :
    (
 AS.asAddr (.pointer c0) fun i1 i2 =>
 ∃ a3, H.cell i1 i2 = some (.pointer a3) ∧
 AS.asAddr (.pointer a3) fun i4 i5 =>
 stc H i4 (i5 + 9) [(.bool true)] fun H6 =>
 R undef H6) →
    CA en F.hash_Run_search_1_1 [(.pointer c0)] H R := by
  intro h
  refine wpFn_ok (Z := []) (fn := Go.Proofs.Tryz.f172) ?_ ?_ ?_
  · kernel_rfl
  · kernel_rfl
  · apply turnInto h
    kernel_rfl


/-! hash_Run_search_2 -/

theorem vc_hash_Run_search_2 (c0 : Option Addr) (c1 : Option Addr) (c2 : Option Addr) (c3 : Option Addr) (H : Heap) (R : Value → Heap → Prop) :
    (
 AS.asAddr (.pointer c0) fun i1 i2 =>
 ∃ a3, H.cell i1 i2 = some (.pointer a3) ∧
 AS.asAddr (.pointer c1) fun i4 i5 =>
 ∃ n6, H.cell i4 i5 = some (.int .u64 n6) ∧
 AS.asAddr (.pointer c2) fun i7 i8 =>
 ∃ b9, H.cell i7 i8 = some (.bool b9) ∧
 CA en F.hash_Run_seek [(.pointer a3), (.int .u64 n6), (.bool b9), (.func (.func F.hash_Run_search_2_1) #[] #[(.pointer c0), (.pointer c3)])] H fun v10 H11 =>
 v10 = undef ∧
 AS.asAddr (.pointer c0) fun i12 i13 =>
 ∃ a14, H11.cell i12 i13 = some (.pointer a14) ∧
 AS.asAddr (.pointer a14) fun i15 i16 =>
 ∃ v17, H11.cell i15 (i16 + 7) = some v17 ∧
 AS.asFn v17 fun f18 l19 l20 =>
 (∃ fn, en.fn f18 = some fn) ∧
 CA en f18 (l19 ++ [] ++ l20) H11 fun v21 H22 =>
 v21 = undef ∧
 R undef H22) →
    CA en F.hash_Run_search_2 [(.pointer c0), (.pointer c1), (.pointer c2), (.pointer c3)] H R := by
  intro h
  refine wpFn_ok (Z := []) (fn := Go.Proofs.Tryz.f173) ?_ ?_ ?_
  · kernel_rfl
  · kernel_rfl
  · apply turnInto h
    kernel_rfl


/-! hash_Run_search_2_1 -/

theorem vc_hash_Run_search_2_1 (x0 : Bool) (c0 : Option Addr) (c1 : Option Addr) (H : Heap) (R : Value → Heap → Prop) :
    (
 bif (!x0) then (
 AS.asAddr (.pointer c0) fun i1 i2 =>
 ∃ a3, H.cell i1 i2 = some (.pointer a3) ∧
 AS.asAddr (.pointer a3) fun i4 i5 =>
 stc H i4 (i5 + 7) [(.func (.func F.hash_Run_search_2_1_1) #[] #[(.pointer c0), (.pointer c1)])] fun H6 =>
 R undef H6)
 else (
 AS.asAddr (.pointer c0) fun i7 i8 =>
 ∃ a9, H.cell i7 i8 = some (.pointer a9) ∧
 AS.asAddr (.pointer a9) fun i10 i11 =>
 stc H i10 (i11 + 7) [(.func (.func F.hash_Run_search_2_1_2) #[] #[(.pointer c0)])] fun H12 =>
 R undef H12)) →
    CA en F.hash_Run_search_2_1 [(.bool x0), (.pointer c0), (.pointer c1)] H R := by
  intro h
  refine wpFn_ok (Z := []) (fn := Go.Proofs.Tryz.f174) ?_ ?_ ?_
  · kernel_rfl
  · kernel_rfl
  · apply turnInto h
    kernel_rfl


/-! hash_Run_search_2_1_1 -/

theorem vc_hash_Run_search_2_1_1 (c0 : Option Addr) (c1 : Option Addr) (H : Heap) (R : Value → Heap → Prop) :
    (
 AS.asAddr (.pointer c0) fun i1 i2 =>
 ∃ a3, H.cell i1 i2 = some (.pointer a3) ∧
 CA en F.hash_Run_free [(.pointer a3), (.func (.func F.hash_Run_search_2_1_1_1) #[] #[(.pointer c0), (.pointer c1)])] H fun v4 H5 =>
 v4 = undef ∧
 R undef H5) →
    CA en F.hash_Run_search_2_1_1 [(.pointer c0), (.pointer c1)] H R := by
  intro h
  refine wpFn_ok (Z := []) (fn := Go.Proofs.Tryz.f175) ?_ ?_ ?_
  · kernel_rfl
  · kernel_rfl
  · apply turnInto h
    kernel_rfl


/-! hash_Run_free -/

theorem vc_hash_Run_free (x0 : Option Addr) (x1 : Nat) (x1l : List Value) (x1c : List Value) (H : Heap) (R : Value → Heap → Prop) :
    (
 AS.asAddr (.pointer x0) fun i1 i2 =>
 ∃ a3, (H.bump 24).cell i1 i2 = some (.pointer a3) ∧
 AS.asAddr (.pointer a3) fun i4 i5 =>
 ∃ a6, (H.bump 24).cell i4 i5 = some (.pointer a6) ∧
 AS.asAddr (.pointer x0) fun i7 i8 =>
 ∃ a9, (H.bump 24).cell i7 i8 = some (.pointer a9) ∧
 AS.asAddr (.pointer a9) fun i10 i11 =>
 ∃ n12, (H.bump 24).cell i10 (i11 + 7) = some (.int .i64 n12) ∧
 AS.asAddr (.pointer x0) fun i13 i14 =>
 ∃ a15, (H.bump 24).cell i13 i14 = some (.pointer a15) ∧
 AS.asAddr (.pointer x0) fun i16 i17 =>
 ∃ n18, (H.bump 24).cell i16 (i17 + 14) = some (.int .i64 n18) ∧
 CA en F.hash_Map_lockAt [(.pointer a15), (.int .i64 n18)] (H.bump 24) fun v19 H20 =>
 ∃ n21, v19 = (.int .i64 n21) ∧
 CA en F.lock_Drop [(.pointer a6), (.int .i64 n12), (.int .i64 n21)] H20 fun v22 H23 =>
 ∃ b24, v22 = (.bool b24) ∧
 (
 AS.asFn (.func (.func x1) ⟨x1l⟩ ⟨x1c⟩) fun f33 l34 l35 =>
 (∃ fn, en.fn f33 = some fn) ∧
 CA en f33 (l34 ++ [] ++ l35) H23 fun v36 H37 =>
 v36 = undef ∧
 R undef H37) ∧
 ((∃ n26, (H.bump 24).cell i10 (i11 + 7) = some (.int .i64 n26) ∧
 n12 = n26) ∧ (∃ n25, H20.cell i10 (i11 + 7) = some (.int .i64 n25) ∧
 n12 = n25) ∧ True) ∧
 ((∃ a28, (H.bump 24).cell i7 i8 = some (.pointer a28) ∧
 a9 = a28) ∧ (∃ a27, H20.cell i7 i8 = some (.pointer a27) ∧
 a9 = a27) ∧ True) ∧
 ((∃ a30, (H.bump 24).cell i4 i5 = some (.pointer a30) ∧
 a6 = a30) ∧ (∃ a29, H20.cell i4 i5 = some (.pointer a29) ∧
 a6 = a29) ∧ True) ∧
 ((∃ a32, (H.bump 24).cell i1 i2 = some (.pointer a32) ∧
 a3 = a32) ∧ (∃ a31, H20.cell i1 i2 = some (.pointer a31) ∧
 a3 = a31) ∧ True) ∧
 True) →
    CA en F.hash_Run_free [(.pointer x0), (.func (.func x1) ⟨x1l⟩ ⟨x1c⟩)] H R := by
  intro h
  refine wpFn_ok (Z := []) (fn := Go.Proofs.Tryz.f176) ?_ ?_ ?_
  · kernel_rfl
  · kernel_rfl
  · apply turnInto h
    kernel_rfl


/-! hash_Run_search_2_1_1_1 -/

theorem vc_hash_Run_search_2_1_1_1 (c0 : Option Addr) (c1 : Option Addr) (H : Heap) (R : Value → Heap → Prop) :
    (
 AS.asAddr (.pointer c0) fun i1 i2 =>
 ∃ a3, H.cell i1 i2 = some (.pointer a3) ∧
 AS.asAddr (.pointer c1) fun i4 i5 =>
 ∃ n6, H.cell i4 i5 = some (.int .i64 n6) ∧
 CA en F.hash_Run_search [(.pointer a3), (.int .i64 (IntKind.i64.wrap (n6 + 1))), (.bool false)] H fun v7 H8 =>
 v7 = undef ∧
 R undef H8) →
    CA en F.hash_Run_search_2_1_1_1 [(.pointer c0), (.pointer c1)] H R := by
  intro h
  refine wpFn_ok (Z := []) (fn := Go.Proofs.Tryz.f177) ?_ ?_ ?_
  · kernel_rfl
  · kernel_rfl
  · apply turnInto h
    kernel_rfl


/-! hash_Run_search_2_1_2 -/

theorem vc_hash_Run_search_2_1_2 (c0 : Option Addr) (H : Heap) (R : Value → Heap → Prop) :
    (
 AS.asAddr (.pointer c0) fun i1 i2 =>
 ∃ a3, (H.bump 9).cell i1 i2 = some (.pointer a3) ∧
 AS.asAddr (.pointer c0) fun i4 i5 =>
 ∃ a6, (H.bump 9).cell i4 i5 = some (.pointer a6) ∧
 AS.asAddr (.pointer a6) fun i7 i8 =>
 ∃ n9, (H.bump 9).cell i7 (i8 + 19) = some (.int .u64 n9) ∧
 AS.asAddr (.pointer c0) fun i10 i11 =>
 ∃ a12, (H.bump 9).cell i10 i11 = some (.pointer a12) ∧
 CA en F.hash_Run_still [(.pointer a3), (.agg #[(.int .i64 0), (.slice none 0 0), (.int .u64 n9), (.int .i64 0)]), (.func (.func F.hash_Run_away) #[(.pointer a12)] #[])] (H.bump 9) fun v13 H14 =>
 v13 = undef ∧
 (
 R undef H14) ∧
 True) →
    CA en F.hash_Run_search_2_1_2 [(.pointer c0)] H R := by
  intro h
  refine wpFn_ok (Z := []) (fn := Go.Proofs.Tryz.f178) ?_ ?_ ?_
  · kernel_rfl
  · kernel_rfl
  · apply turnInto h
    kernel_rfl


/-! hash_Run_away -/

theorem vc_hash_Run_away (x0 : Option Addr) (H : Heap) (R : Value → Heap → Prop) :
    (
 AS.asAddr (.pointer x0) fun i1 i2 =>
 stc H i1 (i2 + 7) [(.func (.func F.hash_Run_leave) #[(.pointer x0)] #[])] fun H3 =>
 R undef H3) →
    CA en F.hash_Run_away [(.pointer x0)] H R := by
  intro h
  refine wpFn_ok (Z := []) (fn := Go.Proofs.Tryz.f179) ?_ ?_ ?_
  · kernel_rfl
  · kernel_rfl
  · apply turnInto h
    kernel_rfl


/-! hash_Run_end -/

theorem vc_hash_Run_end (x0 : Option Addr) (x1_0 : Int) (x1_1 : Option Addr) (x1_1l : Nat) (x1_2 : Int) (x1_3 : Int) (H : Heap) (R : Value → Heap → Prop) :
    (
 nwH H (.cells true 0 [(.int .i64 x1_0), (.slice x1_1 x1_1l 0), (.int .u64 x1_2), (.int .i64 x1_3)]) fun i1 H2 =>
 ∃ n3, ∃ a4 i5, ∃ n6, ∃ n7, H2.cellsAt i1 0 4 = some [(.int .i64 n3), (.slice a4 i5 0), (.int .u64 n6), (.int .i64 n7)] ∧
 CA en F.hash_Run_give [(.pointer x0), (.agg #[(.int .i64 n3), (.slice a4 i5 0), (.int .u64 n6), (.int .i64 n7)])] H2 fun v8 H9 =>
 v8 = undef ∧
 AS.asAddr (.pointer x0) fun i10 i11 =>
 stc H9 i10 (i11 + 7) [(.func (.func F.hash_Run_leave) #[(.pointer x0)] #[])] fun H12 =>
 R undef H12) →
    CA en F.hash_Run_end [(.pointer x0), (.agg #[(.int .i64 x1_0), (.slice x1_1 x1_1l 0), (.int .u64 x1_2), (.int .i64 x1_3)])] H R := by
  intro h
  refine wpFn_ok (Z := []) (fn := Go.Proofs.Tryz.f181) ?_ ?_ ?_
  · kernel_rfl
  · kernel_rfl
  · apply turnInto h
    kernel_rfl


/-! hash_Run_make -/

theorem vc_hash_Run_make (x0 : Option Addr) (H : Heap) (R : Value → Heap → Prop) :
    (
 nwH H (.cells true 0 [(.pointer x0)]) fun i1 H2 =>
 ∃ a3, H2.cell i1 0 = some (.pointer a3) ∧
 AS.asAddr (.pointer a3) fun i4 i5 =>
 ∃ a6, H2.cell i4 i5 = some (.pointer a6) ∧
 AS.asAddr (.pointer a6) fun i7 i8 =>
 ∃ a9, H2.cell i7 i8 = some (.pointer a9) ∧
 CA en F.smem_Mem_Make [(.pointer a9), (.int .i64 3)] H2 fun v10 H11 =>
 ∃ n12, ∃ n13, v10 = (.tuple #[(.int .i64 n12), (.int .i64 n13)]) ∧
 nwH H11 (.cells true 0 [(.int .i64 0)]) fun i14 H15 =>
 stc H15 i14 0 [(.int .i64 n12)] fun H16 =>
 bif (n13 != 0) then (
 ∃ a17, H16.cell i1 0 = some (.pointer a17) ∧
 CA en F.hash_Run_none [(.pointer a17), (.int .i64 5)] H16 fun v18 H19 =>
 v18 = undef ∧
 R undef H19)
 else (
 ∃ a20, H16.cell i1 0 = some (.pointer a20) ∧
 ∃ n21, H16.cell i14 0 = some (.int .i64 n21) ∧
 AS.asAddr (.pointer a20) fun i22 i23 =>
 stc H16 i22 (i23 + 18) [(.int .i64 n21)] fun H24 =>
 ∃ a25, ((H24.bump 17).set (H24.next + 15) (.cells true 0 [(.slice none 0 0)])).cell i1 0 = some (.pointer a25) ∧
 AS.asAddr (.pointer a25) fun i26 i27 =>
 ∃ n28, ((H24.bump 17).set (H24.next + 15) (.cells true 0 [(.slice none 0 0)])).cell i26 (i27 + 17) = some (.int .i64 n28) ∧
 ∃ a29, ((H24.bump 17).set (H24.next + 15) (.cells true 0 [(.slice none 0 0)])).cell i1 0 = some (.pointer a29) ∧
 AS.asAddr (.pointer a29) fun i30 i31 =>
 ∃ n32, ((H24.bump 17).set (H24.next + 15) (.cells true 0 [(.slice none 0 0)])).cell i30 ((i31 + 1) + 1) = some (.int .u64 n32) ∧
 ∃ a33, ((H24.bump 17).set (H24.next + 15) (.cells true 0 [(.slice none 0 0)])).cell i1 0 = some (.pointer a33) ∧
 AS.asAddr (.pointer a33) fun i34 i35 =>
 ∃ n36, ((H24.bump 17).set (H24.next + 15) (.cells true 0 [(.slice none 0 0)])).cell i34 (i35 + 6) = some (.int .u64 n36) ∧
 nwH ((H24.bump 17).set (H24.next + 15) (.cells true 0 [(.slice none 0 0)])) (.cells true 1 [(.int .u64 (IntKind.u64.wrap n28)), (.int .u64 n32), (.int .u64 n36)]) fun i37 H38 =>
 stc H38 (H24.next + 15) 0 [(.slice (some ⟨i37, 0, none⟩) 3 0)] fun H39 =>
 (
 ∃ a42, H39.cell i1 0 = some (.pointer a42) ∧
 AS.asAddr (.pointer a42) fun i43 i44 =>
 stc H39 i43 (i44 + 7) [(.func (.func F.hash_Run_make_1) #[] #[(.pointer (some ⟨(H24.next + 15), 0, none⟩)), (.pointer (some ⟨i1, 0, none⟩)), (.pointer (some ⟨i14, 0, none⟩))])] fun H45 =>
 R undef H45) ∧
 ((∃ c41, ((H24.bump 17).set (H24.next + 15) (.cells true 0 [(.slice none 0 0)])).get (H24.next + 15) = some (.cells true 0 c41) ∧ sameN.sameL 8 [(.slice none 0 0)] c41 = true) ∧ (∃ c40, H38.get (H24.next + 15) = some (.cells true 0 c40) ∧ sameN.sameL 8 [(.slice none 0 0)] c40 = true) ∧ True) ∧
 True)) →
    CA en F.hash_Run_make [(.pointer x0)] H R := by
  intro h
  refine wpFn_ok (Z := []) (fn := Go.Proofs.Tryz.f182) ?_ ?_ ?_
  · kernel_rfl
  · kernel_rfl
  · apply turnInto h
    kernel_rfl


/-! hash_Run_add -/

theorem vc_hash_Run_add (x0 : Option Addr) (H : Heap) (R : Value → Heap → Prop) :
    (
 nwH H (.cells true 0 [(.pointer x0)]) fun i1 H2 =>
 ∃ a3, (H2.bump 29).cell i1 0 = some (.pointer a3) ∧
 AS.asAddr (.pointer a3) fun i4 i5 =>
 ∃ a6, (H2.bump 29).cell i4 i5 = some (.pointer a6) ∧
 AS.asAddr (.pointer a6) fun i7 i8 =>
 ∃ a9, (H2.bump 29).cell i7 i8 = some (.pointer a9) ∧
 ∃ a10, (H2.bump 29).cell i1 0 = some (.pointer a10) ∧
 AS.asAddr (.pointer a10) fun i11 i12 =>
 ∃ a13, (H2.bump 29).cell i11 i12 = some (.pointer a13) ∧
 AS.asAddr (.pointer a13) fun i14 i15 =>
 ∃ n16, (H2.bump 29).cell i14 (i15 + 7) = some (.int .i64 n16) ∧
 ∃ a17, (H2.bump 29).cell i1 0 = some (.pointer a17) ∧
 AS.asAddr (.pointer a17) fun i18 i19 =>
 ∃ n20, (H2.bump 29).cell i18 (i19 + 20) = some (.int .u64 n20) ∧
 ∃ a21, (H2.bump 29).cell i1 0 = some (.pointer a21) ∧
 AS.asAddr (.pointer a21) fun i22 i23 =>
 ∃ n24, (H2.bump 29).cell i22 (i23 + 20) = some (.int .u64 n24) ∧
 CA en F.smem_Mem_Cas [(.pointer a9), (.int .i64 n16), (.int .i64 0), (.int .u64 4294967295), (.int .u64 n20), (.int .u64 (IntKind.u64.wrap (n24 + 1)))] (H2.bump 29) fun v25 H26 =>
 ∃ n27, ∃ b28, v25 = (.tuple #[(.int .u64 n27), (.bool b28)]) ∧
 (
 ∃ a29, H26.cell i1 0 = some (.pointer a29) ∧
 AS.asAddr (.pointer a29) fun i30 i31 =>
 ∃ n32, H26.cell i30 (i31 + 20) = some (.int .u64 n32) ∧
 bif ((IntKind.u64.wrap ((BitVec.ofInt 64 n27 &&& (BitVec.ofInt 64 4294967295)).toNat : Int)) != n32) then (
 ∃ a33, H26.cell i1 0 = some (.pointer a33) ∧
 ∃ a34, H26.cell i1 0 = some (.pointer a34) ∧
 AS.asAddr (.pointer a33) fun i35 i36 =>
 stc H26 i35 (i36 + 7) [(.func (.func F.hash_Run_space) #[(.pointer a34)] #[])] fun H37 =>
 R undef H37)
 else (
 ∃ a38, H26.cell i1 0 = some (.pointer a38) ∧
 CA en F.hash_Run_give [(.pointer a38), (.agg #[(.int .i64 0), (.slice none 0 0), (.int .u64 0), (.int .i64 0)])] H26 fun v39 H40 =>
 v39 = undef ∧
 ∃ a41, H40.cell i1 0 = some (.pointer a41) ∧
 AS.asAddr (.pointer a41) fun i42 i43 =>
 stc H40 i42 (i43 + 7) [(.func (.func F.hash_Run_add_1) #[] #[(.pointer (some ⟨i1, 0, none⟩))])] fun H44 =>
 R undef H44)) ∧
 True) →
    CA en F.hash_Run_add [(.pointer x0)] H R := by
  intro h
  refine wpFn_ok (Z := []) (fn := Go.Proofs.Tryz.f183) ?_ ?_ ?_
  · kernel_rfl
  · kernel_rfl
  · apply turnInto h
    kernel_rfl


/-! hash_Run_change -/

theorem vc_hash_Run_change (x0 : Option Addr) (x1 : Nat) (x1l : List Value) (x1c : List Value) (H : Heap) (R : Value → Heap → Prop) :
    (
 nwH H (.cells true 0 [(.pointer x0)]) fun i1 H2 =>
 nwH H2 (.cells true 0 [(.func (.func x1) ⟨x1l⟩ ⟨x1c⟩)]) fun i3 H4 =>
 R (.func (.func F.hash_Run_change_1) #[] #[(.pointer (some ⟨i1, 0, none⟩)), (.pointer (some ⟨i3, 0, none⟩))]) H4) →
    CA en F.hash_Run_change [(.pointer x0), (.func (.func x1) ⟨x1l⟩ ⟨x1c⟩)] H R := by
  intro h
  refine wpFn_ok (Z := []) (fn := Go.Proofs.Tryz.f184) ?_ ?_ ?_
  · kernel_rfl
  · kernel_rfl
  · apply turnInto h
    kernel_rfl


/-! hash_Run_drop_1 -/

theorem vc_hash_Run_drop_1 (c0 : Option Addr) (H : Heap) (R : Value → Heap → Prop) :
    (
 AS.asAddr (.pointer c0) fun i1 i2 =>
 ∃ a3, (H.bump 15).cell i1 i2 = some (.pointer a3) ∧
 AS.asAddr (.pointer a3) fun i4 i5 =>
 ∃ a6, (H.bump 15).cell i4 i5 = some (.pointer a6) ∧
 AS.asAddr (.pointer a6) fun i7 i8 =>
 ∃ a9, (H.bump 15).cell i7 i8 = some (.pointer a9) ∧
 AS.asAddr (.pointer c0) fun i10 i11 =>
 ∃ a12, (H.bump 15).cell i10 i11 = some (.pointer a12) ∧
 AS.asAddr (.pointer a12) fun i13 i14 =>
 ∃ a15, (H.bump 15).cell i13 i14 = some (.pointer a15) ∧
 AS.asAddr (.pointer a15) fun i16 i17 =>
 ∃ n18, (H.bump 15).cell i16 (i17 + 7) = some (.int .i64 n18) ∧
 CA en F.smem_Mem_Fetch [(.pointer a9), (.int .i64 n18), (.int .i64 0), (.int .i64 0), (.int .u64 4294967295), (.int .u64 4294967295)] (H.bump 15) fun v19 H20 =>
 ∃ n21, ∃ b22, v19 = (.tuple #[(.int .u64 n21), (.bool b22)]) ∧
 (
 AS.asAddr (.pointer c0) fun i23 i24 =>
 ∃ a25, H20.cell i23 i24 = some (.pointer a25) ∧
 CA en F.hash_Run_give [(.pointer a25), (.agg #[(.int .i64 0), (.slice none 0 0), (.int .u64 0), (.int .i64 0)])] H20 fun v26 H27 =>
 v26 = undef ∧
 AS.asAddr (.pointer c0) fun i28 i29 =>
 ∃ a30, H27.cell i28 i29 = some (.pointer a30) ∧
 AS.asAddr (.pointer c0) fun i31 i32 =>
 ∃ a33, H27.cell i31 i32 = some (.pointer a33) ∧
 CA en F.hash_Run_unlink [(.pointer a30), (.func (.func F.hash_Run_away) #[(.pointer a33)] #[])] H27 fun v34 H35 =>
 v34 = undef ∧
 R undef H35) ∧
 True) →
    CA en F.hash_Run_drop_1 [(.pointer c0)] H R := by
  intro h
  refine wpFn_ok (Z := []) (fn := Go.Proofs.Tryz.f185) ?_ ?_ ?_
  · kernel_rfl
  · kernel_rfl
  · apply turnInto h
    kernel_rfl


/-! hash_Run_unlink -/

theorem vc_hash_Run_unlink (x0 : Option Addr) (x1 : Nat) (x1l : List Value) (x1c : List Value) (H : Heap) (R : Value → Heap → Prop) :
    (
 nwH H (.cells true 0 [(.pointer x0)]) fun i1 H2 =>
 nwH H2 (.cells true 0 [(.func (.func x1) ⟨x1l⟩ ⟨x1c⟩)]) fun i3 H4 =>
 ∃ a5, H4.cell i1 0 = some (.pointer a5) ∧
 AS.asAddr (.pointer a5) fun i6 i7 =>
 stc H4 i6 (i7 + 7) [(.func (.func F.hash_Run_unlink_1) #[] #[(.pointer (some ⟨i1, 0, none⟩)), (.pointer (some ⟨i3, 0, none⟩))])] fun H8 =>
 R undef H8) →
    CA en F.hash_Run_unlink [(.pointer x0), (.func (.func x1) ⟨x1l⟩ ⟨x1c⟩)] H R := by
  intro h
  refine wpFn_ok (Z := []) (fn := Go.Proofs.Tryz.f187) ?_ ?_ ?_
  · kernel_rfl
  · kernel_rfl
  · apply turnInto h
    kernel_rfl


/-! hash_Run_taking -/

theorem vc_hash_Run_taking (x0 : Option Addr) (x1 : Nat) (x1l : List Value) (x1c : List Value) (H : Heap) (R : Value → Heap → Prop) :
    (
 nwH H (.cells true 0 [(.pointer x0)]) fun i1 H2 =>
 nwH H2 (.cells true 0 [(.func (.func x1) ⟨x1l⟩ ⟨x1c⟩)]) fun i3 H4 =>
 ∃ a5, (H4.bump 15).cell i1 0 = some (.pointer a5) ∧
 AS.asAddr (.pointer a5) fun i6 i7 =>
 ∃ a8, (H4.bump 15).cell i6 i7 = some (.pointer a8) ∧
 AS.asAddr (.pointer a8) fun i9 i10 =>
 ∃ a11, (H4.bump 15).cell i9 i10 = some (.pointer a11) ∧
 ∃ a12, (H4.bump 15).cell i1 0 = some (.pointer a12) ∧
 AS.asAddr (.pointer a12) fun i13 i14 =>
 ∃ a15, (H4.bump 15).cell i13 i14 = some (.pointer a15) ∧
 AS.asAddr (.pointer a15) fun i16 i17 =>
 ∃ n18, (H4.bump 15).cell i16 (i17 + 7) = some (.int .i64 n18) ∧
 CA en F.smem_Mem_Fetch [(.pointer a11), (.int .i64 n18), (.int .i64 0), (.int .i64 0), (.int .u64 18446744073709551615), (.int .u64 4294967296)] (H4.bump 15) fun v19 H20 =>
 ∃ n21, ∃ b22, v19 = (.tuple #[(.int .u64 n21), (.bool b22)]) ∧
 (
 ∃ a23, (H20.bump 7).cell i1 0 = some (.pointer a23) ∧
 ∃ a24, (H20.bump 7).cell i1 0 = some (.pointer a24) ∧
 CA en F.hash_Run_change [(.pointer a24), (.func (.func F.hash_Run_taking_1) #[] #[(.pointer (some ⟨i1, 0, none⟩)), (.pointer (some ⟨i3, 0, none⟩))])] (H20.bump 7) fun v25 H26 =>
 ∃ v27, v25 = v27 ∧
 AS.asAddr (.pointer a23) fun i28 i29 =>
 AS.asCells v27 fun vs31 =>
 bif (Nat.beq vs31.length 1) then (
 stc H26 i28 (i29 + 7) vs31 fun H30 =>
 (
 R undef H30) ∧
 ((∃ a33, (H20.bump 7).cell i1 0 = some (.pointer a33) ∧
 a23 = a33) ∧ (∃ a32, H26.cell i1 0 = some (.pointer a32) ∧
 a23 = a32) ∧ True) ∧
 True)
 else False) ∧
 True) →
    CA en F.hash_Run_taking [(.pointer x0), (.func (.func x1) ⟨x1l⟩ ⟨x1c⟩)] H R := by
  intro h
  refine wpFn_ok (Z := []) (fn := Go.Proofs.Tryz.f188) ?_ ?_ ?_
  · kernel_rfl
  · kernel_rfl
  · apply turnInto h
    kernel_rfl


/-! hash_Run_still_1 -/

theorem vc_hash_Run_still_1 (c0 : Option Addr) (H : Heap) (R : Value → Heap → Prop) :
    (
 AS.asAddr (.pointer c0) fun i1 i2 =>
 ∃ a3, H.cell i1 i2 = some (.pointer a3) ∧
 CA en F.hash_Run_free [(.pointer a3), (.func (.func F.hash_Run_still_1_1) #[] #[(.pointer c0)])] H fun v4 H5 =>
 v4 = undef ∧
 R undef H5) →
    CA en F.hash_Run_still_1 [(.pointer c0)] H R := by
  intro h
  refine wpFn_ok (Z := []) (fn := Go.Proofs.Tryz.f237) ?_ ?_ ?_
  · kernel_rfl
  · kernel_rfl
  · apply turnInto h
    kernel_rfl


/-! hash_Run_still_1_1 -/

theorem vc_hash_Run_still_1_1 (c0 : Option Addr) (H : Heap) (R : Value → Heap → Prop) :
    (
 AS.asAddr (.pointer c0) fun i1 i2 =>
 ∃ a3, H.cell i1 i2 = some (.pointer a3) ∧
 AS.asAddr (.pointer c0) fun i4 i5 =>
 ∃ a6, H.cell i4 i5 = some (.pointer a6) ∧
 AS.asAddr (.pointer a3) fun i7 i8 =>
 stc H i7 (i8 + 7) [(.func (.func F.hash_Run_begin) #[(.pointer a6)] #[])] fun H9 =>
 R undef H9) →
    CA en F.hash_Run_still_1_1 [(.pointer c0)] H R := by
  intro h
  refine wpFn_ok (Z := []) (fn := Go.Proofs.Tryz.f238) ?_ ?_ ?_
  · kernel_rfl
  · kernel_rfl
  · apply turnInto h
    kernel_rfl


/-! hash_Run_make_1 -/

theorem vc_hash_Run_make_1 (c0 : Option Addr) (c1 : Option Addr) (c2 : Option Addr) (H : Heap) (R : Value → Heap → Prop) :
    (
 AS.asAddr (.pointer c0) fun i1 i2 =>
 ∃ a3 i4, H.cell i1 i2 = some (.slice a3 i4 0) ∧
 AS.asAddr (.pointer c1) fun i5 i6 =>
 ∃ a7, (H.bump 14).cell i5 i6 = some (.pointer a7) ∧
 AS.asAddr (.pointer a7) fun i8 i9 =>
 ∃ a10, (H.bump 14).cell i8 i9 = some (.pointer a10) ∧
 AS.asAddr (.pointer a10) fun i11 i12 =>
 ∃ a13, (H.bump 14).cell i11 i12 = some (.pointer a13) ∧
 AS.asAddr (.pointer c2) fun i14 i15 =>
 ∃ n16, (H.bump 14).cell i14 i15 = some (.int .i64 n16) ∧
 AS.asAddr (.pointer c0) fun i17 i18 =>
 ∃ a19 i20, (H.bump 14).cell i17 i18 = some (.slice a19 i20 0) ∧
 inB (IntKind.i64.wrap (((i4 : Nat) : Int) - 1)) i20 ∧
 asRow a19 fun i21 i22 =>
 ∃ n23, (H.bump 14).cell i21 (i22 + ((IntKind.i64.wrap (((i4 : Nat) : Int) - 1)).toNat * 1)) = some (.int .u64 n23) ∧
 CA en F.smem_Mem_Store [(.pointer a13), (.int .i64 n16), (.int .i64 (IntKind.i64.wrap (((i4 : Nat) : Int) - 1))), (.int .u64 n23)] (H.bump 14) fun v24 H25 =>
 ∃ b26, v24 = (.bool b26) ∧
 (
 AS.asAddr (.pointer c0) fun i27 i28 =>
 ∃ a29 i30, H25.cell i27 i28 = some (.slice a29 i30 0) ∧
 inS (IntKind.i64.wrap (((i4 : Nat) : Int) - 1)) i30 ∧
 slK H25 a29 1 0 (IntKind.i64.wrap (((i4 : Nat) : Int) - 1)).toNat fun v31 =>
 AS.asAddr (.pointer c0) fun i32 i33 =>
 AS.asCells v31 fun vs35 =>
 bif (Nat.beq vs35.length 1) then (
 stc H25 i32 i33 vs35 fun H34 =>
 bif ((IntKind.i64.wrap (((i4 : Nat) : Int) - 1)) == 0) then (
 AS.asAddr (.pointer c1) fun i36 i37 =>
 ∃ a38, (H34.bump 8).cell i36 i37 = some (.pointer a38) ∧
 AS.asAddr (.pointer c1) fun i39 i40 =>
 ∃ a41, (H34.bump 8).cell i39 i40 = some (.pointer a41) ∧
 AS.asAddr (.pointer c1) fun i42 i43 =>
 ∃ a44, (H34.bump 8).cell i42 i43 = some (.pointer a44) ∧
 CA en F.hash_Run_change [(.pointer a41), (.func (.func F.hash_Run_add) #[(.pointer a44)] #[])] (H34.bump 8) fun v45 H46 =>
 ∃ v47, v45 = v47 ∧
 AS.asAddr (.pointer a38) fun i48 i49 =>
 AS.asCells v47 fun vs51 =>
 bif (Nat.beq vs51.length 1) then (
 stc H46 i48 (i49 + 7) vs51 fun H50 =>
 (
 R undef H50) ∧
 ((AS.asAddr (.pointer c1) fun i55 i56 =>
 ∃ a57, (H34.bump 8).cell i55 i56 = some (.pointer a57) ∧
 a38 = a57) ∧ (AS.asAddr (.pointer c1) fun i52 i53 =>
 ∃ a54, H46.cell i52 i53 = some (.pointer a54) ∧
 a38 = a54) ∧ True) ∧
 True)
 else False)
 else (
 R undef H34))
 else False) ∧
 True) →
    CA en F.hash_Run_make_1 [(.pointer c0), (.pointer c1), (.pointer c2)] H R := by
  intro h
  refine wpFn_ok (Z := []) (fn := Go.Proofs.Tryz.f240) ?_ ?_ ?_
  · kernel_rfl
  · kernel_rfl
  · apply turnInto h
    kernel_rfl


/-! hash_Run_add_1 -/

theorem vc_hash_Run_add_1 (c0 : Option Addr) (H : Heap) (R : Value → Heap → Prop) :
    (
 AS.asAddr (.pointer c0) fun i1 i2 =>
 ∃ a3, (H.bump 23).cell i1 i2 = some (.pointer a3) ∧
 AS.asAddr (.pointer a3) fun i4 i5 =>
 ∃ a6, (H.bump 23).cell i4 i5 = some (.pointer a6) ∧
 AS.asAddr (.pointer a6) fun i7 i8 =>
 ∃ a9, (H.bump 23).cell i7 i8 = some (.pointer a9) ∧
 AS.asAddr (.pointer c0) fun i10 i11 =>
 ∃ a12, (H.bump 23).cell i10 i11 = some (.pointer a12) ∧
 AS.asAddr (.pointer a12) fun i13 i14 =>
 ∃ n15, (H.bump 23).cell i13 (i14 + 15) = some (.int .i64 n15) ∧
 AS.asAddr (.pointer c0) fun i16 i17 =>
 ∃ a18, (H.bump 23).cell i16 i17 = some (.pointer a18) ∧
 AS.asAddr (.pointer a18) fun i19 i20 =>
 ∃ n21, (H.bump 23).cell i19 ((i20 + 15) + 1) = some (.int .i64 n21) ∧
 AS.asAddr (.pointer c0) fun i22 i23 =>
 ∃ a24, (H.bump 23).cell i22 i23 = some (.pointer a24) ∧
 AS.asAddr (.pointer a24) fun i25 i26 =>
 ∃ n27, (H.bump 23).cell i25 (i26 + 18) = some (.int .i64 n27) ∧
 CA en F.smem_Mem_Store [(.pointer a9), (.int .i64 n15), (.int .i64 n21), (.int .u64 (IntKind.u64.wrap n27))] (H.bump 23) fun v28 H29 =>
 ∃ b30, v28 = (.bool b30) ∧
 (
 AS.asAddr (.pointer c0) fun i31 i32 =>
 ∃ a33, H29.cell i31 i32 = some (.pointer a33) ∧
 AS.asAddr (.pointer c0) fun i34 i35 =>
 ∃ a36, H29.cell i34 i35 = some (.pointer a36) ∧
 AS.asAddr (.pointer a33) fun i37 i38 =>
 stc H29 i37 (i38 + 7) [(.func (.func F.hash_Run_leave) #[(.pointer a36)] #[])] fun H39 =>
 R undef H39) ∧
 True) →
    CA en F.hash_Run_add_1 [(.pointer c0)] H R := by
  intro h
  refine wpFn_ok (Z := []) (fn := Go.Proofs.Tryz.f242) ?_ ?_ ?_
  · kernel_rfl
  · kernel_rfl
  · apply turnInto h
    kernel_rfl


/-! hash_Run_change_1 -/

theorem vc_hash_Run_change_1 (c0 : Option Addr) (c1 : Option Addr) (H : Heap) (R : Value → Heap → Prop) :
    (
 AS.asAddr (.pointer c0) fun i1 i2 =>
 ∃ a3, (H.bump 15).cell i1 i2 = some (.pointer a3) ∧
 AS.asAddr (.pointer a3) fun i4 i5 =>
 ∃ a6, (H.bump 15).cell i4 i5 = some (.pointer a6) ∧
 AS.asAddr (.pointer a6) fun i7 i8 =>
 ∃ a9, (H.bump 15).cell i7 i8 = some (.pointer a9) ∧
 AS.asAddr (.pointer c0) fun i10 i11 =>
 ∃ a12, (H.bump 15).cell i10 i11 = some (.pointer a12) ∧
 AS.asAddr (.pointer a12) fun i13 i14 =>
 ∃ a15, (H.bump 15).cell i13 i14 = some (.pointer a15) ∧
 AS.asAddr (.pointer a15) fun i16 i17 =>
 ∃ n18, (H.bump 15).cell i16 (i17 + 7) = some (.int .i64 n18) ∧
 CA en F.smem_Mem_Fetch [(.pointer a9), (.int .i64 n18), (.int .i64 1), (.int .i64 0), (.int .u64 18446744073709551615), (.int .u64 1)] (H.bump 15) fun v19 H20 =>
 ∃ n21, ∃ b22, v19 = (.tuple #[(.int .u64 n21), (.bool b22)]) ∧
 (
 AS.asAddr (.pointer c0) fun i23 i24 =>
 ∃ a25, H20.cell i23 i24 = some (.pointer a25) ∧
 AS.asAddr (.pointer c1) fun i26 i27 =>
 ∃ v28, H20.cell i26 i27 = some v28 ∧
 AS.asAddr (.pointer a25) fun i29 i30 =>
 AS.asCells v28 fun vs32 =>
 bif (Nat.beq vs32.length 1) then (
 stc H20 i29 (i30 + 7) vs32 fun H31 =>
 R undef H31)
 else False) ∧
 True) →
    CA en F.hash_Run_change_1 [(.pointer c0), (.pointer c1)] H R := by
  intro h
  refine wpFn_ok (Z := []) (fn := Go.Proofs.Tryz.f243) ?_ ?_ ?_
  · kernel_rfl
  · kernel_rfl
  · apply turnInto h
    kernel_rfl


/-! hash_Run_unlink_1 -/

theorem vc_hash_Run_unlink_1 (c0 : Option Addr) (c1 : Option Addr) (H : Heap) (R : Value → Heap → Prop) :
    (
 AS.asAddr (.pointer c0) fun i1 i2 =>
 ∃ a3, ((H.bump 18).set (H.next + 15) (.cells true 0 [(.int .u64 0)])).cell i1 i2 = some (.pointer a3) ∧
 AS.asAddr (.pointer a3) fun i4 i5 =>
 ∃ a6, ((H.bump 18).set (H.next + 15) (.cells true 0 [(.int .u64 0)])).cell i4 i5 = some (.pointer a6) ∧
 AS.asAddr (.pointer a6) fun i7 i8 =>
 ∃ a9, ((H.bump 18).set (H.next + 15) (.cells true 0 [(.int .u64 0)])).cell i7 i8 = some (.pointer a9) ∧
 AS.asAddr (.pointer c0) fun i10 i11 =>
 ∃ a12, ((H.bump 18).set (H.next + 15) (.cells true 0 [(.int .u64 0)])).cell i10 i11 = some (.pointer a12) ∧
 AS.asAddr (.pointer a12) fun i13 i14 =>
 ∃ n15, ((H.bump 18).set (H.next + 15) (.cells true 0 [(.int .u64 0)])).cell i13 (i14 + 17) = some (.int .i64 n15) ∧
 CA en F.smem_Mem_Load [(.pointer a9), (.int .i64 n15), (.int .i64 0)] ((H.bump 18).set (H.next + 15) (.cells true 0 [(.int .u64 0)])) fun v16 H17 =>
 ∃ n18, ∃ b19, v16 = (.tuple #[(.int .u64 n18), (.bool b19)]) ∧
 stc H17 (H.next + 15) 0 [(.int .u64 n18)] fun H20 =>
 (
 AS.asAddr (.pointer c0) fun i23 i24 =>
 ∃ a25, H20.cell i23 i24 = some (.pointer a25) ∧
 AS.asAddr (.pointer a25) fun i26 i27 =>
 stc H20 i26 (i27 + 7) [(.func (.func F.hash_Run_unlink_1_1) #[] #[(.pointer c0), (.pointer (some ⟨(H.next + 15), 0, none⟩)), (.pointer c1)])] fun H28 =>
 R undef H28) ∧
 ((∃ c22, ((H.bump 18).set (H.next + 15) (.cells true 0 [(.int .u64 0)])).get (H.next + 15) = some (.cells true 0 c22) ∧ sameN.sameL 8 [(.int .u64 0)] c22 = true) ∧ (∃ c21, H17.get (H.next + 15) = some (.cells true 0 c21) ∧ sameN.sameL 8 [(.int .u64 0)] c21 = true) ∧ True) ∧
 True) →
    CA en F.hash_Run_unlink_1 [(.pointer c0), (.pointer c1)] H R := by
  intro h
  refine wpFn_ok (Z := []) (fn := Go.Proofs.Tryz.f246) ?_ ?_ ?_
  · kernel_rfl
  · kernel_rfl
  · apply turnInto h
    kernel_rfl


/-! hash_Run_unlink_1_1 -/

theorem vc_hash_Run_unlink_1_1 (c0 : Option Addr) (c1 : Option Addr) (c2 : Option Addr) (H : Heap) (R : Value → Heap → Prop) :
    (
 AS.asAddr (.pointer c0) fun i1 i2 =>
 ∃ a3, (H.bump 19).cell i1 i2 = some (.pointer a3) ∧
 AS.asAddr (.pointer a3) fun i4 i5 =>
 ∃ a6, (H.bump 19).cell i4 i5 = some (.pointer a6) ∧
 AS.asAddr (.pointer a6) fun i7 i8 =>
 ∃ a9, (H.bump 19).cell i7 i8 = some (.pointer a9) ∧
 AS.asAddr (.pointer c0) fun i10 i11 =>
 ∃ a12, (H.bump 19).cell i10 i11 = some (.pointer a12) ∧
 AS.asAddr (.pointer a12) fun i13 i14 =>
 ∃ n15, (H.bump 19).cell i13 (i14 + 15) = some (.int .i64 n15) ∧
 AS.asAddr (.pointer c0) fun i16 i17 =>
 ∃ a18, (H.bump 19).cell i16 i17 = some (.pointer a18) ∧
 AS.asAddr (.pointer a18) fun i19 i20 =>
 ∃ n21, (H.bump 19).cell i19 ((i20 + 15) + 1) = some (.int .i64 n21) ∧
 AS.asAddr (.pointer c1) fun i22 i23 =>
 ∃ n24, (H.bump 19).cell i22 i23 = some (.int .u64 n24) ∧
 CA en F.smem_Mem_Store [(.pointer a9), (.int .i64 n15), (.int .i64 n21), (.int .u64 n24)] (H.bump 19) fun v25 H26 =>
 ∃ b27, v25 = (.bool b27) ∧
 (
 AS.asAddr (.pointer c0) fun i28 i29 =>
 ∃ a30, (H26.bump 12).cell i28 i29 = some (.pointer a30) ∧
 AS.asAddr (.pointer a30) fun i31 i32 =>
 ∃ a33, (H26.bump 12).cell i31 i32 = some (.pointer a33) ∧
 AS.asAddr (.pointer a33) fun i34 i35 =>
 ∃ a36, (H26.bump 12).cell i34 (i35 + 1) = some (.pointer a36) ∧
 AS.asAddr (.pointer c0) fun i37 i38 =>
 ∃ a39, (H26.bump 12).cell i37 i38 = some (.pointer a39) ∧
 AS.asAddr (.pointer a39) fun i40 i41 =>
 ∃ n42, (H26.bump 12).cell i40 (i41 + 17) = some (.int .i64 n42) ∧
 CA en F.grace_Grace_Defer [(.pointer a36), (.int .i64 n42)] (H26.bump 12) fun v43 H44 =>
 ∃ a45 i46, v43 = (.slice a45 i46 0) ∧
 (
 AS.asAddr (.pointer c2) fun i47 i48 =>
 ∃ v49, H44.cell i47 i48 = some v49 ∧
 AS.asFn v49 fun f50 l51 l52 =>
 (∃ fn, en.fn f50 = some fn) ∧
 CA en f50 (l51 ++ [] ++ l52) H44 fun v53 H54 =>
 v53 = undef ∧
 R undef H54) ∧
 True) ∧
 True) →
    CA en F.hash_Run_unlink_1_1 [(.pointer c0), (.pointer c1), (.pointer c2)] H R := by
  intro h
  refine wpFn_ok (Z := []) (fn := Go.Proofs.Tryz.f247) ?_ ?_ ?_
  · kernel_rfl
  · kernel_rfl
  · apply turnInto h
    kernel_rfl


/-! hash_Run_taking_1 -/

theorem vc_hash_Run_taking_1 (c0 : Option Addr) (c1 : Option Addr) (H : Heap) (R : Value → Heap → Prop) :
    (
 AS.asAddr (.pointer c0) fun i1 i2 =>
 ∃ a3, (H.bump 17).cell i1 i2 = some (.pointer a3) ∧
 AS.asAddr (.pointer a3) fun i4 i5 =>
 ∃ a6, (H.bump 17).cell i4 i5 = some (.pointer a6) ∧
 AS.asAddr (.pointer a6) fun i7 i8 =>
 ∃ a9, (H.bump 17).cell i7 i8 = some (.pointer a9) ∧
 AS.asAddr (.pointer c0) fun i10 i11 =>
 ∃ a12, (H.bump 17).cell i10 i11 = some (.pointer a12) ∧
 AS.asAddr (.pointer a12) fun i13 i14 =>
 ∃ n15, (H.bump 17).cell i13 (i14 + 17) = some (.int .i64 n15) ∧
 CA en F.smem_Mem_Load [(.pointer a9), (.int .i64 n15), (.int .i64 2)] (H.bump 17) fun v16 H17 =>
 ∃ n18, ∃ b19, v16 = (.tuple #[(.int .u64 n18), (.bool b19)]) ∧
 (
 AS.asAddr (.pointer c0) fun i20 i21 =>
 ∃ a22, H17.cell i20 i21 = some (.pointer a22) ∧
 nwH H17 (.cells true 1 [(.int .u64 n18)]) fun i23 H24 =>
 CA en F.hash_Run_give [(.pointer a22), (.agg #[(.int .i64 0), (.slice (some ⟨i23, 0, none⟩) 1 0), (.int .u64 0), (.int .i64 0)])] H24 fun v25 H26 =>
 v25 = undef ∧
 AS.asAddr (.pointer c0) fun i27 i28 =>
 ∃ a29, H26.cell i27 i28 = some (.pointer a29) ∧
 AS.asAddr (.pointer a29) fun i30 i31 =>
 stc H26 i30 (i31 + 7) [(.func (.func F.hash_Run_taking_1_1) #[] #[(.pointer c0), (.pointer c1)])] fun H32 =>
 R undef H32) ∧
 True) →
    CA en F.hash_Run_taking_1 [(.pointer c0), (.pointer c1)] H R := by
  intro h
  refine wpFn_ok (Z := []) (fn := Go.Proofs.Tryz.f248) ?_ ?_ ?_
  · kernel_rfl
  · kernel_rfl
  · apply turnInto h
    kernel_rfl


/-! hash_Run_taking_1_1 -/

theorem vc_hash_Run_taking_1_1 (c0 : Option Addr) (c1 : Option Addr) (H : Heap) (R : Value → Heap → Prop) :
    (
 AS.asAddr (.pointer c0) fun i1 i2 =>
 ∃ a3, (H.bump 15).cell i1 i2 = some (.pointer a3) ∧
 AS.asAddr (.pointer a3) fun i4 i5 =>
 ∃ a6, (H.bump 15).cell i4 i5 = some (.pointer a6) ∧
 AS.asAddr (.pointer a6) fun i7 i8 =>
 ∃ a9, (H.bump 15).cell i7 i8 = some (.pointer a9) ∧
 AS.asAddr (.pointer c0) fun i10 i11 =>
 ∃ a12, (H.bump 15).cell i10 i11 = some (.pointer a12) ∧
 AS.asAddr (.pointer a12) fun i13 i14 =>
 ∃ a15, (H.bump 15).cell i13 i14 = some (.pointer a15) ∧
 AS.asAddr (.pointer a15) fun i16 i17 =>
 ∃ n18, (H.bump 15).cell i16 (i17 + 7) = some (.int .i64 n18) ∧
 CA en F.smem_Mem_Fetch [(.pointer a9), (.int .i64 n18), (.int .i64 0), (.int .i64 0), (.int .u64 18446744073709551615), (.int .u64 18446744069414584319)] (H.bump 15) fun v19 H20 =>
 ∃ n21, ∃ b22, v19 = (.tuple #[(.int .u64 n21), (.bool b22)]) ∧
 (
 AS.asAddr (.pointer c0) fun i23 i24 =>
 ∃ a25, H20.cell i23 i24 = some (.pointer a25) ∧
 AS.asAddr (.pointer c1) fun i26 i27 =>
 ∃ v28, H20.cell i26 i27 = some v28 ∧
 CA en F.hash_Run_unlink [(.pointer a25), v28] H20 fun v29 H30 =>
 v29 = undef ∧
 R undef H30) ∧
 True) →
    CA en F.hash_Run_taking_1_1 [(.pointer c0), (.pointer c1)] H R := by
  intro h
  refine wpFn_ok (Z := []) (fn := Go.Proofs.Tryz.f249) ?_ ?_ ?_
  · kernel_rfl
  · kernel_rfl
  · apply turnInto h
    kernel_rfl

end Go.Proofs.YtjggeoghlicmdaaGreat
