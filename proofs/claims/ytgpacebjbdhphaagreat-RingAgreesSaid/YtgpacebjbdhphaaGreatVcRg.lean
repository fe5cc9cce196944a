/-
  What functions of this seat's program need (printed by a program, checked by the kernel).
-/
import Derived.Test.YtgpacebjbdhphaaGreatNames
import Derived.Test.YtgpacebjbdhphaaGreatAs41
namespace Go.Proofs.YtgpacebjbdhphaaGreat
open Go Go.AS Go.RowKit
set_option linter.unusedVariables false
set_option maxRecDepth 100000
set_option maxHeartbeats 2000000

/-! ring_Map_Begin -/

theorem vc_ring_Map_Begin (x0 : Option Addr) (x1_0 : Int) (x1_1 : Int) (x1_2 : Option Addr) (x1_2l : Nat) (x1_3 : Int) (x1_4 : Int) (H : Heap) (R : Value → Heap → Prop) :
    (
 nwH H (.cells true 0 [(.int .i64 x1_0), (.int .u64 x1_1), (.slice x1_2 x1_2l 0), (.int .i64 x1_3), (.int .i64 x1_4)]) fun i1 H2 =>
 ∃ a3 i4, H2.cell i1 2 = some (.slice a3 i4 0) ∧
 CA en F.slices_Clone_uint64_uint64 [(.slice a3 i4 0)] H2 fun v5 H6 =>
 ∃ a7 i8, v5 = (.slice a7 i8 0) ∧
 stc H6 i1 2 [(.slice a7 i8 0)] fun H9 =>
 ∃ n10, ∃ n11, ∃ a12 i13, ∃ n14, ∃ n15, (H9.bump 14).cellsAt i1 0 5 = some [(.int .i64 n10), (.int .u64 n11), (.slice a12 i13 0), (.int .i64 n14), (.int .i64 n15)] ∧
 AS.asAddr (.pointer x0) fun i16 i17 =>
 ∃ a18, (H9.bump 14).cell i16 i17 = some (.pointer a18) ∧
 AS.asAddr (.pointer x0) fun i19 i20 =>
 ∃ n21, (H9.bump 14).cell i19 (i20 + 6) = some (.int .i64 n21) ∧
 CA en F.lock_Take [(.pointer a18), (.int .i64 n21), (.int .i64 0)] (H9.bump 14) fun v22 H23 =>
 ∃ a24, v22 = (.pointer a24) ∧
 nwH H23 (.cells true 0 [(.pointer x0), (.int .i64 n10), (.int .u64 n11), (.slice a12 i13 0), (.int .i64 n14), (.int .i64 n15), (.pointer a24), (.slice none 0 0), (.int .i64 0), (.slice none 0 0), (.int .u64 0), (.int .i64 0), (.bool false), (.bool false), (.int .i64 0), (.int .i64 0)]) fun i25 H26 =>
 (
 R (.pointer (some ⟨i25, 0, none⟩)) H26) ∧
 ((∃ n33, ∃ n34, ∃ a35 i36, ∃ n37, ∃ n38, (H9.bump 14).cellsAt i1 0 5 = some [(.int .i64 n33), (.int .u64 n34), (.slice a35 i36 0), (.int .i64 n37), (.int .i64 n38)] ∧
 sameN 8 (.agg #[(.int .i64 n10), (.int .u64 n11), (.slice a12 i13 0), (.int .i64 n14), (.int .i64 n15)]) (.agg #[(.int .i64 n33), (.int .u64 n34), (.slice a35 i36 0), (.int .i64 n37), (.int .i64 n38)]) = true) ∧ (∃ n27, ∃ n28, ∃ a29 i30, ∃ n31, ∃ n32, H23.cellsAt i1 0 5 = some [(.int .i64 n27), (.int .u64 n28), (.slice a29 i30 0), (.int .i64 n31), (.int .i64 n32)] ∧
 sameN 8 (.agg #[(.int .i64 n10), (.int .u64 n11), (.slice a12 i13 0), (.int .i64 n14), (.int .i64 n15)]) (.agg #[(.int .i64 n27), (.int .u64 n28), (.slice a29 i30 0), (.int .i64 n31), (.int .i64 n32)]) = true) ∧ True) ∧
 True) →
    CA en F.ring_Map_Begin [(.pointer x0), (.agg #[(.int .i64 x1_0), (.int .u64 x1_1), (.slice x1_2 x1_2l 0), (.int .i64 x1_3), (.int .i64 x1_4)])] H R := by
  intro h
  refine wpFn_ok (Z := []) (fn := Go.Proofs.Tryz.f13) ?_ ?_ ?_
  · kernel_rfl
  · kernel_rfl
  · apply turnInto h
    kernel_rfl


/-! ring_Run_Step -/

theorem vc_ring_Run_Step (x0 : Option Addr) (H : Heap) (R : Value → Heap → Prop) :
    (
 AS.asAddr (.pointer x0) fun i1 i2 =>
 ∃ b3, H.cell i1 (i2 + 13) = some (.bool b3) ∧
 bif b3 then (
 R (.tuple #[(.bool false), (.bool true)]) H)
 else (
 AS.asAddr (.pointer x0) fun i4 i5 =>
 ∃ b6, H.cell i4 (i5 + 12) = some (.bool b6) ∧
 bif (!b6) then (
 AS.asAddr (.pointer x0) fun i7 i8 =>
 ∃ a9, H.cell i7 (i8 + 6) = some (.pointer a9) ∧
 CA en F.lock_Taker_Step [(.pointer a9)] H fun v10 H11 =>
 ∃ b12, v10 = (.bool b12) ∧
 AS.asAddr (.pointer x0) fun i13 i14 =>
 stc H11 i13 (i14 + 12) [(.bool b12)] fun H15 =>
 AS.asAddr (.pointer x0) fun i16 i17 =>
 ∃ b18, H15.cell i16 (i17 + 12) = some (.bool b18) ∧
 bif b18 then (
 nwH H15 (.cells true 2 [(.func (.func F.ring_Run_counts) #[(.pointer x0)] #[]), (.bool false), (.func (.func F.ring_Run_looks) #[(.pointer x0)] #[]), (.bool false)]) fun i19 H20 =>
 CA en F.ring_Run_plan [(.pointer x0), (.slice (some ⟨i19, 0, none⟩) 2 0)] H20 fun v21 H22 =>
 v21 = undef ∧
 R (.tuple #[(.bool false), (.bool false)]) H22)
 else (
 R (.tuple #[(.bool false), (.bool false)]) H15))
 else (
 AS.asAddr (.pointer x0) fun i23 i24 =>
 ∃ a25 i26, H.cell i23 (i24 + 7) = some (.slice a25 i26 0) ∧
 inB 0 i26 ∧
 asRow a25 fun i27 i28 =>
 ((
 ∃ b32, H.cellsAt i27 i28 2 = some [.nilFunc, (.bool b32)] ∧
 nwH H (.cells true 0 [.nilFunc, (.bool false)]) fun i33 H34 =>
 stc H34 i33 0 [.nilFunc, (.bool b32)] fun H35 =>
 AS.asAddr (.pointer x0) fun i36 i37 =>
 ∃ a38 i39, H35.cell i36 (i37 + 7) = some (.slice a38 i39 0) ∧
 inS 1 i39 ∧
 slK H35 a38 2 1 (i39 - 1) fun v40 =>
 AS.asAddr (.pointer x0) fun i41 i42 =>
 stc H35 i41 (i42 + 7) [v40] fun H43 =>
 ∃ v44, H43.cell i33 0 = some v44 ∧
 AS.asFn v44 fun f45 l46 l47 =>
 (∃ fn, en.fn f45 = some fn) ∧
 CA en f45 (l46 ++ [] ++ l47) H43 fun v48 H49 =>
 v48 = undef ∧
 AS.asAddr (.pointer x0) fun i50 i51 =>
 ∃ a52 i53, H49.cell i50 (i51 + 7) = some (.slice a52 i53 0) ∧
 bif (((i53 : Nat) : Int) == 0) then (
 AS.asAddr (.pointer x0) fun i54 i55 =>
 stc H49 i54 (i55 + 13) [(.bool true)] fun H56 =>
 ∃ b57, (H56.bump 8).cell i33 1 = some (.bool b57) ∧
 AS.asAddr (.pointer x0) fun i58 i59 =>
 ∃ b60, (H56.bump 8).cell i58 (i59 + 13) = some (.bool b60) ∧
 (
 R (.tuple #[(.bool b57), (.bool b60)]) (H56.bump 8)) ∧
 True)
 else (
 ∃ b61, (H49.bump 8).cell i33 1 = some (.bool b61) ∧
 AS.asAddr (.pointer x0) fun i62 i63 =>
 ∃ b64, (H49.bump 8).cell i62 (i63 + 13) = some (.bool b64) ∧
 (
 R (.tuple #[(.bool b61), (.bool b64)]) (H49.bump 8)) ∧
 True)) ∨
 (∃ f29 l30 c31, ∃ b65, H.cellsAt i27 i28 2 = some [(.func (.func f29) ⟨l30⟩ ⟨c31⟩), (.bool b65)] ∧
 nwH H (.cells true 0 [.nilFunc, (.bool false)]) fun i66 H67 =>
 stc H67 i66 0 [(.func (.func f29) ⟨l30⟩ ⟨c31⟩), (.bool b65)] fun H68 =>
 AS.asAddr (.pointer x0) fun i69 i70 =>
 ∃ a71 i72, H68.cell i69 (i70 + 7) = some (.slice a71 i72 0) ∧
 inS 1 i72 ∧
 slK H68 a71 2 1 (i72 - 1) fun v73 =>
 AS.asAddr (.pointer x0) fun i74 i75 =>
 stc H68 i74 (i75 + 7) [v73] fun H76 =>
 ∃ v77, H76.cell i66 0 = some v77 ∧
 AS.asFn v77 fun f78 l79 l80 =>
 (∃ fn, en.fn f78 = some fn) ∧
 CA en f78 (l79 ++ [] ++ l80) H76 fun v81 H82 =>
 v81 = undef ∧
 AS.asAddr (.pointer x0) fun i83 i84 =>
 ∃ a85 i86, H82.cell i83 (i84 + 7) = some (.slice a85 i86 0) ∧
 bif (((i86 : Nat) : Int) == 0) then (
 AS.asAddr (.pointer x0) fun i87 i88 =>
 stc H82 i87 (i88 + 13) [(.bool true)] fun H89 =>
 ∃ b90, (H89.bump 8).cell i66 1 = some (.bool b90) ∧
 AS.asAddr (.pointer x0) fun i91 i92 =>
 ∃ b93, (H89.bump 8).cell i91 (i92 + 13) = some (.bool b93) ∧
 (
 R (.tuple #[(.bool b90), (.bool b93)]) (H89.bump 8)) ∧
 True)
 else (
 ∃ b94, (H82.bump 8).cell i66 1 = some (.bool b94) ∧
 AS.asAddr (.pointer x0) fun i95 i96 =>
 ∃ b97, (H82.bump 8).cell i95 (i96 + 13) = some (.bool b97) ∧
 (
 R (.tuple #[(.bool b94), (.bool b97)]) (H82.bump 8)) ∧
 True)))))) →
    CA en F.ring_Run_Step [(.pointer x0)] H R := by
  intro h
  refine wpFn_ok (Z := []) (fn := Go.Proofs.Tryz.f15) ?_ ?_ ?_
  · kernel_rfl
  · kernel_rfl
  · apply turnInto h
    kernel_rfl


/-! ring_New -/

theorem vc_ring_New (x0 : Option Addr) (x1_0 : Int) (x1_1 : Int) (x1_2 : Int) (x1_3 : Int) (x1_4 : Int) (H : Heap) (R : Value → Heap → Prop) :
    (
 nwH H (.cells true 0 [(.int .i64 x1_0), (.int .i64 x1_1), (.int .i64 x1_2), (.int .i64 x1_3), (.int .i64 x1_4)]) fun i1 H2 =>
 ∃ n3, H2.cell i1 0 = some (.int .i64 n3) ∧
 bif (n3 != 6) then (
 ∃ n4, H2.cell i1 0 = some (.int .i64 n4) ∧
 bif (n4 != 7) then (
 R (.tuple #[(.pointer none), (.int .i64 1)]) H2)
 else (
 ∃ n5, ∃ n6, ∃ n7, ∃ n8, ∃ n9, H2.cellsAt i1 0 5 = some [(.int .i64 n5), (.int .i64 n6), (.int .i64 n7), (.int .i64 n8), (.int .i64 n9)] ∧
 nwH H2 (.cells true 5 [(.int .i64 n5), (.int .i64 n6), (.int .i64 n7), (.int .i64 n8), (.int .i64 n9)]) fun i10 H11 =>
 CA en F.decl_Check [(.slice (some ⟨i10, 0, none⟩) 1 0)] H11 fun v12 H13 =>
 ∃ n14, v12 = (.int .i64 n14) ∧
 bif (n14 != 0) then (
 R (.tuple #[(.pointer none), (.int .i64 1)]) H13)
 else (
 ∃ n15, H13.cell i1 1 = some (.int .i64 n15) ∧
 ∃ n16, H13.cell i1 2 = some (.int .i64 n16) ∧
 CA en F.smem_Mem_Make [(.pointer x0), (.int .i64 (IntKind.i64.wrap (4 + (IntKind.i64.wrap (n15 * n16)))))] H13 fun v17 H18 =>
 ∃ n19, ∃ n20, v17 = (.tuple #[(.int .i64 n19), (.int .i64 n20)]) ∧
 bif (n20 != 0) then (
 R (.tuple #[(.pointer none), (.int .i64 5)]) H18)
 else (
 ∃ n21, ∃ n22, ∃ n23, ∃ n24, ∃ n25, H18.cellsAt i1 0 5 = some [(.int .i64 n21), (.int .i64 n22), (.int .i64 n23), (.int .i64 n24), (.int .i64 n25)] ∧
 nwH H18 (.cells true 0 [(.pointer x0), (.int .i64 n21), (.int .i64 n22), (.int .i64 n23), (.int .i64 n24), (.int .i64 n25), (.int .i64 n19)]) fun i26 H27 =>
 R (.tuple #[(.pointer (some ⟨i26, 0, none⟩)), (.int .i64 0)]) H27))))
 else (
 ∃ n28, ∃ n29, ∃ n30, ∃ n31, ∃ n32, H2.cellsAt i1 0 5 = some [(.int .i64 n28), (.int .i64 n29), (.int .i64 n30), (.int .i64 n31), (.int .i64 n32)] ∧
 nwH H2 (.cells true 5 [(.int .i64 n28), (.int .i64 n29), (.int .i64 n30), (.int .i64 n31), (.int .i64 n32)]) fun i33 H34 =>
 CA en F.decl_Check [(.slice (some ⟨i33, 0, none⟩) 1 0)] H34 fun v35 H36 =>
 ∃ n37, v35 = (.int .i64 n37) ∧
 bif (n37 != 0) then (
 R (.tuple #[(.pointer none), (.int .i64 1)]) H36)
 else (
 ∃ n38, H36.cell i1 1 = some (.int .i64 n38) ∧
 ∃ n39, H36.cell i1 2 = some (.int .i64 n39) ∧
 CA en F.smem_Mem_Make [(.pointer x0), (.int .i64 (IntKind.i64.wrap (4 + (IntKind.i64.wrap (n38 * n39)))))] H36 fun v40 H41 =>
 ∃ n42, ∃ n43, v40 = (.tuple #[(.int .i64 n42), (.int .i64 n43)]) ∧
 bif (n43 != 0) then (
 R (.tuple #[(.pointer none), (.int .i64 5)]) H41)
 else (
 ∃ n44, ∃ n45, ∃ n46, ∃ n47, ∃ n48, H41.cellsAt i1 0 5 = some [(.int .i64 n44), (.int .i64 n45), (.int .i64 n46), (.int .i64 n47), (.int .i64 n48)] ∧
 nwH H41 (.cells true 0 [(.pointer x0), (.int .i64 n44), (.int .i64 n45), (.int .i64 n46), (.int .i64 n47), (.int .i64 n48), (.int .i64 n42)]) fun i49 H50 =>
 R (.tuple #[(.pointer (some ⟨i49, 0, none⟩)), (.int .i64 0)]) H50)))) →
    CA en F.ring_New [(.pointer x0), (.agg #[(.int .i64 x1_0), (.int .i64 x1_1), (.int .i64 x1_2), (.int .i64 x1_3), (.int .i64 x1_4)])] H R := by
  intro h
  refine wpFn_ok (Z := []) (fn := Go.Proofs.Tryz.f20) ?_ ?_ ?_
  · kernel_rfl
  · kernel_rfl
  · apply turnInto h
    kernel_rfl


/-! ring_Run_plan -/

theorem vc_ring_Run_plan (x0 : Option Addr) (x1 : Option Addr) (x1l : Nat) (H : Heap) (R : Value → Heap → Prop) :
    (
 AS.asAddr (.pointer x0) fun i1 i2 =>
 ∃ a3 i4, H.cell i1 (i2 + 7) = some (.slice a3 i4 0) ∧
 ∃ l5, rowOf H 2 x1 x1l = some l5 ∧
 apd H 16 2 a3 i4 x1l l5 fun a6 i7 H8 =>
 AS.asAddr (.pointer x0) fun i9 i10 =>
 stc H8 i9 (i10 + 7) [(.slice a6 i7 0)] fun H11 =>
 R undef H11) →
    CA en F.ring_Run_plan [(.pointer x0), (.slice x1 x1l 0)] H R := by
  intro h
  refine wpFn_ok (Z := []) (fn := Go.Proofs.Tryz.f30) ?_ ?_ ?_
  · kernel_rfl
  · kernel_rfl
  · apply turnInto h
    kernel_rfl


/-! ring_Run_counts -/

theorem vc_ring_Run_counts (x0 : Option Addr) (H : Heap) (R : Value → Heap → Prop) :
    (
 CA en F.ring_Run_load [(.pointer x0), (.int .i64 3)] H fun v1 H2 =>
 ∃ n3, v1 = (.int .i64 n3) ∧
 AS.asAddr (.pointer x0) fun i4 i5 =>
 stc H2 i4 (i5 + 15) [(.int .i64 n3)] fun H6 =>
 R undef H6) →
    CA en F.ring_Run_counts [(.pointer x0)] H R := by
  intro h
  refine wpFn_ok (Z := []) (fn := Go.Proofs.Tryz.f31) ?_ ?_ ?_
  · kernel_rfl
  · kernel_rfl
  · apply turnInto h
    kernel_rfl


/-! ring_Run_looks -/

theorem vc_ring_Run_looks (x0 : Option Addr) (H : Heap) (R : Value → Heap → Prop) :
    (
 nwH H (.cells true 0 [(.pointer x0)]) fun i1 H2 =>
 ∃ a3, (H2.bump 6).cell i1 0 = some (.pointer a3) ∧
 ∃ a4, (H2.bump 6).cell i1 0 = some (.pointer a4) ∧
 CA en F.ring_Run_load [(.pointer a4), (.int .i64 2)] (H2.bump 6) fun v5 H6 =>
 ∃ n7, v5 = (.int .i64 n7) ∧
 AS.asAddr (.pointer a3) fun i8 i9 =>
 stc H6 i8 (i9 + 14) [(.int .i64 n7)] fun H10 =>
 (
 nwH H10 (.cells true 0 [.nilFunc, (.bool false)]) fun i13 H14 =>
 stc H14 i13 0 [(.func (.func F.ring_Run_looks_1) #[] #[(.pointer (some ⟨i1, 0, none⟩))]), (.bool false)] fun H15 =>
 ∃ J16 : List Value → Heap → Prop, (
 ∃ a17, (H15.bump 30).cell i1 0 = some (.pointer a17) ∧
 AS.asAddr (.pointer a17) fun i18 i19 =>
 ∃ n20, (H15.bump 30).cell i18 (i19 + 1) = some (.int .i64 n20) ∧
 bif (n20 == 6) then (
 ∃ a21, (H15.bump 30).cell i1 0 = some (.pointer a21) ∧
 AS.asAddr (.pointer a21) fun i22 i23 =>
 ∃ n24, (H15.bump 30).cell i22 (i23 + 15) = some (.int .i64 n24) ∧
 ∃ a25, (H15.bump 30).cell i1 0 = some (.pointer a25) ∧
 AS.asAddr (.pointer a25) fun i26 i27 =>
 ∃ a28, (H15.bump 30).cell i26 i27 = some (.pointer a28) ∧
 AS.asAddr (.pointer a28) fun i29 i30 =>
 ∃ n31, (H15.bump 30).cell i29 ((i30 + 1) + 1) = some (.int .i64 n31) ∧
 bif (n24 == n31) then (
 ∃ a32, (H15.bump 30).cell i1 0 = some (.pointer a32) ∧
 AS.asAddr (.pointer a32) fun i33 i34 =>
 ∃ n35, (H15.bump 30).cell i33 ((i34 + 1) + 3) = some (.int .i64 n35) ∧
 (
 J16 [(.bool (n35 == 0))] (H15.bump 30)) ∧
 True)
 else (
 (
 J16 [(.bool false)] (H15.bump 30)) ∧
 True))
 else (
 (
 J16 [(.bool false)] (H15.bump 30)) ∧
 True)) ∧
 ∀ (ys36 : Fr) (H37 : Heap), ∀ b38, J16 [(.bool b38)] H37 →
 bif b38 then (
 ∃ a39, (H37.bump 6).cell i1 0 = some (.pointer a39) ∧
 ∃ a40, (H37.bump 6).cell i1 0 = some (.pointer a40) ∧
 CA en F.ring_Run_fails [(.pointer a40), (.int .i64 4)] (H37.bump 6) fun v41 H42 =>
 ((
 ∃ b46, v41 = (.agg #[.nilFunc, (.bool b46)]) ∧
 ((
 ∃ b50, H42.cellsAt i13 0 2 = some [.nilFunc, (.bool b50)] ∧
 nwH H42 (.cells true 2 [.nilFunc, (.bool b46), .nilFunc, (.bool b50)]) fun i51 H52 =>
 CA en F.ring_Run_plan [(.pointer a39), (.slice (some ⟨i51, 0, none⟩) 2 0)] H52 fun v53 H54 =>
 v53 = undef ∧
 (
 R undef H54) ∧
 ((((
 ∃ b63, (H37.bump 6).cellsAt i13 0 2 = some [.nilFunc, (.bool b63)] ∧
 sameN 8 (.agg #[.nilFunc, (.bool b50)]) (.agg #[.nilFunc, (.bool b63)]) = true) ∨
 (∃ f60 l61 c62, ∃ b64, (H37.bump 6).cellsAt i13 0 2 = some [(.func (.func f60) ⟨l61⟩ ⟨c62⟩), (.bool b64)] ∧
 sameN 8 (.agg #[.nilFunc, (.bool b50)]) (.agg #[(.func (.func f60) ⟨l61⟩ ⟨c62⟩), (.bool b64)]) = true))) ∧ (((
 ∃ b58, H42.cellsAt i13 0 2 = some [.nilFunc, (.bool b58)] ∧
 sameN 8 (.agg #[.nilFunc, (.bool b50)]) (.agg #[.nilFunc, (.bool b58)]) = true) ∨
 (∃ f55 l56 c57, ∃ b59, H42.cellsAt i13 0 2 = some [(.func (.func f55) ⟨l56⟩ ⟨c57⟩), (.bool b59)] ∧
 sameN 8 (.agg #[.nilFunc, (.bool b50)]) (.agg #[(.func (.func f55) ⟨l56⟩ ⟨c57⟩), (.bool b59)]) = true))) ∧ True) ∧
 ((∃ a67, (H37.bump 6).cell i1 0 = some (.pointer a67) ∧
 a39 = a67) ∧ (∃ a66, H42.cell i1 0 = some (.pointer a66) ∧
 a39 = a66) ∧ (∃ a65, H52.cell i1 0 = some (.pointer a65) ∧
 a39 = a65) ∧ True) ∧
 True) ∨
 (∃ f47 l48 c49, ∃ b68, H42.cellsAt i13 0 2 = some [(.func (.func f47) ⟨l48⟩ ⟨c49⟩), (.bool b68)] ∧
 nwH H42 (.cells true 2 [.nilFunc, (.bool b46), (.func (.func f47) ⟨l48⟩ ⟨c49⟩), (.bool b68)]) fun i69 H70 =>
 CA en F.ring_Run_plan [(.pointer a39), (.slice (some ⟨i69, 0, none⟩) 2 0)] H70 fun v71 H72 =>
 v71 = undef ∧
 (
 R undef H72) ∧
 ((((
 ∃ b81, (H37.bump 6).cellsAt i13 0 2 = some [.nilFunc, (.bool b81)] ∧
 sameN 8 (.agg #[(.func (.func f47) ⟨l48⟩ ⟨c49⟩), (.bool b68)]) (.agg #[.nilFunc, (.bool b81)]) = true) ∨
 (∃ f78 l79 c80, ∃ b82, (H37.bump 6).cellsAt i13 0 2 = some [(.func (.func f78) ⟨l79⟩ ⟨c80⟩), (.bool b82)] ∧
 sameN 8 (.agg #[(.func (.func f47) ⟨l48⟩ ⟨c49⟩), (.bool b68)]) (.agg #[(.func (.func f78) ⟨l79⟩ ⟨c80⟩), (.bool b82)]) = true))) ∧ (((
 ∃ b76, H42.cellsAt i13 0 2 = some [.nilFunc, (.bool b76)] ∧
 sameN 8 (.agg #[(.func (.func f47) ⟨l48⟩ ⟨c49⟩), (.bool b68)]) (.agg #[.nilFunc, (.bool b76)]) = true) ∨
 (∃ f73 l74 c75, ∃ b77, H42.cellsAt i13 0 2 = some [(.func (.func f73) ⟨l74⟩ ⟨c75⟩), (.bool b77)] ∧
 sameN 8 (.agg #[(.func (.func f47) ⟨l48⟩ ⟨c49⟩), (.bool b68)]) (.agg #[(.func (.func f73) ⟨l74⟩ ⟨c75⟩), (.bool b77)]) = true))) ∧ True) ∧
 ((∃ a85, (H37.bump 6).cell i1 0 = some (.pointer a85) ∧
 a39 = a85) ∧ (∃ a84, H42.cell i1 0 = some (.pointer a84) ∧
 a39 = a84) ∧ (∃ a83, H70.cell i1 0 = some (.pointer a83) ∧
 a39 = a83) ∧ True) ∧
 True))) ∨
 (∃ f43 l44 c45, ∃ b86, v41 = (.agg #[(.func (.func f43) ⟨l44⟩ ⟨c45⟩), (.bool b86)]) ∧
 ((
 ∃ b90, H42.cellsAt i13 0 2 = some [.nilFunc, (.bool b90)] ∧
 nwH H42 (.cells true 2 [(.func (.func f43) ⟨l44⟩ ⟨c45⟩), (.bool b86), .nilFunc, (.bool b90)]) fun i91 H92 =>
 CA en F.ring_Run_plan [(.pointer a39), (.slice (some ⟨i91, 0, none⟩) 2 0)] H92 fun v93 H94 =>
 v93 = undef ∧
 (
 R undef H94) ∧
 ((((
 ∃ b103, (H37.bump 6).cellsAt i13 0 2 = some [.nilFunc, (.bool b103)] ∧
 sameN 8 (.agg #[.nilFunc, (.bool b90)]) (.agg #[.nilFunc, (.bool b103)]) = true) ∨
 (∃ f100 l101 c102, ∃ b104, (H37.bump 6).cellsAt i13 0 2 = some [(.func (.func f100) ⟨l101⟩ ⟨c102⟩), (.bool b104)] ∧
 sameN 8 (.agg #[.nilFunc, (.bool b90)]) (.agg #[(.func (.func f100) ⟨l101⟩ ⟨c102⟩), (.bool b104)]) = true))) ∧ (((
 ∃ b98, H42.cellsAt i13 0 2 = some [.nilFunc, (.bool b98)] ∧
 sameN 8 (.agg #[.nilFunc, (.bool b90)]) (.agg #[.nilFunc, (.bool b98)]) = true) ∨
 (∃ f95 l96 c97, ∃ b99, H42.cellsAt i13 0 2 = some [(.func (.func f95) ⟨l96⟩ ⟨c97⟩), (.bool b99)] ∧
 sameN 8 (.agg #[.nilFunc, (.bool b90)]) (.agg #[(.func (.func f95) ⟨l96⟩ ⟨c97⟩), (.bool b99)]) = true))) ∧ True) ∧
 ((∃ a107, (H37.bump 6).cell i1 0 = some (.pointer a107) ∧
 a39 = a107) ∧ (∃ a106, H42.cell i1 0 = some (.pointer a106) ∧
 a39 = a106) ∧ (∃ a105, H92.cell i1 0 = some (.pointer a105) ∧
 a39 = a105) ∧ True) ∧
 True) ∨
 (∃ f87 l88 c89, ∃ b108, H42.cellsAt i13 0 2 = some [(.func (.func f87) ⟨l88⟩ ⟨c89⟩), (.bool b108)] ∧
 nwH H42 (.cells true 2 [(.func (.func f43) ⟨l44⟩ ⟨c45⟩), (.bool b86), (.func (.func f87) ⟨l88⟩ ⟨c89⟩), (.bool b108)]) fun i109 H110 =>
 CA en F.ring_Run_plan [(.pointer a39), (.slice (some ⟨i109, 0, none⟩) 2 0)] H110 fun v111 H112 =>
 v111 = undef ∧
 (
 R undef H112) ∧
 ((((
 ∃ b121, (H37.bump 6).cellsAt i13 0 2 = some [.nilFunc, (.bool b121)] ∧
 sameN 8 (.agg #[(.func (.func f87) ⟨l88⟩ ⟨c89⟩), (.bool b108)]) (.agg #[.nilFunc, (.bool b121)]) = true) ∨
 (∃ f118 l119 c120, ∃ b122, (H37.bump 6).cellsAt i13 0 2 = some [(.func (.func f118) ⟨l119⟩ ⟨c120⟩), (.bool b122)] ∧
 sameN 8 (.agg #[(.func (.func f87) ⟨l88⟩ ⟨c89⟩), (.bool b108)]) (.agg #[(.func (.func f118) ⟨l119⟩ ⟨c120⟩), (.bool b122)]) = true))) ∧ (((
 ∃ b116, H42.cellsAt i13 0 2 = some [.nilFunc, (.bool b116)] ∧
 sameN 8 (.agg #[(.func (.func f87) ⟨l88⟩ ⟨c89⟩), (.bool b108)]) (.agg #[.nilFunc, (.bool b116)]) = true) ∨
 (∃ f113 l114 c115, ∃ b117, H42.cellsAt i13 0 2 = some [(.func (.func f113) ⟨l114⟩ ⟨c115⟩), (.bool b117)] ∧
 sameN 8 (.agg #[(.func (.func f87) ⟨l88⟩ ⟨c89⟩), (.bool b108)]) (.agg #[(.func (.func f113) ⟨l114⟩ ⟨c115⟩), (.bool b117)]) = true))) ∧ True) ∧
 ((∃ a125, (H37.bump 6).cell i1 0 = some (.pointer a125) ∧
 a39 = a125) ∧ (∃ a124, H42.cell i1 0 = some (.pointer a124) ∧
 a39 = a124) ∧ (∃ a123, H110.cell i1 0 = some (.pointer a123) ∧
 a39 = a123) ∧ True) ∧
 True)))))
 else (
 ∃ a126, H37.cell i1 0 = some (.pointer a126) ∧
 AS.asAddr (.pointer a126) fun i127 i128 =>
 ∃ n129, H37.cell i127 (i128 + 1) = some (.int .i64 n129) ∧
 bif (n129 == 6) then (
 ∃ a130, H37.cell i1 0 = some (.pointer a130) ∧
 CA en F.ring_Run_push [(.pointer a130)] H37 fun v131 H132 =>
 v131 = undef ∧
 ∃ a133, H132.cell i1 0 = some (.pointer a133) ∧
 ((
 ∃ b137, H132.cellsAt i13 0 2 = some [.nilFunc, (.bool b137)] ∧
 nwH H132 (.cells true 2 [.nilFunc, (.bool b137)]) fun i138 H139 =>
 CA en F.ring_Run_plan [(.pointer a133), (.slice (some ⟨i138, 0, none⟩) 1 0)] H139 fun v140 H141 =>
 v140 = undef ∧
 R undef H141) ∨
 (∃ f134 l135 c136, ∃ b142, H132.cellsAt i13 0 2 = some [(.func (.func f134) ⟨l135⟩ ⟨c136⟩), (.bool b142)] ∧
 nwH H132 (.cells true 2 [(.func (.func f134) ⟨l135⟩ ⟨c136⟩), (.bool b142)]) fun i143 H144 =>
 CA en F.ring_Run_plan [(.pointer a133), (.slice (some ⟨i143, 0, none⟩) 1 0)] H144 fun v145 H146 =>
 v145 = undef ∧
 R undef H146)))
 else (
 ∃ a147, H37.cell i1 0 = some (.pointer a147) ∧
 AS.asAddr (.pointer a147) fun i148 i149 =>
 ∃ n150, H37.cell i148 (i149 + 15) = some (.int .i64 n150) ∧
 bif (n150 == 0) then (
 ∃ a151, (H37.bump 6).cell i1 0 = some (.pointer a151) ∧
 ∃ a152, (H37.bump 6).cell i1 0 = some (.pointer a152) ∧
 CA en F.ring_Run_fails [(.pointer a152), (.int .i64 2)] (H37.bump 6) fun v153 H154 =>
 ((
 ∃ b158, v153 = (.agg #[.nilFunc, (.bool b158)]) ∧
 ((
 ∃ b162, H154.cellsAt i13 0 2 = some [.nilFunc, (.bool b162)] ∧
 nwH H154 (.cells true 2 [.nilFunc, (.bool b158), .nilFunc, (.bool b162)]) fun i163 H164 =>
 CA en F.ring_Run_plan [(.pointer a151), (.slice (some ⟨i163, 0, none⟩) 2 0)] H164 fun v165 H166 =>
 v165 = undef ∧
 (
 R undef H166) ∧
 ((((
 ∃ b175, (H37.bump 6).cellsAt i13 0 2 = some [.nilFunc, (.bool b175)] ∧
 sameN 8 (.agg #[.nilFunc, (.bool b162)]) (.agg #[.nilFunc, (.bool b175)]) = true) ∨
 (∃ f172 l173 c174, ∃ b176, (H37.bump 6).cellsAt i13 0 2 = some [(.func (.func f172) ⟨l173⟩ ⟨c174⟩), (.bool b176)] ∧
 sameN 8 (.agg #[.nilFunc, (.bool b162)]) (.agg #[(.func (.func f172) ⟨l173⟩ ⟨c174⟩), (.bool b176)]) = true))) ∧ (((
 ∃ b170, H154.cellsAt i13 0 2 = some [.nilFunc, (.bool b170)] ∧
 sameN 8 (.agg #[.nilFunc, (.bool b162)]) (.agg #[.nilFunc, (.bool b170)]) = true) ∨
 (∃ f167 l168 c169, ∃ b171, H154.cellsAt i13 0 2 = some [(.func (.func f167) ⟨l168⟩ ⟨c169⟩), (.bool b171)] ∧
 sameN 8 (.agg #[.nilFunc, (.bool b162)]) (.agg #[(.func (.func f167) ⟨l168⟩ ⟨c169⟩), (.bool b171)]) = true))) ∧ True) ∧
 ((∃ a179, (H37.bump 6).cell i1 0 = some (.pointer a179) ∧
 a151 = a179) ∧ (∃ a178, H154.cell i1 0 = some (.pointer a178) ∧
 a151 = a178) ∧ (∃ a177, H164.cell i1 0 = some (.pointer a177) ∧
 a151 = a177) ∧ True) ∧
 True) ∨
 (∃ f159 l160 c161, ∃ b180, H154.cellsAt i13 0 2 = some [(.func (.func f159) ⟨l160⟩ ⟨c161⟩), (.bool b180)] ∧
 nwH H154 (.cells true 2 [.nilFunc, (.bool b158), (.func (.func f159) ⟨l160⟩ ⟨c161⟩), (.bool b180)]) fun i181 H182 =>
 CA en F.ring_Run_plan [(.pointer a151), (.slice (some ⟨i181, 0, none⟩) 2 0)] H182 fun v183 H184 =>
 v183 = undef ∧
 (
 R undef H184) ∧
 ((((
 ∃ b193, (H37.bump 6).cellsAt i13 0 2 = some [.nilFunc, (.bool b193)] ∧
 sameN 8 (.agg #[(.func (.func f159) ⟨l160⟩ ⟨c161⟩), (.bool b180)]) (.agg #[.nilFunc, (.bool b193)]) = true) ∨
 (∃ f190 l191 c192, ∃ b194, (H37.bump 6).cellsAt i13 0 2 = some [(.func (.func f190) ⟨l191⟩ ⟨c192⟩), (.bool b194)] ∧
 sameN 8 (.agg #[(.func (.func f159) ⟨l160⟩ ⟨c161⟩), (.bool b180)]) (.agg #[(.func (.func f190) ⟨l191⟩ ⟨c192⟩), (.bool b194)]) = true))) ∧ (((
 ∃ b188, H154.cellsAt i13 0 2 = some [.nilFunc, (.bool b188)] ∧
 sameN 8 (.agg #[(.func (.func f159) ⟨l160⟩ ⟨c161⟩), (.bool b180)]) (.agg #[.nilFunc, (.bool b188)]) = true) ∨
 (∃ f185 l186 c187, ∃ b189, H154.cellsAt i13 0 2 = some [(.func (.func f185) ⟨l186⟩ ⟨c187⟩), (.bool b189)] ∧
 sameN 8 (.agg #[(.func (.func f159) ⟨l160⟩ ⟨c161⟩), (.bool b180)]) (.agg #[(.func (.func f185) ⟨l186⟩ ⟨c187⟩), (.bool b189)]) = true))) ∧ True) ∧
 ((∃ a197, (H37.bump 6).cell i1 0 = some (.pointer a197) ∧
 a151 = a197) ∧ (∃ a196, H154.cell i1 0 = some (.pointer a196) ∧
 a151 = a196) ∧ (∃ a195, H182.cell i1 0 = some (.pointer a195) ∧
 a151 = a195) ∧ True) ∧
 True))) ∨
 (∃ f155 l156 c157, ∃ b198, v153 = (.agg #[(.func (.func f155) ⟨l156⟩ ⟨c157⟩), (.bool b198)]) ∧
 ((
 ∃ b202, H154.cellsAt i13 0 2 = some [.nilFunc, (.bool b202)] ∧
 nwH H154 (.cells true 2 [(.func (.func f155) ⟨l156⟩ ⟨c157⟩), (.bool b198), .nilFunc, (.bool b202)]) fun i203 H204 =>
 CA en F.ring_Run_plan [(.pointer a151), (.slice (some ⟨i203, 0, none⟩) 2 0)] H204 fun v205 H206 =>
 v205 = undef ∧
 (
 R undef H206) ∧
 ((((
 ∃ b215, (H37.bump 6).cellsAt i13 0 2 = some [.nilFunc, (.bool b215)] ∧
 sameN 8 (.agg #[.nilFunc, (.bool b202)]) (.agg #[.nilFunc, (.bool b215)]) = true) ∨
 (∃ f212 l213 c214, ∃ b216, (H37.bump 6).cellsAt i13 0 2 = some [(.func (.func f212) ⟨l213⟩ ⟨c214⟩), (.bool b216)] ∧
 sameN 8 (.agg #[.nilFunc, (.bool b202)]) (.agg #[(.func (.func f212) ⟨l213⟩ ⟨c214⟩), (.bool b216)]) = true))) ∧ (((
 ∃ b210, H154.cellsAt i13 0 2 = some [.nilFunc, (.bool b210)] ∧
 sameN 8 (.agg #[.nilFunc, (.bool b202)]) (.agg #[.nilFunc, (.bool b210)]) = true) ∨
 (∃ f207 l208 c209, ∃ b211, H154.cellsAt i13 0 2 = some [(.func (.func f207) ⟨l208⟩ ⟨c209⟩), (.bool b211)] ∧
 sameN 8 (.agg #[.nilFunc, (.bool b202)]) (.agg #[(.func (.func f207) ⟨l208⟩ ⟨c209⟩), (.bool b211)]) = true))) ∧ True) ∧
 ((∃ a219, (H37.bump 6).cell i1 0 = some (.pointer a219) ∧
 a151 = a219) ∧ (∃ a218, H154.cell i1 0 = some (.pointer a218) ∧
 a151 = a218) ∧ (∃ a217, H204.cell i1 0 = some (.pointer a217) ∧
 a151 = a217) ∧ True) ∧
 True) ∨
 (∃ f199 l200 c201, ∃ b220, H154.cellsAt i13 0 2 = some [(.func (.func f199) ⟨l200⟩ ⟨c201⟩), (.bool b220)] ∧
 nwH H154 (.cells true 2 [(.func (.func f155) ⟨l156⟩ ⟨c157⟩), (.bool b198), (.func (.func f199) ⟨l200⟩ ⟨c201⟩), (.bool b220)]) fun i221 H222 =>
 CA en F.ring_Run_plan [(.pointer a151), (.slice (some ⟨i221, 0, none⟩) 2 0)] H222 fun v223 H224 =>
 v223 = undef ∧
 (
 R undef H224) ∧
 ((((
 ∃ b233, (H37.bump 6).cellsAt i13 0 2 = some [.nilFunc, (.bool b233)] ∧
 sameN 8 (.agg #[(.func (.func f199) ⟨l200⟩ ⟨c201⟩), (.bool b220)]) (.agg #[.nilFunc, (.bool b233)]) = true) ∨
 (∃ f230 l231 c232, ∃ b234, (H37.bump 6).cellsAt i13 0 2 = some [(.func (.func f230) ⟨l231⟩ ⟨c232⟩), (.bool b234)] ∧
 sameN 8 (.agg #[(.func (.func f199) ⟨l200⟩ ⟨c201⟩), (.bool b220)]) (.agg #[(.func (.func f230) ⟨l231⟩ ⟨c232⟩), (.bool b234)]) = true))) ∧ (((
 ∃ b228, H154.cellsAt i13 0 2 = some [.nilFunc, (.bool b228)] ∧
 sameN 8 (.agg #[(.func (.func f199) ⟨l200⟩ ⟨c201⟩), (.bool b220)]) (.agg #[.nilFunc, (.bool b228)]) = true) ∨
 (∃ f225 l226 c227, ∃ b229, H154.cellsAt i13 0 2 = some [(.func (.func f225) ⟨l226⟩ ⟨c227⟩), (.bool b229)] ∧
 sameN 8 (.agg #[(.func (.func f199) ⟨l200⟩ ⟨c201⟩), (.bool b220)]) (.agg #[(.func (.func f225) ⟨l226⟩ ⟨c227⟩), (.bool b229)]) = true))) ∧ True) ∧
 ((∃ a237, (H37.bump 6).cell i1 0 = some (.pointer a237) ∧
 a151 = a237) ∧ (∃ a236, H154.cell i1 0 = some (.pointer a236) ∧
 a151 = a236) ∧ (∃ a235, H222.cell i1 0 = some (.pointer a235) ∧
 a151 = a235) ∧ True) ∧
 True)))))
 else (
 ∃ a238, H37.cell i1 0 = some (.pointer a238) ∧
 CA en F.ring_Run_pull [(.pointer a238)] H37 fun v239 H240 =>
 v239 = undef ∧
 ∃ a241, H240.cell i1 0 = some (.pointer a241) ∧
 ((
 ∃ b245, H240.cellsAt i13 0 2 = some [.nilFunc, (.bool b245)] ∧
 nwH H240 (.cells true 2 [.nilFunc, (.bool b245)]) fun i246 H247 =>
 CA en F.ring_Run_plan [(.pointer a241), (.slice (some ⟨i246, 0, none⟩) 1 0)] H247 fun v248 H249 =>
 v248 = undef ∧
 R undef H249) ∨
 (∃ f242 l243 c244, ∃ b250, H240.cellsAt i13 0 2 = some [(.func (.func f242) ⟨l243⟩ ⟨c244⟩), (.bool b250)] ∧
 nwH H240 (.cells true 2 [(.func (.func f242) ⟨l243⟩ ⟨c244⟩), (.bool b250)]) fun i251 H252 =>
 CA en F.ring_Run_plan [(.pointer a241), (.slice (some ⟨i251, 0, none⟩) 1 0)] H252 fun v253 H254 =>
 v253 = undef ∧
 R undef H254)))))) ∧
 ((∃ a12, (H2.bump 6).cell i1 0 = some (.pointer a12) ∧
 a3 = a12) ∧ (∃ a11, H6.cell i1 0 = some (.pointer a11) ∧
 a3 = a11) ∧ True) ∧
 True) →
    CA en F.ring_Run_looks [(.pointer x0)] H R := by
  intro h
  refine wpFnC_ok (C := [none, none, none, some [(16, (.bool false))], none, none, none, none]) (Z := []) (fn := Go.Proofs.Tryz.f32) ?_ ?_ ?_
  · kernel_rfl
  · kernel_rfl
  · apply turnInto h
    kernel_rfl


/-! ring_Run_Result -/

theorem vc_ring_Run_Result (x0 : Option Addr) (H : Heap) (R : Value → Heap → Prop) :
    (
 nwH H (.cells true 0 [(.int .i64 0), (.slice none 0 0), (.int .u64 0), (.int .i64 0)]) fun i1 H2 =>
 AS.asAddr (.pointer x0) fun i3 i4 =>
 ∃ n5, ∃ a6 i7, ∃ n8, ∃ n9, H2.cellsAt i3 (i4 + 8) 4 = some [(.int .i64 n5), (.slice a6 i7 0), (.int .u64 n8), (.int .i64 n9)] ∧
 nwH H2 (.cells true 0 [(.int .i64 0), (.slice none 0 0), (.int .u64 0), (.int .i64 0)]) fun i10 H11 =>
 stc H11 i10 0 [(.int .i64 n5), (.slice a6 i7 0), (.int .u64 n8), (.int .i64 n9)] fun H12 =>
 AS.asAddr (.pointer x0) fun i13 i14 =>
 ∃ a15 i16, H12.cell i13 ((i14 + 8) + 1) = some (.slice a15 i16 0) ∧
 CA en F.slices_Clone_uint64_uint64 [(.slice a15 i16 0)] H12 fun v17 H18 =>
 ∃ a19 i20, v17 = (.slice a19 i20 0) ∧
 stc H18 i10 1 [(.slice a19 i20 0)] fun H21 =>
 ∃ n22, ∃ a23 i24, ∃ n25, ∃ n26, H21.cellsAt i10 0 4 = some [(.int .i64 n22), (.slice a23 i24 0), (.int .u64 n25), (.int .i64 n26)] ∧
 stc H21 i1 0 [(.int .i64 n22), (.slice a23 i24 0), (.int .u64 n25), (.int .i64 n26)] fun H27 =>
 ∃ n28, ∃ a29 i30, ∃ n31, ∃ n32, H27.cellsAt i1 0 4 = some [(.int .i64 n28), (.slice a29 i30 0), (.int .u64 n31), (.int .i64 n32)] ∧
 R (.agg #[(.int .i64 n28), (.slice a29 i30 0), (.int .u64 n31), (.int .i64 n32)]) H27) →
    CA en F.ring_Run_Result [(.pointer x0)] H R := by
  intro h
  refine wpFn_ok (Z := []) (fn := Go.Proofs.Tryz.f40) ?_ ?_ ?_
  · kernel_rfl
  · kernel_rfl
  · apply turnInto h
    kernel_rfl


/-! ring_Run_load -/

theorem vc_ring_Run_load (x0 : Option Addr) (x1 : Int) (H : Heap) (R : Value → Heap → Prop) :
    (
 AS.asAddr (.pointer x0) fun i1 i2 =>
 ∃ a3, (H.bump 21).cell i1 i2 = some (.pointer a3) ∧
 AS.asAddr (.pointer a3) fun i4 i5 =>
 ∃ a6, (H.bump 21).cell i4 i5 = some (.pointer a6) ∧
 AS.asAddr (.pointer x0) fun i7 i8 =>
 ∃ a9, (H.bump 21).cell i7 i8 = some (.pointer a9) ∧
 AS.asAddr (.pointer a9) fun i10 i11 =>
 ∃ n12, (H.bump 21).cell i10 (i11 + 6) = some (.int .i64 n12) ∧
 CA en F.smem_Mem_Load [(.pointer a6), (.int .i64 n12), (.int .i64 x1)] (H.bump 21) fun v13 H14 =>
 ∃ n15, ∃ b16, v13 = (.tuple #[(.int .u64 n15), (.bool b16)]) ∧
 (
 R (.int .i64 (IntKind.i64.wrap n15)) H14) ∧
 True) →
    CA en F.ring_Run_load [(.pointer x0), (.int .i64 x1)] H R := by
  intro h
  refine wpFn_ok (Z := []) (fn := Go.Proofs.Tryz.f44) ?_ ?_ ?_
  · kernel_rfl
  · kernel_rfl
  · apply turnInto h
    kernel_rfl


/-! ring_Run_looks_1 -/

theorem vc_ring_Run_looks_1 (c0 : Option Addr) (H : Heap) (R : Value → Heap → Prop) :
    (
 AS.asAddr (.pointer c0) fun i1 i2 =>
 ∃ a3, (H.bump 15).cell i1 i2 = some (.pointer a3) ∧
 AS.asAddr (.pointer a3) fun i4 i5 =>
 ∃ a6, (H.bump 15).cell i4 i5 = some (.pointer a6) ∧
 AS.asAddr (.pointer a6) fun i7 i8 =>
 ∃ a9, (H.bump 15).cell i7 i8 = some (.pointer a9) ∧
 AS.asAddr (.pointer c0) fun i10 i11 =>
 ∃ a12, (H.bump 15).cell i10 i11 = some (.pointer a12) ∧
 AS.asAddr (.pointer a12) fun i13 i14 =>
 ∃ a15, (H.bump 15).cell i13 i14 = some (.pointer a15) ∧
 AS.asAddr (.pointer a15) fun i16 i17 =>
 ∃ n18, (H.bump 15).cell i16 (i17 + 6) = some (.int .i64 n18) ∧
 CA en F.lock_Drop [(.pointer a9), (.int .i64 n18), (.int .i64 0)] (H.bump 15) fun v19 H20 =>
 ∃ b21, v19 = (.bool b21) ∧
 (
 R undef H20) ∧
 True) →
    CA en F.ring_Run_looks_1 [(.pointer c0)] H R := by
  intro h
  refine wpFn_ok (Z := []) (fn := Go.Proofs.Tryz.f45) ?_ ?_ ?_
  · kernel_rfl
  · kernel_rfl
  · apply turnInto h
    kernel_rfl


/-! ring_Run_fails -/

theorem vc_ring_Run_fails (x0 : Option Addr) (x1 : Int) (H : Heap) (R : Value → Heap → Prop) :
    (
 nwH H (.cells true 0 [(.pointer x0)]) fun i1 H2 =>
 nwH H2 (.cells true 0 [(.int .i64 x1)]) fun i3 H4 =>
 nwH H4 (.cells true 0 [.nilFunc, (.bool false)]) fun i5 H6 =>
 stc H6 i5 0 [(.func (.func F.ring_Run_fails_1) #[] #[(.pointer (some ⟨i3, 0, none⟩)), (.pointer (some ⟨i1, 0, none⟩))]), (.bool true)] fun H7 =>
 ((
 ∃ b11, H7.cellsAt i5 0 2 = some [.nilFunc, (.bool b11)] ∧
 R (.agg #[.nilFunc, (.bool b11)]) H7) ∨
 (∃ f8 l9 c10, ∃ b12, H7.cellsAt i5 0 2 = some [(.func (.func f8) ⟨l9⟩ ⟨c10⟩), (.bool b12)] ∧
 R (.agg #[(.func (.func f8) ⟨l9⟩ ⟨c10⟩), (.bool b12)]) H7))) →
    CA en F.ring_Run_fails [(.pointer x0), (.int .i64 x1)] H R := by
  intro h
  refine wpFn_ok (Z := []) (fn := Go.Proofs.Tryz.f47) ?_ ?_ ?_
  · kernel_rfl
  · kernel_rfl
  · apply turnInto h
    kernel_rfl


/-! ring_Run_push -/
noncomputable def L_ring_Run_push_0 : Code := loopAt Go.Proofs.Tryz.f48 0

theorem vc_ring_Run_push (x0 : Option Addr) (H : Heap) (R : Value → Heap → Prop) :
    (
 nwH H (.cells true 0 [(.pointer x0)]) fun i1 H2 =>
 ∃ J3 : List Value → Heap → Prop, (
 ∃ a4, (H2.bump 13).cell i1 0 = some (.pointer a4) ∧
 AS.asAddr (.pointer a4) fun i5 i6 =>
 ∃ n7, (H2.bump 13).cell i5 (i6 + 15) = some (.int .i64 n7) ∧
 ∃ a8, (H2.bump 13).cell i1 0 = some (.pointer a8) ∧
 AS.asAddr (.pointer a8) fun i9 i10 =>
 ∃ a11, (H2.bump 13).cell i9 i10 = some (.pointer a11) ∧
 AS.asAddr (.pointer a11) fun i12 i13 =>
 ∃ n14, (H2.bump 13).cell i12 ((i13 + 1) + 1) = some (.int .i64 n14) ∧
 (
 bif (n7 == n14) then (
 ∃ a15, ((H2.bump 13).bump 19).cell i1 0 = some (.pointer a15) ∧
 ∃ a16, ((H2.bump 13).bump 19).cell i1 0 = some (.pointer a16) ∧
 ∃ a17, ((H2.bump 13).bump 19).cell i1 0 = some (.pointer a17) ∧
 AS.asAddr (.pointer a17) fun i18 i19 =>
 ∃ n20, ((H2.bump 13).bump 19).cell i18 (i19 + 14) = some (.int .i64 n20) ∧
 ∃ a21, ((H2.bump 13).bump 19).cell i1 0 = some (.pointer a21) ∧
 AS.asAddr (.pointer a21) fun i22 i23 =>
 ∃ a24, ((H2.bump 13).bump 19).cell i22 i23 = some (.pointer a24) ∧
 AS.asAddr (.pointer a24) fun i25 i26 =>
 ∃ n27, ((H2.bump 13).bump 19).cell i25 ((i26 + 1) + 1) = some (.int .i64 n27) ∧
 nz n27 ∧
 CA en F.ring_Run_sets [(.pointer a16), (.int .i64 2), (.int .i64 (Int.tmod (IntKind.i64.wrap (n20 + 1)) n27))] ((H2.bump 13).bump 19) fun v28 H29 =>
 ((
 ∃ b33, v28 = (.agg #[.nilFunc, (.bool b33)]) ∧
 nwH H29 (.cells true 2 [.nilFunc, (.bool b33)]) fun i34 H35 =>
 CA en F.ring_Run_plan [(.pointer a15), (.slice (some ⟨i34, 0, none⟩) 1 0)] H35 fun v36 H37 =>
 v36 = undef ∧
 (
 J3 [] H37) ∧
 ((∃ a40, ((H2.bump 13).bump 19).cell i1 0 = some (.pointer a40) ∧
 a15 = a40) ∧ (∃ a39, H29.cell i1 0 = some (.pointer a39) ∧
 a15 = a39) ∧ (∃ a38, H35.cell i1 0 = some (.pointer a38) ∧
 a15 = a38) ∧ True) ∧
 True) ∨
 (∃ f30 l31 c32, ∃ b41, v28 = (.agg #[(.func (.func f30) ⟨l31⟩ ⟨c32⟩), (.bool b41)]) ∧
 nwH H29 (.cells true 2 [(.func (.func f30) ⟨l31⟩ ⟨c32⟩), (.bool b41)]) fun i42 H43 =>
 CA en F.ring_Run_plan [(.pointer a15), (.slice (some ⟨i42, 0, none⟩) 1 0)] H43 fun v44 H45 =>
 v44 = undef ∧
 (
 J3 [] H45) ∧
 ((∃ a48, ((H2.bump 13).bump 19).cell i1 0 = some (.pointer a48) ∧
 a15 = a48) ∧ (∃ a47, H29.cell i1 0 = some (.pointer a47) ∧
 a15 = a47) ∧ (∃ a46, H43.cell i1 0 = some (.pointer a46) ∧
 a15 = a46) ∧ True) ∧
 True)))
 else (
 ∃ a49, ((H2.bump 13).bump 10).cell i1 0 = some (.pointer a49) ∧
 ∃ a50, ((H2.bump 13).bump 10).cell i1 0 = some (.pointer a50) ∧
 ∃ a51, ((H2.bump 13).bump 10).cell i1 0 = some (.pointer a51) ∧
 AS.asAddr (.pointer a51) fun i52 i53 =>
 ∃ n54, ((H2.bump 13).bump 10).cell i52 (i53 + 15) = some (.int .i64 n54) ∧
 CA en F.ring_Run_sets [(.pointer a50), (.int .i64 3), (.int .i64 (IntKind.i64.wrap (n54 + 1)))] ((H2.bump 13).bump 10) fun v55 H56 =>
 ((
 ∃ b60, v55 = (.agg #[.nilFunc, (.bool b60)]) ∧
 nwH H56 (.cells true 2 [.nilFunc, (.bool b60)]) fun i61 H62 =>
 CA en F.ring_Run_plan [(.pointer a49), (.slice (some ⟨i61, 0, none⟩) 1 0)] H62 fun v63 H64 =>
 v63 = undef ∧
 (
 J3 [] H64) ∧
 ((∃ a67, ((H2.bump 13).bump 10).cell i1 0 = some (.pointer a67) ∧
 a49 = a67) ∧ (∃ a66, H56.cell i1 0 = some (.pointer a66) ∧
 a49 = a66) ∧ (∃ a65, H62.cell i1 0 = some (.pointer a65) ∧
 a49 = a65) ∧ True) ∧
 True) ∨
 (∃ f57 l58 c59, ∃ b68, v55 = (.agg #[(.func (.func f57) ⟨l58⟩ ⟨c59⟩), (.bool b68)]) ∧
 nwH H56 (.cells true 2 [(.func (.func f57) ⟨l58⟩ ⟨c59⟩), (.bool b68)]) fun i69 H70 =>
 CA en F.ring_Run_plan [(.pointer a49), (.slice (some ⟨i69, 0, none⟩) 1 0)] H70 fun v71 H72 =>
 v71 = undef ∧
 (
 J3 [] H72) ∧
 ((∃ a75, ((H2.bump 13).bump 10).cell i1 0 = some (.pointer a75) ∧
 a49 = a75) ∧ (∃ a74, H56.cell i1 0 = some (.pointer a74) ∧
 a49 = a74) ∧ (∃ a73, H70.cell i1 0 = some (.pointer a73) ∧
 a49 = a73) ∧ True) ∧
 True)))) ∧
 True) ∧
 ∀ (ys76 : Fr) (H77 : Heap), J3 [] H77 →
 ∃ a78, ((H77.bump 8).set (H77.next + 6) (.cells true 0 [(.int .i64 0)])).cell i1 0 = some (.pointer a78) ∧
 ∃ a79, ((H77.bump 8).set (H77.next + 6) (.cells true 0 [(.int .i64 0)])).cell i1 0 = some (.pointer a79) ∧
 AS.asAddr (.pointer a79) fun i80 i81 =>
 ∃ n82, ((H77.bump 8).set (H77.next + 6) (.cells true 0 [(.int .i64 0)])).cell i80 (i81 + 15) = some (.int .i64 n82) ∧
 CA en F.ring_Run_at [(.pointer a78), (.int .i64 n82)] ((H77.bump 8).set (H77.next + 6) (.cells true 0 [(.int .i64 0)])) fun v83 H84 =>
 ∃ n85, v83 = (.int .i64 n85) ∧
 stc H84 (H77.next + 6) 0 [(.int .i64 n85)] fun H86 =>
 (
 ∃ a89, H86.cell i1 0 = some (.pointer a89) ∧
 AS.asAddr (.pointer a89) fun i90 i91 =>
 ∃ a92 i93, H86.cell i90 ((i91 + 1) + 2) = some (.slice a92 i93 0) ∧
 LA en L_ring_Run_push_0 [(.pointer x0), (.pointer (some ⟨i1, 0, none⟩)), (.pointer (some ⟨(H77.next + 6), 0, none⟩)), undef, undef, (ys76.getD 5 undef), (ys76.getD 6 undef), (ys76.getD 7 undef), (ys76.getD 8 undef), (ys76.getD 9 undef), (ys76.getD 10 undef), (ys76.getD 11 undef), (ys76.getD 12 undef), (ys76.getD 13 undef), (ys76.getD 14 undef), (ys76.getD 15 undef), (ys76.getD 16 undef), (ys76.getD 17 undef), (ys76.getD 18 undef), (ys76.getD 19 undef), (ys76.getD 20 undef), (ys76.getD 21 undef), (ys76.getD 22 undef), (ys76.getD 23 undef), (ys76.getD 24 undef), (ys76.getD 25 undef), (ys76.getD 26 undef), (ys76.getD 27 undef), (ys76.getD 28 undef), (ys76.getD 29 undef), (ys76.getD 30 undef), (ys76.getD 31 undef), (ys76.getD 32 undef), (ys76.getD 33 undef), (ys76.getD 34 undef), (ys76.getD 35 undef), (ys76.getD 36 undef), (ys76.getD 37 undef), (ys76.getD 38 undef), (ys76.getD 39 undef), (ys76.getD 40 undef), (ys76.getD 41 undef), (ys76.getD 42 undef), (ys76.getD 43 undef), (ys76.getD 44 undef), (ys76.getD 45 undef), (ys76.getD 46 undef), (.pointer a78), (.pointer a79), (.pointer (some ⟨i80, i81, none⟩)), (.pointer (some ⟨i80, (i81 + 15), none⟩)), (.int .i64 n82), (.int .i64 n85), (.pointer a89), (.pointer (some ⟨i90, i91, none⟩)), (.pointer (some ⟨i90, (i91 + 1), none⟩)), (.pointer (some ⟨i90, ((i91 + 1) + 2), none⟩)), (.slice a92 i93 0), (.int .i64 ((i93 : Nat) : Int)), (.int .i64 0), undef, undef, undef, undef, undef, undef, undef, undef, undef, undef, undef, undef, undef, undef, undef, undef, undef, undef, undef] H86 [(X.exit 0, fun (y94 : Fr) (H95 : Heap) =>
 R undef H95)]) ∧
 ((∃ c88, ((H77.bump 8).set (H77.next + 6) (.cells true 0 [(.int .i64 0)])).get (H77.next + 6) = some (.cells true 0 c88) ∧ sameN.sameL 8 [(.int .i64 0)] c88 = true) ∧ (∃ c87, H84.get (H77.next + 6) = some (.cells true 0 c87) ∧ sameN.sameL 8 [(.int .i64 0)] c87 = true) ∧ True) ∧
 True) →
    CA en F.ring_Run_push [(.pointer x0)] H R := by
  intro h
  refine wpFnC_ok (C := [none, some [], none, none, none]) (Z := [[]]) (fn := Go.Proofs.Tryz.f48) ?_ ?_ ?_
  · kernel_rfl
  · kernel_rfl
  · apply turnInto h
    kernel_rfl

theorem use_ring_Run_push_0 {t0 : Option Addr} {t1 : Nat} {t2 : Nat} {t5 : Value} {t6 : Value} {t7 : Value} {t8 : Value} {t9 : Value} {t10 : Value} {t11 : Value} {t12 : Value} {t13 : Value} {t14 : Value} {t15 : Value} {t16 : Value} {t17 : Value} {t18 : Value} {t19 : Value} {t20 : Value} {t21 : Value} {t22 : Value} {t23 : Value} {t24 : Value} {t25 : Value} {t26 : Value} {t27 : Value} {t28 : Value} {t29 : Value} {t30 : Value} {t31 : Value} {t32 : Value} {t33 : Value} {t34 : Value} {t35 : Value} {t36 : Value} {t37 : Value} {t38 : Value} {t39 : Value} {t40 : Value} {t41 : Value} {t42 : Value} {t43 : Value} {t44 : Value} {t45 : Value} {t46 : Value} {t47 : Option Addr} {t48 : Option Addr} {t49 : Nat} {t49o : Nat} {t50 : Nat} {t50o : Nat} {t51 : Int} {t52 : Int} {t53 : Option Addr} {t54 : Nat} {t54o : Nat} {t55 : Nat} {t55o : Nat} {t56 : Nat} {t56o : Nat} {t57 : Option Addr} {t57l : Nat} {t58 : Int} {K0 : Fr → Heap → Prop} {t59 : Int} {t3 : Value} {t4 : Value} {t60 : Value} {t61 : Value} {t62 : Value} {t63 : Value} {t64 : Value} {t65 : Value} {t66 : Value} {t67 : Value} {t68 : Value} {t69 : Value} {t70 : Value} {t71 : Value} {t72 : Value} {t73 : Value} {t74 : Value} {t75 : Value} {t76 : Value} {t77 : Value} {t78 : Value} {H : Heap} (I : Nat → Int → Heap → Prop) (n : Nat) (h0 : I n t59 H)
    (hstep : ∀ (n : Nat) (t59 : Int) (ys : Fr) (H : Heap), I n t59 H →
    (
 bif (decide (t59 < t58)) then (
 inB t59 t57l ∧
 asRow t57 fun i1 i2 =>
 ∃ n3, H.cell i1 (i2 + (t59.toNat * 1)) = some (.int .u64 n3) ∧
 nwH H (.cells true 0 [(.int .i64 0)]) fun i4 H5 =>
 nwH H5 (.cells true 0 [(.int .u64 0)]) fun i6 H7 =>
 stc H7 i4 0 [(.int .i64 t59)] fun H8 =>
 stc H8 i6 0 [(.int .u64 n3)] fun H9 =>
 ∃ a10, (H9.bump 14).cell t1 0 = some (.pointer a10) ∧
 ∃ n11, (H9.bump 14).cell i4 0 = some (.int .i64 n11) ∧
 ∃ a12, (H9.bump 14).cell t1 0 = some (.pointer a12) ∧
 AS.asAddr (.pointer a12) fun i13 i14 =>
 ∃ a15 i16, (H9.bump 14).cell i13 ((i14 + 1) + 2) = some (.slice a15 i16 0) ∧
 nwH (H9.bump 14) (.cells true 2 [(.func (.func F.ring_Run_push_1) #[] #[(.pointer (some ⟨t1, 0, none⟩)), (.pointer (some ⟨t2, 0, none⟩)), (.pointer (some ⟨i4, 0, none⟩)), (.pointer (some ⟨i6, 0, none⟩))]), (.bool (n11 == (IntKind.i64.wrap (((i16 : Nat) : Int) - 1))))]) fun i17 H18 =>
 CA en F.ring_Run_plan [(.pointer a10), (.slice (some ⟨i17, 0, none⟩) 1 0)] H18 fun v19 H20 =>
 v19 = undef ∧
 (
 ∃ k23, k23 < n ∧
 I k23 (IntKind.i64.wrap (t59 + 1)) H20) ∧
 ((∃ a22, (H9.bump 14).cell t1 0 = some (.pointer a22) ∧
 a10 = a22) ∧ (∃ a21, H18.cell t1 0 = some (.pointer a21) ∧
 a10 = a21) ∧ True) ∧
 True)
 else (
 K0 [(.pointer t0), (.pointer (some ⟨t1, 0, none⟩)), (.pointer (some ⟨t2, 0, none⟩)), (ys.getD 3 undef), (ys.getD 4 undef), t5, t6, t7, t8, t9, t10, t11, t12, t13, t14, t15, t16, t17, t18, t19, t20, t21, t22, t23, t24, t25, t26, t27, t28, t29, t30, t31, t32, t33, t34, t35, t36, t37, t38, t39, t40, t41, t42, t43, t44, t45, t46, (.pointer t47), (.pointer t48), (.pointer (some ⟨t49, t49o, none⟩)), (.pointer (some ⟨t50, t50o, none⟩)), (.int .i64 t51), (.int .i64 t52), (.pointer t53), (.pointer (some ⟨t54, t54o, none⟩)), (.pointer (some ⟨t55, t55o, none⟩)), (.pointer (some ⟨t56, t56o, none⟩)), (.slice t57 t57l 0), (.int .i64 t58), (.int .i64 t59), (.bool false), (ys.getD 61 undef), (ys.getD 62 undef), (ys.getD 63 undef), (ys.getD 64 undef), (ys.getD 65 undef), (ys.getD 66 undef), (ys.getD 67 undef), (ys.getD 68 undef), (ys.getD 69 undef), (ys.getD 70 undef), (ys.getD 71 undef), (ys.getD 72 undef), (ys.getD 73 undef), (ys.getD 74 undef), (ys.getD 75 undef), (ys.getD 76 undef), (ys.getD 77 undef), (ys.getD 78 undef)] H))) :
    LA en L_ring_Run_push_0 [(.pointer t0), (.pointer (some ⟨t1, 0, none⟩)), (.pointer (some ⟨t2, 0, none⟩)), t3, t4, t5, t6, t7, t8, t9, t10, t11, t12, t13, t14, t15, t16, t17, t18, t19, t20, t21, t22, t23, t24, t25, t26, t27, t28, t29, t30, t31, t32, t33, t34, t35, t36, t37, t38, t39, t40, t41, t42, t43, t44, t45, t46, (.pointer t47), (.pointer t48), (.pointer (some ⟨t49, t49o, none⟩)), (.pointer (some ⟨t50, t50o, none⟩)), (.int .i64 t51), (.int .i64 t52), (.pointer t53), (.pointer (some ⟨t54, t54o, none⟩)), (.pointer (some ⟨t55, t55o, none⟩)), (.pointer (some ⟨t56, t56o, none⟩)), (.slice t57 t57l 0), (.int .i64 t58), (.int .i64 t59), t60, t61, t62, t63, t64, t65, t66, t67, t68, t69, t70, t71, t72, t73, t74, t75, t76, t77, t78] H [(X.exit 0, K0)] := by
  refine LA_rule (Z := []) (fun m xs H' => AS.asInt .i64 (xs.getD 59 undef) fun t59 => I m t59 H') ?_ n H ?_
  · intro n H
    suffices hs : ∀ s60 : Value, ∀ s61 : Value, ∀ s62 : Value, ∀ s63 : Value, ∀ s3 : Value, ∀ s4 : Value, ∀ s64 : Value, ∀ s65 : Value, ∀ s66 : Value, ∀ s67 : Value, ∀ s68 : Value, ∀ s69 : Value, ∀ s70 : Value, ∀ s71 : Value, ∀ s72 : Value, ∀ s73 : Value, ∀ s74 : Value, ∀ s75 : Value, ∀ s76 : Value, ∀ s77 : Value, ∀ s78 : Value, ∀ s59 : Value, ((AS.asInt .i64 s59 fun t59 => I n t59 H) → wpCode en L_ring_Run_push_0 [] [(.pointer t0), (.pointer (some ⟨t1, 0, none⟩)), (.pointer (some ⟨t2, 0, none⟩)), s3, s4, t5, t6, t7, t8, t9, t10, t11, t12, t13, t14, t15, t16, t17, t18, t19, t20, t21, t22, t23, t24, t25, t26, t27, t28, t29, t30, t31, t32, t33, t34, t35, t36, t37, t38, t39, t40, t41, t42, t43, t44, t45, t46, (.pointer t47), (.pointer t48), (.pointer (some ⟨t49, t49o, none⟩)), (.pointer (some ⟨t50, t50o, none⟩)), (.int .i64 t51), (.int .i64 t52), (.pointer t53), (.pointer (some ⟨t54, t54o, none⟩)), (.pointer (some ⟨t55, t55o, none⟩)), (.pointer (some ⟨t56, t56o, none⟩)), (.slice t57 t57l 0), (.int .i64 t58), s59, s60, s61, s62, s63, s64, s65, s66, s67, s68, s69, s70, s71, s72, s73, s74, s75, s76, s77, s78] H (loopQ (fun m xs H' => AS.asInt .i64 (xs.getD 59 undef) fun t59 => I m t59 H') n [(X.exit 0, K0)])) by
      apply turnInto hs
      kernel_rfl
    intro s60 s61 s62 s63 s3 s4 s64 s65 s66 s67 s68 s69 s70 s71 s72 s73 s74 s75 s76 s77 s78 s59 hP
    replace hP := asInt_elim hP
    obtain ⟨t59, rfl, hP⟩ := hP
    apply turnInto (hstep n t59 [(.pointer t0), (.pointer (some ⟨t1, 0, none⟩)), (.pointer (some ⟨t2, 0, none⟩)), s3, s4, t5, t6, t7, t8, t9, t10, t11, t12, t13, t14, t15, t16, t17, t18, t19, t20, t21, t22, t23, t24, t25, t26, t27, t28, t29, t30, t31, t32, t33, t34, t35, t36, t37, t38, t39, t40, t41, t42, t43, t44, t45, t46, (.pointer t47), (.pointer t48), (.pointer (some ⟨t49, t49o, none⟩)), (.pointer (some ⟨t50, t50o, none⟩)), (.int .i64 t51), (.int .i64 t52), (.pointer t53), (.pointer (some ⟨t54, t54o, none⟩)), (.pointer (some ⟨t55, t55o, none⟩)), (.pointer (some ⟨t56, t56o, none⟩)), (.slice t57 t57l 0), (.int .i64 t58), (.int .i64 t59), s60, s61, s62, s63, s64, s65, s66, s67, s68, s69, s70, s71, s72, s73, s74, s75, s76, s77, s78] H hP)
    kernel_rfl
  · apply turnInto h0
    kernel_rfl


/-! ring_Run_pull -/
noncomputable def L_ring_Run_pull_0 : Code := loopAt Go.Proofs.Tryz.f49 0

theorem vc_ring_Run_pull (x0 : Option Addr) (H : Heap) (R : Value → Heap → Prop) :
    (
 nwH H (.cells true 0 [(.pointer x0)]) fun i1 H2 =>
 ∃ a3, H2.cell i1 0 = some (.pointer a3) ∧
 CA en F.ring_Run_at [(.pointer a3), (.int .i64 0)] H2 fun v4 H5 =>
 ∃ n6, v4 = (.int .i64 n6) ∧
 nwH H5 (.cells true 0 [(.int .i64 0)]) fun i7 H8 =>
 stc H8 i7 0 [(.int .i64 n6)] fun H9 =>
 ∃ J10 : List Value → Heap → Prop, (
 ∃ a11, H9.cell i1 0 = some (.pointer a11) ∧
 AS.asAddr (.pointer a11) fun i12 i13 =>
 ∃ a14, H9.cell i12 i13 = some (.pointer a14) ∧
 AS.asAddr (.pointer a14) fun i15 i16 =>
 ∃ n17, H9.cell i15 (i16 + 1) = some (.int .i64 n17) ∧
 bif (n17 == 7) then (
 ∃ a18, (H9.bump 8).cell i1 0 = some (.pointer a18) ∧
 ∃ a19, (H9.bump 8).cell i1 0 = some (.pointer a19) ∧
 AS.asAddr (.pointer a19) fun i20 i21 =>
 ∃ n22, (H9.bump 8).cell i20 (i21 + 15) = some (.int .i64 n22) ∧
 CA en F.ring_Run_at [(.pointer a18), (.int .i64 (IntKind.i64.wrap (n22 - 1)))] (H9.bump 8) fun v23 H24 =>
 ∃ n25, v23 = (.int .i64 n25) ∧
 stc H24 i7 0 [(.int .i64 n25)] fun H26 =>
 (
 J10 [] H26) ∧
 True)
 else (
 J10 [] H9)) ∧
 ∀ (ys27 : Fr) (H28 : Heap), J10 [] H28 →
 ∃ a29, H28.cell i1 0 = some (.pointer a29) ∧
 AS.asAddr (.pointer a29) fun i30 i31 =>
 ∃ a32, H28.cell i30 i31 = some (.pointer a32) ∧
 AS.asAddr (.pointer a32) fun i33 i34 =>
 ∃ n35, H28.cell i33 ((i34 + 1) + 2) = some (.int .i64 n35) ∧
 LA en L_ring_Run_pull_0 [(.pointer x0), (.pointer (some ⟨i1, 0, none⟩)), (.pointer (some ⟨i7, 0, none⟩)), undef, (.pointer a3), (.int .i64 n6), (ys27.getD 6 undef), (ys27.getD 7 undef), (ys27.getD 8 undef), (ys27.getD 9 undef), (ys27.getD 10 undef), (ys27.getD 11 undef), (ys27.getD 12 undef), (ys27.getD 13 undef), (ys27.getD 14 undef), (ys27.getD 15 undef), (ys27.getD 16 undef), (ys27.getD 17 undef), (ys27.getD 18 undef), (ys27.getD 19 undef), (ys27.getD 20 undef), (ys27.getD 21 undef), (.pointer a29), (.pointer (some ⟨i30, i31, none⟩)), (.pointer (some ⟨i30, i31, none⟩)), (.pointer a32), (.pointer (some ⟨i33, i34, none⟩)), (.pointer (some ⟨i33, (i34 + 1), none⟩)), (.pointer (some ⟨i33, ((i34 + 1) + 2), none⟩)), (.int .i64 n35), (.int .i64 0), undef, undef, undef, undef, undef, undef, undef, undef, undef, undef, undef, undef, undef, undef, undef, undef, undef, undef, undef, undef, undef, undef, undef, undef, undef, undef, undef, undef, undef, undef, undef, undef, undef, undef, undef, undef, undef, undef, undef, undef, undef, undef, undef, undef, undef, undef, undef, undef, undef, undef, undef, undef, undef, undef, undef, undef, undef, undef, undef, undef, undef, undef, undef] H28 [(X.exit 0, fun (y36 : Fr) (H37 : Heap) =>
 ∃ a38, H37.cell i1 0 = some (.pointer a38) ∧
 AS.asAddr (.pointer a38) fun i39 i40 =>
 ∃ n41, H37.cell i39 (i40 + 1) = some (.int .i64 n41) ∧
 bif (n41 != 7) then (
 R undef H37)
 else (
 ∃ a42, H37.cell i1 0 = some (.pointer a42) ∧
 AS.asAddr (.pointer a42) fun i43 i44 =>
 ∃ a45, H37.cell i43 i44 = some (.pointer a45) ∧
 AS.asAddr (.pointer a45) fun i46 i47 =>
 ∃ n48, H37.cell i46 (i47 + 1) = some (.int .i64 n48) ∧
 bif (n48 == 6) then (
 ∃ a49, (H37.bump 19).cell i1 0 = some (.pointer a49) ∧
 ∃ a50, (H37.bump 19).cell i1 0 = some (.pointer a50) ∧
 ∃ a51, (H37.bump 19).cell i1 0 = some (.pointer a51) ∧
 AS.asAddr (.pointer a51) fun i52 i53 =>
 ∃ n54, (H37.bump 19).cell i52 (i53 + 14) = some (.int .i64 n54) ∧
 ∃ a55, (H37.bump 19).cell i1 0 = some (.pointer a55) ∧
 AS.asAddr (.pointer a55) fun i56 i57 =>
 ∃ a58, (H37.bump 19).cell i56 i57 = some (.pointer a58) ∧
 AS.asAddr (.pointer a58) fun i59 i60 =>
 ∃ n61, (H37.bump 19).cell i59 ((i60 + 1) + 1) = some (.int .i64 n61) ∧
 nz n61 ∧
 CA en F.ring_Run_sets [(.pointer a50), (.int .i64 2), (.int .i64 (Int.tmod (IntKind.i64.wrap (n54 + 1)) n61))] (H37.bump 19) fun v62 H63 =>
 ((
 ∃ b67, v62 = (.agg #[.nilFunc, (.bool b67)]) ∧
 nwH H63 (.cells true 2 [.nilFunc, (.bool b67)]) fun i68 H69 =>
 CA en F.ring_Run_plan [(.pointer a49), (.slice (some ⟨i68, 0, none⟩) 1 0)] H69 fun v70 H71 =>
 v70 = undef ∧
 (
 ∃ a75, (H71.bump 10).cell i1 0 = some (.pointer a75) ∧
 ∃ a76, (H71.bump 10).cell i1 0 = some (.pointer a76) ∧
 ∃ a77, (H71.bump 10).cell i1 0 = some (.pointer a77) ∧
 AS.asAddr (.pointer a77) fun i78 i79 =>
 ∃ n80, (H71.bump 10).cell i78 (i79 + 15) = some (.int .i64 n80) ∧
 CA en F.ring_Run_sets [(.pointer a76), (.int .i64 3), (.int .i64 (IntKind.i64.wrap (n80 - 1)))] (H71.bump 10) fun v81 H82 =>
 ((
 ∃ b86, v81 = (.agg #[.nilFunc, (.bool b86)]) ∧
 nwH H82 (.cells true 2 [.nilFunc, (.bool b86)]) fun i87 H88 =>
 CA en F.ring_Run_plan [(.pointer a75), (.slice (some ⟨i87, 0, none⟩) 1 0)] H88 fun v89 H90 =>
 v89 = undef ∧
 (
 R undef H90) ∧
 ((∃ a93, (H71.bump 10).cell i1 0 = some (.pointer a93) ∧
 a75 = a93) ∧ (∃ a92, H82.cell i1 0 = some (.pointer a92) ∧
 a75 = a92) ∧ (∃ a91, H88.cell i1 0 = some (.pointer a91) ∧
 a75 = a91) ∧ True) ∧
 True) ∨
 (∃ f83 l84 c85, ∃ b94, v81 = (.agg #[(.func (.func f83) ⟨l84⟩ ⟨c85⟩), (.bool b94)]) ∧
 nwH H82 (.cells true 2 [(.func (.func f83) ⟨l84⟩ ⟨c85⟩), (.bool b94)]) fun i95 H96 =>
 CA en F.ring_Run_plan [(.pointer a75), (.slice (some ⟨i95, 0, none⟩) 1 0)] H96 fun v97 H98 =>
 v97 = undef ∧
 (
 R undef H98) ∧
 ((∃ a101, (H71.bump 10).cell i1 0 = some (.pointer a101) ∧
 a75 = a101) ∧ (∃ a100, H82.cell i1 0 = some (.pointer a100) ∧
 a75 = a100) ∧ (∃ a99, H96.cell i1 0 = some (.pointer a99) ∧
 a75 = a99) ∧ True) ∧
 True))) ∧
 ((∃ a74, (H37.bump 19).cell i1 0 = some (.pointer a74) ∧
 a49 = a74) ∧ (∃ a73, H63.cell i1 0 = some (.pointer a73) ∧
 a49 = a73) ∧ (∃ a72, H69.cell i1 0 = some (.pointer a72) ∧
 a49 = a72) ∧ True) ∧
 True) ∨
 (∃ f64 l65 c66, ∃ b102, v62 = (.agg #[(.func (.func f64) ⟨l65⟩ ⟨c66⟩), (.bool b102)]) ∧
 nwH H63 (.cells true 2 [(.func (.func f64) ⟨l65⟩ ⟨c66⟩), (.bool b102)]) fun i103 H104 =>
 CA en F.ring_Run_plan [(.pointer a49), (.slice (some ⟨i103, 0, none⟩) 1 0)] H104 fun v105 H106 =>
 v105 = undef ∧
 (
 ∃ a110, (H106.bump 10).cell i1 0 = some (.pointer a110) ∧
 ∃ a111, (H106.bump 10).cell i1 0 = some (.pointer a111) ∧
 ∃ a112, (H106.bump 10).cell i1 0 = some (.pointer a112) ∧
 AS.asAddr (.pointer a112) fun i113 i114 =>
 ∃ n115, (H106.bump 10).cell i113 (i114 + 15) = some (.int .i64 n115) ∧
 CA en F.ring_Run_sets [(.pointer a111), (.int .i64 3), (.int .i64 (IntKind.i64.wrap (n115 - 1)))] (H106.bump 10) fun v116 H117 =>
 ((
 ∃ b121, v116 = (.agg #[.nilFunc, (.bool b121)]) ∧
 nwH H117 (.cells true 2 [.nilFunc, (.bool b121)]) fun i122 H123 =>
 CA en F.ring_Run_plan [(.pointer a110), (.slice (some ⟨i122, 0, none⟩) 1 0)] H123 fun v124 H125 =>
 v124 = undef ∧
 (
 R undef H125) ∧
 ((∃ a128, (H106.bump 10).cell i1 0 = some (.pointer a128) ∧
 a110 = a128) ∧ (∃ a127, H117.cell i1 0 = some (.pointer a127) ∧
 a110 = a127) ∧ (∃ a126, H123.cell i1 0 = some (.pointer a126) ∧
 a110 = a126) ∧ True) ∧
 True) ∨
 (∃ f118 l119 c120, ∃ b129, v116 = (.agg #[(.func (.func f118) ⟨l119⟩ ⟨c120⟩), (.bool b129)]) ∧
 nwH H117 (.cells true 2 [(.func (.func f118) ⟨l119⟩ ⟨c120⟩), (.bool b129)]) fun i130 H131 =>
 CA en F.ring_Run_plan [(.pointer a110), (.slice (some ⟨i130, 0, none⟩) 1 0)] H131 fun v132 H133 =>
 v132 = undef ∧
 (
 R undef H133) ∧
 ((∃ a136, (H106.bump 10).cell i1 0 = some (.pointer a136) ∧
 a110 = a136) ∧ (∃ a135, H117.cell i1 0 = some (.pointer a135) ∧
 a110 = a135) ∧ (∃ a134, H131.cell i1 0 = some (.pointer a134) ∧
 a110 = a134) ∧ True) ∧
 True))) ∧
 ((∃ a109, (H37.bump 19).cell i1 0 = some (.pointer a109) ∧
 a49 = a109) ∧ (∃ a108, H63.cell i1 0 = some (.pointer a108) ∧
 a49 = a108) ∧ (∃ a107, H104.cell i1 0 = some (.pointer a107) ∧
 a49 = a107) ∧ True) ∧
 True)))
 else (
 ∃ a137, (H37.bump 10).cell i1 0 = some (.pointer a137) ∧
 ∃ a138, (H37.bump 10).cell i1 0 = some (.pointer a138) ∧
 ∃ a139, (H37.bump 10).cell i1 0 = some (.pointer a139) ∧
 AS.asAddr (.pointer a139) fun i140 i141 =>
 ∃ n142, (H37.bump 10).cell i140 (i141 + 15) = some (.int .i64 n142) ∧
 CA en F.ring_Run_sets [(.pointer a138), (.int .i64 3), (.int .i64 (IntKind.i64.wrap (n142 - 1)))] (H37.bump 10) fun v143 H144 =>
 ((
 ∃ b148, v143 = (.agg #[.nilFunc, (.bool b148)]) ∧
 nwH H144 (.cells true 2 [.nilFunc, (.bool b148)]) fun i149 H150 =>
 CA en F.ring_Run_plan [(.pointer a137), (.slice (some ⟨i149, 0, none⟩) 1 0)] H150 fun v151 H152 =>
 v151 = undef ∧
 (
 R undef H152) ∧
 ((∃ a155, (H37.bump 10).cell i1 0 = some (.pointer a155) ∧
 a137 = a155) ∧ (∃ a154, H144.cell i1 0 = some (.pointer a154) ∧
 a137 = a154) ∧ (∃ a153, H150.cell i1 0 = some (.pointer a153) ∧
 a137 = a153) ∧ True) ∧
 True) ∨
 (∃ f145 l146 c147, ∃ b156, v143 = (.agg #[(.func (.func f145) ⟨l146⟩ ⟨c147⟩), (.bool b156)]) ∧
 nwH H144 (.cells true 2 [(.func (.func f145) ⟨l146⟩ ⟨c147⟩), (.bool b156)]) fun i157 H158 =>
 CA en F.ring_Run_plan [(.pointer a137), (.slice (some ⟨i157, 0, none⟩) 1 0)] H158 fun v159 H160 =>
 v159 = undef ∧
 (
 R undef H160) ∧
 ((∃ a163, (H37.bump 10).cell i1 0 = some (.pointer a163) ∧
 a137 = a163) ∧ (∃ a162, H144.cell i1 0 = some (.pointer a162) ∧
 a137 = a162) ∧ (∃ a161, H158.cell i1 0 = some (.pointer a161) ∧
 a137 = a161) ∧ True) ∧
 True)))))]) →
    CA en F.ring_Run_pull [(.pointer x0)] H R := by
  intro h
  refine wpFnC_ok (C := [none, none, some [], none, none, none, none, none, none, none]) (Z := [[]]) (fn := Go.Proofs.Tryz.f49) ?_ ?_ ?_
  · kernel_rfl
  · kernel_rfl
  · apply turnInto h
    kernel_rfl

theorem use_ring_Run_pull_0 {t0 : Option Addr} {t1 : Nat} {t2 : Nat} {t4 : Option Addr} {t5 : Int} {t6 : Value} {t7 : Value} {t8 : Value} {t9 : Value} {t10 : Value} {t11 : Value} {t12 : Value} {t13 : Value} {t14 : Value} {t15 : Value} {t16 : Value} {t17 : Value} {t18 : Value} {t19 : Value} {t20 : Value} {t21 : Value} {t22 : Option Addr} {t23 : Nat} {t23o : Nat} {t24 : Nat} {t24o : Nat} {t25 : Option Addr} {t26 : Nat} {t26o : Nat} {t27 : Nat} {t27o : Nat} {t28 : Nat} {t28o : Nat} {t29 : Int} {K0 : Fr → Heap → Prop} {t30 : Int} {t3 : Value} {t31 : Value} {t32 : Value} {t33 : Value} {t34 : Value} {t35 : Value} {t36 : Value} {t37 : Value} {t38 : Value} {t39 : Value} {t40 : Value} {t41 : Value} {t42 : Value} {t43 : Value} {t44 : Value} {t45 : Value} {t46 : Value} {t47 : Value} {t48 : Value} {t49 : Value} {H : Heap} (I : Nat → Int → Heap → Prop) (n : Nat) (h0 : I n t30 H)
    (hstep : ∀ (n : Nat) (t30 : Int) (ys : Fr) (H : Heap), I n t30 H →
    (
 bif (decide (t30 < t29)) then (
 nwH H (.cells true 0 [(.int .i64 0)]) fun i1 H2 =>
 stc H2 i1 0 [(.int .i64 t30)] fun H3 =>
 ∃ a4, (H3.bump 16).cell t1 0 = some (.pointer a4) ∧
 ∃ n5, (H3.bump 16).cell i1 0 = some (.int .i64 n5) ∧
 ∃ a6, (H3.bump 16).cell t1 0 = some (.pointer a6) ∧
 AS.asAddr (.pointer a6) fun i7 i8 =>
 ∃ a9, (H3.bump 16).cell i7 i8 = some (.pointer a9) ∧
 AS.asAddr (.pointer a9) fun i10 i11 =>
 ∃ n12, (H3.bump 16).cell i10 ((i11 + 1) + 2) = some (.int .i64 n12) ∧
 nwH (H3.bump 16) (.cells true 2 [(.func (.func F.ring_Run_pull_1) #[] #[(.pointer (some ⟨t1, 0, none⟩)), (.pointer (some ⟨t2, 0, none⟩)), (.pointer (some ⟨i1, 0, none⟩))]), (.bool (n5 == (IntKind.i64.wrap (n12 - 1))))]) fun i13 H14 =>
 CA en F.ring_Run_plan [(.pointer a4), (.slice (some ⟨i13, 0, none⟩) 1 0)] H14 fun v15 H16 =>
 v15 = undef ∧
 (
 ∃ k19, k19 < n ∧
 I k19 (IntKind.i64.wrap (t30 + 1)) H16) ∧
 ((∃ a18, (H3.bump 16).cell t1 0 = some (.pointer a18) ∧
 a4 = a18) ∧ (∃ a17, H14.cell t1 0 = some (.pointer a17) ∧
 a4 = a17) ∧ True) ∧
 True)
 else (
 K0 [(.pointer t0), (.pointer (some ⟨t1, 0, none⟩)), (.pointer (some ⟨t2, 0, none⟩)), (ys.getD 3 undef), (.pointer t4), (.int .i64 t5), t6, t7, t8, t9, t10, t11, t12, t13, t14, t15, t16, t17, t18, t19, t20, t21, (.pointer t22), (.pointer (some ⟨t23, t23o, none⟩)), (.pointer (some ⟨t24, t24o, none⟩)), (.pointer t25), (.pointer (some ⟨t26, t26o, none⟩)), (.pointer (some ⟨t27, t27o, none⟩)), (.pointer (some ⟨t28, t28o, none⟩)), (.int .i64 t29), (.int .i64 t30), (.bool false), (ys.getD 32 undef), (ys.getD 33 undef), (ys.getD 34 undef), (ys.getD 35 undef), (ys.getD 36 undef), (ys.getD 37 undef), (ys.getD 38 undef), (ys.getD 39 undef), (ys.getD 40 undef), (ys.getD 41 undef), (ys.getD 42 undef), (ys.getD 43 undef), (ys.getD 44 undef), (ys.getD 45 undef), (ys.getD 46 undef), (ys.getD 47 undef), (ys.getD 48 undef), (ys.getD 49 undef), undef, undef, undef, undef, undef, undef, undef, undef, undef, undef, undef, undef, undef, undef, undef, undef, undef, undef, undef, undef, undef, undef, undef, undef, undef, undef, undef, undef, undef, undef, undef, undef, undef, undef, undef, undef, undef, undef, undef, undef, undef, undef, undef, undef] H))) :
    LA en L_ring_Run_pull_0 [(.pointer t0), (.pointer (some ⟨t1, 0, none⟩)), (.pointer (some ⟨t2, 0, none⟩)), t3, (.pointer t4), (.int .i64 t5), t6, t7, t8, t9, t10, t11, t12, t13, t14, t15, t16, t17, t18, t19, t20, t21, (.pointer t22), (.pointer (some ⟨t23, t23o, none⟩)), (.pointer (some ⟨t24, t24o, none⟩)), (.pointer t25), (.pointer (some ⟨t26, t26o, none⟩)), (.pointer (some ⟨t27, t27o, none⟩)), (.pointer (some ⟨t28, t28o, none⟩)), (.int .i64 t29), (.int .i64 t30), t31, t32, t33, t34, t35, t36, t37, t38, t39, t40, t41, t42, t43, t44, t45, t46, t47, t48, t49, undef, undef, undef, undef, undef, undef, undef, undef, undef, undef, undef, undef, undef, undef, undef, undef, undef, undef, undef, undef, undef, undef, undef, undef, undef, undef, undef, undef, undef, undef, undef, undef, undef, undef, undef, undef, undef, undef, undef, undef, undef, undef, undef, undef] H [(X.exit 0, K0)] := by
  refine LA_rule (Z := []) (fun m xs H' => AS.asInt .i64 (xs.getD 30 undef) fun t30 => I m t30 H') ?_ n H ?_
  · intro n H
    suffices hs : ∀ s31 : Value, ∀ s32 : Value, ∀ s3 : Value, ∀ s33 : Value, ∀ s34 : Value, ∀ s35 : Value, ∀ s36 : Value, ∀ s37 : Value, ∀ s38 : Value, ∀ s39 : Value, ∀ s40 : Value, ∀ s41 : Value, ∀ s42 : Value, ∀ s43 : Value, ∀ s44 : Value, ∀ s45 : Value, ∀ s46 : Value, ∀ s47 : Value, ∀ s48 : Value, ∀ s49 : Value, ∀ s30 : Value, ((AS.asInt .i64 s30 fun t30 => I n t30 H) → wpCode en L_ring_Run_pull_0 [] [(.pointer t0), (.pointer (some ⟨t1, 0, none⟩)), (.pointer (some ⟨t2, 0, none⟩)), s3, (.pointer t4), (.int .i64 t5), t6, t7, t8, t9, t10, t11, t12, t13, t14, t15, t16, t17, t18, t19, t20, t21, (.pointer t22), (.pointer (some ⟨t23, t23o, none⟩)), (.pointer (some ⟨t24, t24o, none⟩)), (.pointer t25), (.pointer (some ⟨t26, t26o, none⟩)), (.pointer (some ⟨t27, t27o, none⟩)), (.pointer (some ⟨t28, t28o, none⟩)), (.int .i64 t29), s30, s31, s32, s33, s34, s35, s36, s37, s38, s39, s40, s41, s42, s43, s44, s45, s46, s47, s48, s49, undef, undef, undef, undef, undef, undef, undef, undef, undef, undef, undef, undef, undef, undef, undef, undef, undef, undef, undef, undef, undef, undef, undef, undef, undef, undef, undef, undef, undef, undef, undef, undef, undef, undef, undef, undef, undef, undef, undef, undef, undef, undef, undef, undef] H (loopQ (fun m xs H' => AS.asInt .i64 (xs.getD 30 undef) fun t30 => I m t30 H') n [(X.exit 0, K0)])) by
      apply turnInto hs
      kernel_rfl
    intro s31 s32 s3 s33 s34 s35 s36 s37 s38 s39 s40 s41 s42 s43 s44 s45 s46 s47 s48 s49 s30 hP
    replace hP := asInt_elim hP
    obtain ⟨t30, rfl, hP⟩ := hP
    apply turnInto (hstep n t30 [(.pointer t0), (.pointer (some ⟨t1, 0, none⟩)), (.pointer (some ⟨t2, 0, none⟩)), s3, (.pointer t4), (.int .i64 t5), t6, t7, t8, t9, t10, t11, t12, t13, t14, t15, t16, t17, t18, t19, t20, t21, (.pointer t22), (.pointer (some ⟨t23, t23o, none⟩)), (.pointer (some ⟨t24, t24o, none⟩)), (.pointer t25), (.pointer (some ⟨t26, t26o, none⟩)), (.pointer (some ⟨t27, t27o, none⟩)), (.pointer (some ⟨t28, t28o, none⟩)), (.int .i64 t29), (.int .i64 t30), s31, s32, s33, s34, s35, s36, s37, s38, s39, s40, s41, s42, s43, s44, s45, s46, s47, s48, s49, undef, undef, undef, undef, undef, undef, undef, undef, undef, undef, undef, undef, undef, undef, undef, undef, undef, undef, undef, undef, undef, undef, undef, undef, undef, undef, undef, undef, undef, undef, undef, undef, undef, undef, undef, undef, undef, undef, undef, undef, undef, undef, undef, undef] H hP)
    kernel_rfl
  · apply turnInto h0
    kernel_rfl


/-! ring_Run_fails_1 -/

theorem vc_ring_Run_fails_1 (c0 : Option Addr) (c1 : Option Addr) (H : Heap) (R : Value → Heap → Prop) :
    (
 AS.asAddr (.pointer c1) fun i1 i2 =>
 ∃ a3, H.cell i1 i2 = some (.pointer a3) ∧
 AS.asAddr (.pointer c0) fun i4 i5 =>
 ∃ n6, H.cell i4 i5 = some (.int .i64 n6) ∧
 AS.asAddr (.pointer a3) fun i7 i8 =>
 stc H i7 (i8 + 8) [(.int .i64 n6)] fun H9 =>
 R undef H9) →
    CA en F.ring_Run_fails_1 [(.pointer c0), (.pointer c1)] H R := by
  intro h
  refine wpFn_ok (Z := []) (fn := Go.Proofs.Tryz.f61) ?_ ?_ ?_
  · kernel_rfl
  · kernel_rfl
  · apply turnInto h
    kernel_rfl


/-! ring_Run_sets -/

theorem vc_ring_Run_sets (x0 : Option Addr) (x1 : Int) (x2 : Int) (H : Heap) (R : Value → Heap → Prop) :
    (
 nwH H (.cells true 0 [(.pointer x0)]) fun i1 H2 =>
 nwH H2 (.cells true 0 [(.int .i64 x1)]) fun i3 H4 =>
 nwH H4 (.cells true 0 [(.int .i64 x2)]) fun i5 H6 =>
 nwH H6 (.cells true 0 [.nilFunc, (.bool false)]) fun i7 H8 =>
 stc H8 i7 0 [(.func (.func F.ring_Run_sets_1) #[] #[(.pointer (some ⟨i1, 0, none⟩)), (.pointer (some ⟨i3, 0, none⟩)), (.pointer (some ⟨i5, 0, none⟩))]), (.bool false)] fun H9 =>
 ((
 ∃ b13, H9.cellsAt i7 0 2 = some [.nilFunc, (.bool b13)] ∧
 R (.agg #[.nilFunc, (.bool b13)]) H9) ∨
 (∃ f10 l11 c12, ∃ b14, H9.cellsAt i7 0 2 = some [(.func (.func f10) ⟨l11⟩ ⟨c12⟩), (.bool b14)] ∧
 R (.agg #[(.func (.func f10) ⟨l11⟩ ⟨c12⟩), (.bool b14)]) H9))) →
    CA en F.ring_Run_sets [(.pointer x0), (.int .i64 x1), (.int .i64 x2)] H R := by
  intro h
  refine wpFn_ok (Z := []) (fn := Go.Proofs.Tryz.f62) ?_ ?_ ?_
  · kernel_rfl
  · kernel_rfl
  · apply turnInto h
    kernel_rfl


/-! ring_Run_at -/

theorem vc_ring_Run_at (x0 : Option Addr) (x1 : Int) (H : Heap) (R : Value → Heap → Prop) :
    (
 AS.asAddr (.pointer x0) fun i1 i2 =>
 ∃ n3, (H.bump 26).cell i1 (i2 + 14) = some (.int .i64 n3) ∧
 AS.asAddr (.pointer x0) fun i4 i5 =>
 ∃ a6, (H.bump 26).cell i4 i5 = some (.pointer a6) ∧
 AS.asAddr (.pointer a6) fun i7 i8 =>
 ∃ n9, (H.bump 26).cell i7 ((i8 + 1) + 1) = some (.int .i64 n9) ∧
 nz n9 ∧
 AS.asAddr (.pointer x0) fun i10 i11 =>
 ∃ a12, (H.bump 26).cell i10 i11 = some (.pointer a12) ∧
 AS.asAddr (.pointer a12) fun i13 i14 =>
 ∃ n15, (H.bump 26).cell i13 ((i14 + 1) + 2) = some (.int .i64 n15) ∧
 (
 R (.int .i64 (IntKind.i64.wrap (4 + (IntKind.i64.wrap ((Int.tmod (IntKind.i64.wrap (n3 + x1)) n9) * n15))))) (H.bump 26)) ∧
 True) →
    CA en F.ring_Run_at [(.pointer x0), (.int .i64 x1)] H R := by
  intro h
  refine wpFn_ok (Z := []) (fn := Go.Proofs.Tryz.f63) ?_ ?_ ?_
  · kernel_rfl
  · kernel_rfl
  · apply turnInto h
    kernel_rfl


/-! ring_Run_push_1 -/

theorem vc_ring_Run_push_1 (c0 : Option Addr) (c1 : Option Addr) (c2 : Option Addr) (c3 : Option Addr) (H : Heap) (R : Value → Heap → Prop) :
    (
 AS.asAddr (.pointer c0) fun i1 i2 =>
 ∃ a3, (H.bump 19).cell i1 i2 = some (.pointer a3) ∧
 AS.asAddr (.pointer a3) fun i4 i5 =>
 ∃ a6, (H.bump 19).cell i4 i5 = some (.pointer a6) ∧
 AS.asAddr (.pointer a6) fun i7 i8 =>
 ∃ a9, (H.bump 19).cell i7 i8 = some (.pointer a9) ∧
 AS.asAddr (.pointer c0) fun i10 i11 =>
 ∃ a12, (H.bump 19).cell i10 i11 = some (.pointer a12) ∧
 AS.asAddr (.pointer a12) fun i13 i14 =>
 ∃ a15, (H.bump 19).cell i13 i14 = some (.pointer a15) ∧
 AS.asAddr (.pointer a15) fun i16 i17 =>
 ∃ n18, (H.bump 19).cell i16 (i17 + 6) = some (.int .i64 n18) ∧
 AS.asAddr (.pointer c1) fun i19 i20 =>
 ∃ n21, (H.bump 19).cell i19 i20 = some (.int .i64 n21) ∧
 AS.asAddr (.pointer c2) fun i22 i23 =>
 ∃ n24, (H.bump 19).cell i22 i23 = some (.int .i64 n24) ∧
 AS.asAddr (.pointer c3) fun i25 i26 =>
 ∃ n27, (H.bump 19).cell i25 i26 = some (.int .u64 n27) ∧
 CA en F.smem_Mem_Store [(.pointer a9), (.int .i64 n18), (.int .i64 (IntKind.i64.wrap (n21 + n24))), (.int .u64 n27)] (H.bump 19) fun v28 H29 =>
 ∃ b30, v28 = (.bool b30) ∧
 (
 R undef H29) ∧
 True) →
    CA en F.ring_Run_push_1 [(.pointer c0), (.pointer c1), (.pointer c2), (.pointer c3)] H R := by
  intro h
  refine wpFn_ok (Z := []) (fn := Go.Proofs.Tryz.f64) ?_ ?_ ?_
  · kernel_rfl
  · kernel_rfl
  · apply turnInto h
    kernel_rfl


/-! ring_Run_pull_1 -/

theorem vc_ring_Run_pull_1 (c0 : Option Addr) (c1 : Option Addr) (c2 : Option Addr) (H : Heap) (R : Value → Heap → Prop) :
    (
 AS.asAddr (.pointer c0) fun i1 i2 =>
 ∃ a3, (H.bump 23).cell i1 i2 = some (.pointer a3) ∧
 AS.asAddr (.pointer a3) fun i4 i5 =>
 ∃ a6, (H.bump 23).cell i4 i5 = some (.pointer a6) ∧
 AS.asAddr (.pointer a6) fun i7 i8 =>
 ∃ a9, (H.bump 23).cell i7 i8 = some (.pointer a9) ∧
 AS.asAddr (.pointer c0) fun i10 i11 =>
 ∃ a12, (H.bump 23).cell i10 i11 = some (.pointer a12) ∧
 AS.asAddr (.pointer a12) fun i13 i14 =>
 ∃ a15, (H.bump 23).cell i13 i14 = some (.pointer a15) ∧
 AS.asAddr (.pointer a15) fun i16 i17 =>
 ∃ n18, (H.bump 23).cell i16 (i17 + 6) = some (.int .i64 n18) ∧
 AS.asAddr (.pointer c1) fun i19 i20 =>
 ∃ n21, (H.bump 23).cell i19 i20 = some (.int .i64 n21) ∧
 AS.asAddr (.pointer c2) fun i22 i23 =>
 ∃ n24, (H.bump 23).cell i22 i23 = some (.int .i64 n24) ∧
 CA en F.smem_Mem_Load [(.pointer a9), (.int .i64 n18), (.int .i64 (IntKind.i64.wrap (n21 + n24)))] (H.bump 23) fun v25 H26 =>
 ∃ n27, ∃ b28, v25 = (.tuple #[(.int .u64 n27), (.bool b28)]) ∧
 (
 AS.asAddr (.pointer c0) fun i29 i30 =>
 ∃ a31, (H26.bump 13).cell i29 i30 = some (.pointer a31) ∧
 AS.asAddr (.pointer c0) fun i32 i33 =>
 ∃ a34, (H26.bump 13).cell i32 i33 = some (.pointer a34) ∧
 AS.asAddr (.pointer a34) fun i35 i36 =>
 ∃ a37 i38, (H26.bump 13).cell i35 ((i36 + 8) + 1) = some (.slice a37 i38 0) ∧
 nwH (H26.bump 13) (.cells true 1 [(.int .u64 n27)]) fun i39 H40 =>
 ∃ l41, rowOf H40 1 (some ⟨i39, 0, none⟩) 1 = some l41 ∧
 apd H40 8 1 a37 i38 1 l41 fun a42 i43 H44 =>
 AS.asAddr (.pointer a31) fun i45 i46 =>
 stc H44 i45 ((i46 + 8) + 1) [(.slice a42 i43 0)] fun H47 =>
 (
 R undef H47) ∧
 ((∃ a50 i51, (H26.bump 13).cell i35 ((i36 + 8) + 1) = some (.slice a50 i51 0) ∧
 (a37 = a50 ∧ i38 = i51 ∧ 0 = 0)) ∧ (∃ a48 i49, H40.cell i35 ((i36 + 8) + 1) = some (.slice a48 i49 0) ∧
 (a37 = a48 ∧ i38 = i49 ∧ 0 = 0)) ∧ True) ∧
 ((AS.asAddr (.pointer c0) fun i55 i56 =>
 ∃ a57, (H26.bump 13).cell i55 i56 = some (.pointer a57) ∧
 a34 = a57) ∧ (AS.asAddr (.pointer c0) fun i52 i53 =>
 ∃ a54, H40.cell i52 i53 = some (.pointer a54) ∧
 a34 = a54) ∧ True) ∧
 ((AS.asAddr (.pointer c0) fun i64 i65 =>
 ∃ a66, (H26.bump 13).cell i64 i65 = some (.pointer a66) ∧
 a31 = a66) ∧ (AS.asAddr (.pointer c0) fun i61 i62 =>
 ∃ a63, H40.cell i61 i62 = some (.pointer a63) ∧
 a31 = a63) ∧ (AS.asAddr (.pointer c0) fun i58 i59 =>
 ∃ a60, H44.cell i58 i59 = some (.pointer a60) ∧
 a31 = a60) ∧ True) ∧
 True) ∧
 True) →
    CA en F.ring_Run_pull_1 [(.pointer c0), (.pointer c1), (.pointer c2)] H R := by
  intro h
  refine wpFn_ok (Z := []) (fn := Go.Proofs.Tryz.f66) ?_ ?_ ?_
  · kernel_rfl
  · kernel_rfl
  · apply turnInto h
    kernel_rfl


/-! ring_Run_sets_1 -/

theorem vc_ring_Run_sets_1 (c0 : Option Addr) (c1 : Option Addr) (c2 : Option Addr) (H : Heap) (R : Value → Heap → Prop) :
    (
 AS.asAddr (.pointer c0) fun i1 i2 =>
 ∃ a3, (H.bump 18).cell i1 i2 = some (.pointer a3) ∧
 AS.asAddr (.pointer a3) fun i4 i5 =>
 ∃ a6, (H.bump 18).cell i4 i5 = some (.pointer a6) ∧
 AS.asAddr (.pointer a6) fun i7 i8 =>
 ∃ a9, (H.bump 18).cell i7 i8 = some (.pointer a9) ∧
 AS.asAddr (.pointer c0) fun i10 i11 =>
 ∃ a12, (H.bump 18).cell i10 i11 = some (.pointer a12) ∧
 AS.asAddr (.pointer a12) fun i13 i14 =>
 ∃ a15, (H.bump 18).cell i13 i14 = some (.pointer a15) ∧
 AS.asAddr (.pointer a15) fun i16 i17 =>
 ∃ n18, (H.bump 18).cell i16 (i17 + 6) = some (.int .i64 n18) ∧
 AS.asAddr (.pointer c1) fun i19 i20 =>
 ∃ n21, (H.bump 18).cell i19 i20 = some (.int .i64 n21) ∧
 AS.asAddr (.pointer c2) fun i22 i23 =>
 ∃ n24, (H.bump 18).cell i22 i23 = some (.int .i64 n24) ∧
 CA en F.smem_Mem_Store [(.pointer a9), (.int .i64 n18), (.int .i64 n21), (.int .u64 (IntKind.u64.wrap n24))] (H.bump 18) fun v25 H26 =>
 ∃ b27, v25 = (.bool b27) ∧
 (
 R undef H26) ∧
 True) →
    CA en F.ring_Run_sets_1 [(.pointer c0), (.pointer c1), (.pointer c2)] H R := by
  intro h
  refine wpFn_ok (Z := []) (fn := Go.Proofs.Tryz.f89) ?_ ?_ ?_
  · kernel_rfl
  · kernel_rfl
  · apply turnInto h
    kernel_rfl


/-! crossbarref17_Decl -/

theorem vc_crossbarref17_Decl (x0 : Bool) (x1 : Int) (x2 : Int) (H : Heap) (R : Value → Heap → Prop) :
    (
 nwH H (.cells true 0 [(.int .i64 0), (.int .i64 0), (.int .i64 0), (.int .i64 0), (.int .i64 0)]) fun i1 H2 =>
 CA en F.crossbarkit_Pick [(.int .i64 x1), (.int .i64 64)] H2 fun v3 H4 =>
 ∃ n5, v3 = (.int .i64 n5) ∧
 CA en F.crossbarkit_Pick [(.int .i64 x2), (.int .i64 4)] H4 fun v6 H7 =>
 ∃ n8, v6 = (.int .i64 n8) ∧
 nwH H7 (.cells true 0 [(.int .i64 0), (.int .i64 0), (.int .i64 0), (.int .i64 0), (.int .i64 0)]) fun i9 H10 =>
 stc H10 i9 0 [(.int .i64 6), (.int .i64 (IntKind.i64.wrap (1 + n5))), (.int .i64 (IntKind.i64.wrap (1 + n8))), (.int .i64 0), (.int .i64 0)] fun H11 =>
 bif x0 then (
 stc H11 i9 0 [(.int .i64 7)] fun H12 =>
 ∃ n13, ∃ n14, ∃ n15, ∃ n16, ∃ n17, H12.cellsAt i9 0 5 = some [(.int .i64 n13), (.int .i64 n14), (.int .i64 n15), (.int .i64 n16), (.int .i64 n17)] ∧
 stc H12 i1 0 [(.int .i64 n13), (.int .i64 n14), (.int .i64 n15), (.int .i64 n16), (.int .i64 n17)] fun H18 =>
 ∃ n19, ∃ n20, ∃ n21, ∃ n22, ∃ n23, H18.cellsAt i1 0 5 = some [(.int .i64 n19), (.int .i64 n20), (.int .i64 n21), (.int .i64 n22), (.int .i64 n23)] ∧
 R (.agg #[(.int .i64 n19), (.int .i64 n20), (.int .i64 n21), (.int .i64 n22), (.int .i64 n23)]) H18)
 else (
 ∃ n24, ∃ n25, ∃ n26, ∃ n27, ∃ n28, H11.cellsAt i9 0 5 = some [(.int .i64 n24), (.int .i64 n25), (.int .i64 n26), (.int .i64 n27), (.int .i64 n28)] ∧
 stc H11 i1 0 [(.int .i64 n24), (.int .i64 n25), (.int .i64 n26), (.int .i64 n27), (.int .i64 n28)] fun H29 =>
 ∃ n30, ∃ n31, ∃ n32, ∃ n33, ∃ n34, H29.cellsAt i1 0 5 = some [(.int .i64 n30), (.int .i64 n31), (.int .i64 n32), (.int .i64 n33), (.int .i64 n34)] ∧
 R (.agg #[(.int .i64 n30), (.int .i64 n31), (.int .i64 n32), (.int .i64 n33), (.int .i64 n34)]) H29)) →
    CA en F.crossbarref17_Decl [(.bool x0), (.int .i64 x1), (.int .i64 x2)] H R := by
  intro h
  refine wpFn_ok (Z := []) (fn := Go.Proofs.Tryz.f18) ?_ ?_ ?_
  · kernel_rfl
  · kernel_rfl
  · apply turnInto h
    kernel_rfl


/-! crossbarlaw17_made -/

theorem vc_crossbarlaw17_made (x0_0 : Int) (x0_1 : Int) (x0_2 : Int) (x0_3 : Int) (x0_4 : Int) (H : Heap) (R : Value → Heap → Prop) :
    (
 nwH H (.cells true 0 [(.int .i64 x0_0), (.int .i64 x0_1), (.int .i64 x0_2), (.int .i64 x0_3), (.int .i64 x0_4)]) fun i1 H2 =>
 CA en F.smem_New [(.int .i64 1024)] H2 fun v3 H4 =>
 ∃ a5, v3 = (.pointer a5) ∧
 bif a5.isNone then (
 R (.pointer none) H4)
 else (
 ∃ n6, ∃ n7, ∃ n8, ∃ n9, ∃ n10, H4.cellsAt i1 0 5 = some [(.int .i64 n6), (.int .i64 n7), (.int .i64 n8), (.int .i64 n9), (.int .i64 n10)] ∧
 CA en F.ring_New [(.pointer a5), (.agg #[(.int .i64 n6), (.int .i64 n7), (.int .i64 n8), (.int .i64 n9), (.int .i64 n10)])] H4 fun v11 H12 =>
 ∃ a13, ∃ n14, v11 = (.tuple #[(.pointer a13), (.int .i64 n14)]) ∧
 bif (n14 != 0) then (
 R (.pointer none) H12)
 else (
 R (.pointer a13) H12))) →
    CA en F.crossbarlaw17_made [(.agg #[(.int .i64 x0_0), (.int .i64 x0_1), (.int .i64 x0_2), (.int .i64 x0_3), (.int .i64 x0_4)])] H R := by
  intro h
  refine wpFn_ok (Z := []) (fn := Go.Proofs.Tryz.f12) ?_ ?_ ?_
  · kernel_rfl
  · kernel_rfl
  · apply turnInto h
    kernel_rfl


/-! crossbarlaw17_gives -/

theorem vc_crossbarlaw17_gives (x0 : Option Addr) (x1_0 : Int) (x1_1 : Int) (x1_2 : Option Addr) (x1_2l : Nat) (x1_3 : Int) (x1_4 : Int) (x2 : Int) (x3 : Option Addr) (x3l : Nat) (H : Heap) (R : Value → Heap → Prop) :
    (
 nwH H (.cells true 0 [(.int .i64 x1_0), (.int .u64 x1_1), (.slice x1_2 x1_2l 0), (.int .i64 x1_3), (.int .i64 x1_4)]) fun i1 H2 =>
 ∃ n3, ∃ n4, ∃ a5 i6, ∃ n7, ∃ n8, H2.cellsAt i1 0 5 = some [(.int .i64 n3), (.int .u64 n4), (.slice a5 i6 0), (.int .i64 n7), (.int .i64 n8)] ∧
 CA en F.ring_Map_Begin [(.pointer x0), (.agg #[(.int .i64 n3), (.int .u64 n4), (.slice a5 i6 0), (.int .i64 n7), (.int .i64 n8)])] H2 fun v9 H10 =>
 ∃ a11, v9 = (.pointer a11) ∧
 CA en F.crossbarlaw17_finish [(.pointer a11), (.int .i64 40)] H10 fun v12 H13 =>
 ∃ n14, ∃ a15 i16, ∃ n17, ∃ n18, ∃ b19, v12 = (.tuple #[(.agg #[(.int .i64 n14), (.slice a15 i16 0), (.int .u64 n17), (.int .i64 n18)]), (.bool b19)]) ∧
 nwH H13 (.cells true 0 [(.int .i64 0), (.slice none 0 0), (.int .u64 0), (.int .i64 0)]) fun i20 H21 =>
 stc H21 i20 0 [(.int .i64 n14), (.slice a15 i16 0), (.int .u64 n17), (.int .i64 n18)] fun H22 =>
 bif b19 then (
 ∃ n23, H22.cell i20 0 = some (.int .i64 n23) ∧
 bif (n23 == x2) then (
 ∃ n24, H22.cell i20 2 = some (.int .u64 n24) ∧
 bif (n24 == 0) then (
 ∃ n25, H22.cell i20 3 = some (.int .i64 n25) ∧
 bif (n25 == 0) then (
 ∃ a26 i27, H22.cell i20 1 = some (.slice a26 i27 0) ∧
 CA en F.crossbarkit_SameWords [(.slice a26 i27 0), (.slice x3 x3l 0)] H22 fun v28 H29 =>
 ∃ b30, v28 = (.bool b30) ∧
 R (.bool b30) H29)
 else (
 R (.bool false) H22))
 else (
 R (.bool false) H22))
 else (
 R (.bool false) H22))
 else (
 R (.bool false) H22)) →
    CA en F.crossbarlaw17_gives [(.pointer x0), (.agg #[(.int .i64 x1_0), (.int .u64 x1_1), (.slice x1_2 x1_2l 0), (.int .i64 x1_3), (.int .i64 x1_4)]), (.int .i64 x2), (.slice x3 x3l 0)] H R := by
  intro h
  refine wpFn_ok (Z := []) (fn := Go.Proofs.Tryz.f16) ?_ ?_ ?_
  · kernel_rfl
  · kernel_rfl
  · apply turnInto h
    kernel_rfl


/-! crossbarlaw17_push -/

theorem vc_crossbarlaw17_push (x0 : Int) (x1 : Option Addr) (x1l : Nat) (H : Heap) (R : Value → Heap → Prop) :
    (
 nwH H (.cells true 0 [(.int .i64 0), (.int .u64 0), (.slice none 0 0), (.int .i64 0), (.int .i64 0)]) fun i1 H2 =>
 stc H2 i1 0 [(.int .i64 6), (.int .u64 0), (.slice x1 x1l 0), (.int .i64 x0), (.int .i64 0)] fun H3 =>
 ∃ n4, ∃ n5, ∃ a6 i7, ∃ n8, ∃ n9, H3.cellsAt i1 0 5 = some [(.int .i64 n4), (.int .u64 n5), (.slice a6 i7 0), (.int .i64 n8), (.int .i64 n9)] ∧
 R (.agg #[(.int .i64 n4), (.int .u64 n5), (.slice a6 i7 0), (.int .i64 n8), (.int .i64 n9)]) H3) →
    CA en F.crossbarlaw17_push [(.int .i64 x0), (.slice x1 x1l 0)] H R := by
  intro h
  refine wpFn_ok (Z := []) (fn := Go.Proofs.Tryz.f14) ?_ ?_ ?_
  · kernel_rfl
  · kernel_rfl
  · apply turnInto h
    kernel_rfl


/-! crossbarlaw17_pop -/

theorem vc_crossbarlaw17_pop (H : Heap) (R : Value → Heap → Prop) :
    (
 nwH H (.cells true 0 [(.int .i64 0), (.int .u64 0), (.slice none 0 0), (.int .i64 0), (.int .i64 0)]) fun i1 H2 =>
 stc H2 i1 0 [(.int .i64 7), (.int .u64 0), (.slice none 0 0), (.int .i64 0), (.int .i64 0)] fun H3 =>
 ∃ n4, ∃ n5, ∃ a6 i7, ∃ n8, ∃ n9, H3.cellsAt i1 0 5 = some [(.int .i64 n4), (.int .u64 n5), (.slice a6 i7 0), (.int .i64 n8), (.int .i64 n9)] ∧
 R (.agg #[(.int .i64 n4), (.int .u64 n5), (.slice a6 i7 0), (.int .i64 n8), (.int .i64 n9)]) H3) →
    CA en F.crossbarlaw17_pop [] H R := by
  intro h
  refine wpFn_ok (Z := []) (fn := Go.Proofs.Tryz.f17) ?_ ?_ ?_
  · kernel_rfl
  · kernel_rfl
  · apply turnInto h
    kernel_rfl


/-! crossbarlaw17_finish -/
noncomputable def L_crossbarlaw17_finish_0 : Code := loopAt Go.Proofs.Tryz.f33 0

theorem vc_crossbarlaw17_finish (x0 : Option Addr) (x1 : Int) (H : Heap) (R : Value → Heap → Prop) :
    (
 nwH H (.cells true 0 [(.int .i64 0), (.slice none 0 0), (.int .u64 0), (.int .i64 0)]) fun i1 H2 =>
 bif x0.isNone then (
 stc H2 i1 0 [(.int .i64 0), (.slice none 0 0), (.int .u64 0), (.int .i64 0)] fun H3 =>
 ∃ n4, ∃ a5 i6, ∃ n7, ∃ n8, H3.cellsAt i1 0 4 = some [(.int .i64 n4), (.slice a5 i6 0), (.int .u64 n7), (.int .i64 n8)] ∧
 R (.tuple #[(.agg #[(.int .i64 n4), (.slice a5 i6 0), (.int .u64 n7), (.int .i64 n8)]), (.bool false)]) H3)
 else (
 LA en L_crossbarlaw17_finish_0 [(.pointer x0), (.int .i64 x1), undef, undef, (.pointer (some ⟨i1, 0, none⟩)), (.bool false), (.int .i64 0), (.int .i64 0), undef, undef, (.pointer x0), (.bool false), undef, undef, undef, undef, undef, undef, undef, undef, undef, undef, undef, undef, undef, undef, undef, undef, undef, undef, undef, undef] H2 [(X.exit 0, fun (y9 : Fr) (H10 : Heap) =>
 AS.asBool (y9.getD 5 undef) fun b11 =>
 stc H10 i1 0 [(.int .i64 0), (.slice none 0 0), (.int .u64 0), (.int .i64 0)] fun H12 =>
 ∃ n13, ∃ a14 i15, ∃ n16, ∃ n17, H12.cellsAt i1 0 4 = some [(.int .i64 n13), (.slice a14 i15 0), (.int .u64 n16), (.int .i64 n17)] ∧
 R (.tuple #[(.agg #[(.int .i64 n13), (.slice a14 i15 0), (.int .u64 n16), (.int .i64 n17)]), (.bool false)]) H12),
 (X.ret, fun (y18 : Fr) (H19 : Heap) =>
 AS.asBool (y18.getD 5 undef) fun b20 =>
 ∃ n21, ∃ a22 i23, ∃ n24, ∃ n25, H19.cellsAt i1 0 4 = some [(.int .i64 n21), (.slice a22 i23 0), (.int .u64 n24), (.int .i64 n25)] ∧
 R (.tuple #[(.agg #[(.int .i64 n21), (.slice a22 i23 0), (.int .u64 n24), (.int .i64 n25)]), (.bool b20)]) H19)])) →
    CA en F.crossbarlaw17_finish [(.pointer x0), (.int .i64 x1)] H R := by
  intro h
  refine wpFn_ok (Z := [[(5, (.bool false))]]) (fn := Go.Proofs.Tryz.f33) ?_ ?_ ?_
  · kernel_rfl
  · kernel_rfl
  · apply turnInto h
    kernel_rfl

theorem use_crossbarlaw17_finish_0 {t0 : Option Addr} {t1 : Int} {t4 : Nat} {t10 : Option Addr} {K0 : Fr → Heap → Prop} {K1 : Fr → Heap → Prop} {t5 : Bool} {t6 : Int} {t7 : Int} {t8 : Value} {t9 : Value} {t13 : Value} {t14 : Value} {t15 : Value} {t16 : Value} {t17 : Value} {t18 : Value} {t19 : Value} {t20 : Value} {t21 : Value} {t22 : Value} {t23 : Value} {t24 : Value} {t25 : Value} {t26 : Value} {t27 : Value} {t28 : Value} {t29 : Value} {t30 : Value} {H : Heap} (I : Nat → Bool → Int → Int → Heap → Prop) (n : Nat) (h0 : I n t5 t6 t7 H)
    (hstep : ∀ (n : Nat) (t5 : Bool) (t6 : Int) (t7 : Int) (ys : Fr) (H : Heap), I n t5 t6 t7 H →
    (
 bif (decide (t7 < t1)) then (
 CA en F.ring_Run_Step [(.pointer t0)] H fun v1 H2 =>
 ∃ b3, ∃ b4, v1 = (.tuple #[(.bool b3), (.bool b4)]) ∧
 bif b3 then (
 bif b4 then (
 CA en F.ring_Run_Result [(.pointer t0)] H2 fun v5 H6 =>
 ∃ n7, ∃ a8 i9, ∃ n10, ∃ n11, v5 = (.agg #[(.int .i64 n7), (.slice a8 i9 0), (.int .u64 n10), (.int .i64 n11)]) ∧
 stc H6 t4 0 [(.int .i64 n7), (.slice a8 i9 0), (.int .u64 n10), (.int .i64 n11)] fun H12 =>
 K1 [(.pointer t0), (.int .i64 t1), undef, undef, (.pointer (some ⟨t4, 0, none⟩)), (.bool ((IntKind.i64.wrap (t6 + 1)) == 1)), (.int .i64 (IntKind.i64.wrap (t6 + 1))), (.int .i64 t7), (.bool b3), (.bool b4), (.pointer t10), (.bool false), undef, (.int .i64 t7), (.int .i64 t1), (.bool true), (ys.getD 16 undef), (ys.getD 17 undef), (.tuple #[(.bool b3), (.bool b4)]), (.pointer t0), (.tuple #[(.bool b3), (.bool b4)]), (.bool b3), (.bool b4), (.bool true), (.int .i64 t6), (.int .i64 (IntKind.i64.wrap (t6 + 1))), (.bool true), (.pointer t0), (.agg #[(.int .i64 n7), (.slice a8 i9 0), (.int .u64 n10), (.int .i64 n11)]), (.int .i64 (IntKind.i64.wrap (t6 + 1))), (.bool ((IntKind.i64.wrap (t6 + 1)) == 1)), undef] H12)
 else (
 ∃ k13, k13 < n ∧
 I k13 t5 (IntKind.i64.wrap (t6 + 1)) (IntKind.i64.wrap (t7 + 1)) H2))
 else (
 bif b4 then (
 CA en F.ring_Run_Result [(.pointer t0)] H2 fun v14 H15 =>
 ∃ n16, ∃ a17 i18, ∃ n19, ∃ n20, v14 = (.agg #[(.int .i64 n16), (.slice a17 i18 0), (.int .u64 n19), (.int .i64 n20)]) ∧
 stc H15 t4 0 [(.int .i64 n16), (.slice a17 i18 0), (.int .u64 n19), (.int .i64 n20)] fun H21 =>
 K1 [(.pointer t0), (.int .i64 t1), undef, undef, (.pointer (some ⟨t4, 0, none⟩)), (.bool (t6 == 1)), (.int .i64 t6), (.int .i64 t7), (.bool b3), (.bool b4), (.pointer t10), (.bool false), undef, (.int .i64 t7), (.int .i64 t1), (.bool true), (ys.getD 16 undef), (ys.getD 17 undef), (.tuple #[(.bool b3), (.bool b4)]), (.pointer t0), (.tuple #[(.bool b3), (.bool b4)]), (.bool b3), (.bool b4), (.bool false), (ys.getD 24 undef), (ys.getD 25 undef), (.bool true), (.pointer t0), (.agg #[(.int .i64 n16), (.slice a17 i18 0), (.int .u64 n19), (.int .i64 n20)]), (.int .i64 t6), (.bool (t6 == 1)), undef] H21)
 else (
 ∃ k22, k22 < n ∧
 I k22 t5 t6 (IntKind.i64.wrap (t7 + 1)) H2)))
 else (
 K0 [(.pointer t0), (.int .i64 t1), undef, undef, (.pointer (some ⟨t4, 0, none⟩)), (.bool t5), (.int .i64 t6), (.int .i64 t7), (ys.getD 8 undef), (ys.getD 9 undef), (.pointer t10), (.bool false), undef, (.int .i64 t7), (.int .i64 t1), (.bool false), (ys.getD 16 undef), (ys.getD 17 undef), (ys.getD 18 undef), (ys.getD 19 undef), (ys.getD 20 undef), (ys.getD 21 undef), (ys.getD 22 undef), (ys.getD 23 undef), (ys.getD 24 undef), (ys.getD 25 undef), (ys.getD 26 undef), (ys.getD 27 undef), (ys.getD 28 undef), (ys.getD 29 undef), (ys.getD 30 undef), undef] H))) :
    LA en L_crossbarlaw17_finish_0 [(.pointer t0), (.int .i64 t1), undef, undef, (.pointer (some ⟨t4, 0, none⟩)), (.bool t5), (.int .i64 t6), (.int .i64 t7), t8, t9, (.pointer t10), (.bool false), undef, t13, t14, t15, t16, t17, t18, t19, t20, t21, t22, t23, t24, t25, t26, t27, t28, t29, t30, undef] H [(X.exit 0, K0), (X.ret, K1)] := by
  refine LA_rule (Z := []) (fun m xs H' => AS.asBool (xs.getD 5 undef) fun t5 => AS.asInt .i64 (xs.getD 6 undef) fun t6 => AS.asInt .i64 (xs.getD 7 undef) fun t7 => I m t5 t6 t7 H') ?_ n H ?_
  · intro n H
    suffices hs : ∀ s13 : Value, ∀ s14 : Value, ∀ s15 : Value, ∀ s19 : Value, ∀ s20 : Value, ∀ s18 : Value, ∀ s21 : Value, ∀ s22 : Value, ∀ s8 : Value, ∀ s9 : Value, ∀ s23 : Value, ∀ s24 : Value, ∀ s25 : Value, ∀ s6 : Value, ∀ s26 : Value, ∀ s27 : Value, ∀ s28 : Value, ∀ s29 : Value, ∀ s30 : Value, ∀ s5 : Value, ∀ s16 : Value, ∀ s17 : Value, ∀ s7 : Value, ((AS.asBool s5 fun t5 => AS.asInt .i64 s6 fun t6 => AS.asInt .i64 s7 fun t7 => I n t5 t6 t7 H) → wpCode en L_crossbarlaw17_finish_0 [] [(.pointer t0), (.int .i64 t1), undef, undef, (.pointer (some ⟨t4, 0, none⟩)), s5, s6, s7, s8, s9, (.pointer t10), (.bool false), undef, s13, s14, s15, s16, s17, s18, s19, s20, s21, s22, s23, s24, s25, s26, s27, s28, s29, s30, undef] H (loopQ (fun m xs H' => AS.asBool (xs.getD 5 undef) fun t5 => AS.asInt .i64 (xs.getD 6 undef) fun t6 => AS.asInt .i64 (xs.getD 7 undef) fun t7 => I m t5 t6 t7 H') n [(X.exit 0, K0), (X.ret, K1)])) by
      apply turnInto hs
      kernel_rfl
    intro s13 s14 s15 s19 s20 s18 s21 s22 s8 s9 s23 s24 s25 s6 s26 s27 s28 s29 s30 s5 s16 s17 s7 hP
    replace hP := asBool_elim hP
    obtain ⟨t5, rfl, hP⟩ := hP
    replace hP := asInt_elim hP
    obtain ⟨t6, rfl, hP⟩ := hP
    replace hP := asInt_elim hP
    obtain ⟨t7, rfl, hP⟩ := hP
    apply turnInto (hstep n t5 t6 t7 [(.pointer t0), (.int .i64 t1), undef, undef, (.pointer (some ⟨t4, 0, none⟩)), (.bool t5), (.int .i64 t6), (.int .i64 t7), s8, s9, (.pointer t10), (.bool false), undef, s13, s14, s15, s16, s17, s18, s19, s20, s21, s22, s23, s24, s25, s26, s27, s28, s29, s30, undef] H hP)
    kernel_rfl
  · apply turnInto h0
    kernel_rfl


/-! slices_Clone_uint64_uint64 -/

theorem vc_slices_Clone_uint64_uint64 (x0 : Option Addr) (x0l : Nat) (H : Heap) (R : Value → Heap → Prop) :
    (
 bif x0.isNone then (
 R (.slice none 0 0) H)
 else (
 nwH H (.cells true 1 []) fun i1 H2 =>
 ∃ l3, rowOf H2 1 x0 x0l = some l3 ∧
 apd H2 8 1 (some ⟨i1, 0, none⟩) 0 x0l l3 fun a4 i5 H6 =>
 R (.slice a4 i5 0) H6)) →
    CA en F.slices_Clone_uint64_uint64 [(.slice x0 x0l 0)] H R := by
  intro h
  refine wpFn_ok (Z := []) (fn := Go.Proofs.Tryz.f27) ?_ ?_ ?_
  · kernel_rfl
  · kernel_rfl
  · apply turnInto h
    kernel_rfl

end Go.Proofs.YtgpacebjbdhphaaGreat
