/-
  What functions of this seat's program need (printed by a program, checked by the kernel).
-/
import Derived.Test.YtlkmdcncpdadbaaNames
import Derived.Test.YtlkmdcncpdadbaaAs41
namespace Go.Proofs.Ytlkmdcncpdadbaa
open Go Go.AS Go.RowKit
set_option linter.unusedVariables false
set_option maxRecDepth 100000
set_option maxHeartbeats 2000000

/-! crossbarlaw18_Fits -/

theorem vc_crossbarlaw18_Fits (x0_0 : Int) (x0_1 : Int) (x0_2 : Int) (x0_3 : Int) (x0_4 : Int) (H : Heap) (R : Value → Heap → Prop) :
    (
 nwH H (.cells true 0 [(.int .i64 x0_0), (.int .i64 x0_1), (.int .i64 x0_2), (.int .i64 x0_3), (.int .i64 x0_4)]) fun i1 H2 =>
 ∃ n3, ∃ n4, ∃ n5, ∃ n6, ∃ n7, H2.cellsAt i1 0 5 = some [(.int .i64 n3), (.int .i64 n4), (.int .i64 n5), (.int .i64 n6), (.int .i64 n7)] ∧
 nwH H2 (.cells true 5 [(.int .i64 n3), (.int .i64 n4), (.int .i64 n5), (.int .i64 n6), (.int .i64 n7)]) fun i8 H9 =>
 CA en F.decl_Check [(.slice (some ⟨i8, 0, none⟩) 1 0)] H9 fun v10 H11 =>
 ∃ n12, v10 = (.int .i64 n12) ∧
 bif (n12 == 0) then (
 ∃ n13, H11.cell i1 0 = some (.int .i64 n13) ∧
 R (.bool (n13 == 8)) H11)
 else (
 R (.bool false) H11)) →
    CA en F.crossbarlaw18_Fits [(.agg #[(.int .i64 x0_0), (.int .i64 x0_1), (.int .i64 x0_2), (.int .i64 x0_3), (.int .i64 x0_4)])] H R := by
  intro h
  refine wpFn_ok (Z := []) (fn := Go.Proofs.Try.f33) ?_ ?_ ?_
  · kernel_rfl
  · kernel_rfl
  · apply turnInto h
    kernel_rfl


/-! crossbarlaw18_Big -/

theorem vc_crossbarlaw18_Big (x0 : Option Addr) (x0l : Nat) (x1 : Option Addr) (x1l : Nat) (H : Heap) (R : Value → Heap → Prop) :
    (
 bif (decide (((x0l : Nat) : Int) < 1)) then (
 R (.bool true) H)
 else (
 bif (decide (((x0l : Nat) : Int) > 4)) then (
 R (.bool true) H)
 else (
 CA en F.crossbarkit_Total [(.slice x0 x0l 0)] H fun v1 H2 =>
 ∃ n3, v1 = (.int .i64 n3) ∧
 bif (decide (n3 > 120)) then (
 R (.bool true) H2)
 else (
 R (.bool (decide (((x1l : Nat) : Int) > 2000))) H2)))) →
    CA en F.crossbarlaw18_Big [(.slice x0 x0l 0), (.slice x1 x1l 0)] H R := by
  intro h
  refine wpFn_ok (Z := []) (fn := Go.Proofs.Try.f34) ?_ ?_ ?_
  · kernel_rfl
  · kernel_rfl
  · apply turnInto h
    kernel_rfl


/-! crossbarlaw18_begin -/

theorem vc_crossbarlaw18_begin (x0_0 : Int) (x0_1 : Int) (x0_2 : Int) (x0_3 : Int) (x0_4 : Int) (x1 : Option Addr) (x1l : Nat) (H : Heap) (R : Value → Heap → Prop) :
    (
 nwH H (.cells true 0 [(.int .i64 x0_0), (.int .i64 x0_1), (.int .i64 x0_2), (.int .i64 x0_3), (.int .i64 x0_4)]) fun i1 H2 =>
 CA en F.smem_New [(.int .i64 65536)] H2 fun v3 H4 =>
 ∃ a5, v3 = (.pointer a5) ∧
 bif a5.isNone then (
 R (.pointer none) H4)
 else (
 CA en F.grace_New [(.int .i64 ((x1l : Nat) : Int)), (.pointer a5)] (H4.bump 12) fun v6 H7 =>
 ∃ a8, v6 = (.pointer a8) ∧
 ∃ n9, ∃ n10, ∃ n11, ∃ n12, ∃ n13, H7.cellsAt i1 0 5 = some [(.int .i64 n9), (.int .i64 n10), (.int .i64 n11), (.int .i64 n12), (.int .i64 n13)] ∧
 CA en F.bloom_New [(.pointer a5), (.pointer a8), (.agg #[(.int .i64 n9), (.int .i64 n10), (.int .i64 n11), (.int .i64 n12), (.int .i64 n13)]), (.int .i64 1)] H7 fun v14 H15 =>
 ∃ a16, ∃ n17, v14 = (.tuple #[(.pointer a16), (.int .i64 n17)]) ∧
 (
 bif (n17 != 0) then (
 R (.pointer none) H15)
 else (
 bif a16.isNone then (
 R (.pointer none) H15)
 else (
 ∃ n28, ∃ n29, ∃ n30, ∃ n31, ∃ n32, (H15.bump 12).cellsAt i1 0 5 = some [(.int .i64 n28), (.int .i64 n29), (.int .i64 n30), (.int .i64 n31), (.int .i64 n32)] ∧
 CA en F.crossbarref18_New [(.agg #[(.int .i64 n28), (.int .i64 n29), (.int .i64 n30), (.int .i64 n31), (.int .i64 n32)])] (H15.bump 12) fun v33 H34 =>
 ∃ a35, v33 = (.pointer a35) ∧
 ∃ n36, ∃ n37, ∃ n38, ∃ n39, ∃ n40, H34.cellsAt i1 0 5 = some [(.int .i64 n36), (.int .i64 n37), (.int .i64 n38), (.int .i64 n39), (.int .i64 n40)] ∧
 okLen 128 ((x1l : Nat) : Int) ((x1l : Nat) : Int) ∧
 ∃ n41, ∃ n42, ∃ n43, ∃ n44, ∃ n45, (((H15.bump 12).set (H15.next + 8) (.cells true 12 (reps ((x1l : Nat) : Int).toNat [(.pointer none), (.int .i64 0), (.int .u64 0), (.slice none 0 0), (.int .i64 0), (.int .i64 0), (.int .i64 0), (.bool false), (.int .i64 0), (.slice none 0 0), (.int .u64 0), (.int .i64 0)]))).set (H15.next + 10) (.cells true 0 [(.pointer a5), (.pointer a16), (.pointer a35), (.int .i64 n36), (.int .i64 n37), (.int .i64 n38), (.int .i64 n39), (.int .i64 n40), (.slice x1 x1l 0), (.slice (some ⟨(H15.next + 8), 0, none⟩) ((x1l : Nat) : Int).toNat 0)])).cellsAt i1 0 5 = some [(.int .i64 n41), (.int .i64 n42), (.int .i64 n43), (.int .i64 n44), (.int .i64 n45)] ∧
 CA en F.crossbarref18_New [(.agg #[(.int .i64 n41), (.int .i64 n42), (.int .i64 n43), (.int .i64 n44), (.int .i64 n45)])] (((H15.bump 12).set (H15.next + 8) (.cells true 12 (reps ((x1l : Nat) : Int).toNat [(.pointer none), (.int .i64 0), (.int .u64 0), (.slice none 0 0), (.int .i64 0), (.int .i64 0), (.int .i64 0), (.bool false), (.int .i64 0), (.slice none 0 0), (.int .u64 0), (.int .i64 0)]))).set (H15.next + 10) (.cells true 0 [(.pointer a5), (.pointer a16), (.pointer a35), (.int .i64 n36), (.int .i64 n37), (.int .i64 n38), (.int .i64 n39), (.int .i64 n40), (.slice x1 x1l 0), (.slice (some ⟨(H15.next + 8), 0, none⟩) ((x1l : Nat) : Int).toNat 0)])) fun v46 H47 =>
 ∃ a48, v46 = (.pointer a48) ∧
 ∃ n49, ∃ n50, ∃ n51, ∃ n52, ∃ n53, H47.cellsAt i1 0 5 = some [(.int .i64 n49), (.int .i64 n50), (.int .i64 n51), (.int .i64 n52), (.int .i64 n53)] ∧
 okLen 128 ((x1l : Nat) : Int) ((x1l : Nat) : Int) ∧
 (
 R (.pointer (some ⟨(H15.next + 10), 0, none⟩)) H47) ∧
 ((∃ c54, H47.get (H15.next + 10) = some c54 ∧ sameObj (.cells true 0 [(.pointer a5), (.pointer a16), (.pointer a48), (.int .i64 n49), (.int .i64 n50), (.int .i64 n51), (.int .i64 n52), (.int .i64 n53), (.slice x1 x1l 0), (.slice (some ⟨(H15.next + 8), 0, none⟩) ((x1l : Nat) : Int).toNat 0)]) c54 = true) ∧ True) ∧
 ((okLen 128 ((x1l : Nat) : Int) ((x1l : Nat) : Int) ∧
 ∃ c56, (((H15.bump 12).set (H15.next + 8) (.cells true 12 (reps ((x1l : Nat) : Int).toNat [(.pointer none), (.int .i64 0), (.int .u64 0), (.slice none 0 0), (.int .i64 0), (.int .i64 0), (.int .i64 0), (.bool false), (.int .i64 0), (.slice none 0 0), (.int .u64 0), (.int .i64 0)]))).set (H15.next + 10) (.cells true 0 [(.pointer a5), (.pointer a16), (.pointer a35), (.int .i64 n36), (.int .i64 n37), (.int .i64 n38), (.int .i64 n39), (.int .i64 n40), (.slice x1 x1l 0), (.slice (some ⟨(H15.next + 8), 0, none⟩) ((x1l : Nat) : Int).toNat 0)])).get (H15.next + 8) = some c56 ∧ sameObj (.cells true 12 (reps ((x1l : Nat) : Int).toNat [(.pointer none), (.int .i64 0), (.int .u64 0), (.slice none 0 0), (.int .i64 0), (.int .i64 0), (.int .i64 0), (.bool false), (.int .i64 0), (.slice none 0 0), (.int .u64 0), (.int .i64 0)])) c56 = true) ∧ (okLen 128 ((x1l : Nat) : Int) ((x1l : Nat) : Int) ∧
 ∃ c55, H47.get (H15.next + 8) = some c55 ∧ sameObj (.cells true 12 (reps ((x1l : Nat) : Int).toNat [(.pointer none), (.int .i64 0), (.int .u64 0), (.slice none 0 0), (.int .i64 0), (.int .i64 0), (.int .i64 0), (.bool false), (.int .i64 0), (.slice none 0 0), (.int .u64 0), (.int .i64 0)])) c55 = true) ∧ True) ∧
 ((((x1l : Nat) : Int) = ((x1l : Nat) : Int)) ∧ (((x1l : Nat) : Int) = ((x1l : Nat) : Int)) ∧ True) ∧
 ((∃ n62, ∃ n63, ∃ n64, ∃ n65, ∃ n66, (((H15.bump 12).set (H15.next + 8) (.cells true 12 (reps ((x1l : Nat) : Int).toNat [(.pointer none), (.int .i64 0), (.int .u64 0), (.slice none 0 0), (.int .i64 0), (.int .i64 0), (.int .i64 0), (.bool false), (.int .i64 0), (.slice none 0 0), (.int .u64 0), (.int .i64 0)]))).set (H15.next + 10) (.cells true 0 [(.pointer a5), (.pointer a16), (.pointer a35), (.int .i64 n36), (.int .i64 n37), (.int .i64 n38), (.int .i64 n39), (.int .i64 n40), (.slice x1 x1l 0), (.slice (some ⟨(H15.next + 8), 0, none⟩) ((x1l : Nat) : Int).toNat 0)])).cellsAt i1 0 5 = some [(.int .i64 n62), (.int .i64 n63), (.int .i64 n64), (.int .i64 n65), (.int .i64 n66)] ∧
 sameN 8 (.agg #[(.int .i64 n49), (.int .i64 n50), (.int .i64 n51), (.int .i64 n52), (.int .i64 n53)]) (.agg #[(.int .i64 n62), (.int .i64 n63), (.int .i64 n64), (.int .i64 n65), (.int .i64 n66)]) = true) ∧ (∃ n57, ∃ n58, ∃ n59, ∃ n60, ∃ n61, H47.cellsAt i1 0 5 = some [(.int .i64 n57), (.int .i64 n58), (.int .i64 n59), (.int .i64 n60), (.int .i64 n61)] ∧
 sameN 8 (.agg #[(.int .i64 n49), (.int .i64 n50), (.int .i64 n51), (.int .i64 n52), (.int .i64 n53)]) (.agg #[(.int .i64 n57), (.int .i64 n58), (.int .i64 n59), (.int .i64 n60), (.int .i64 n61)]) = true) ∧ True) ∧
 True))) ∧
 ((∃ n23, ∃ n24, ∃ n25, ∃ n26, ∃ n27, (H4.bump 12).cellsAt i1 0 5 = some [(.int .i64 n23), (.int .i64 n24), (.int .i64 n25), (.int .i64 n26), (.int .i64 n27)] ∧
 sameN 8 (.agg #[(.int .i64 n9), (.int .i64 n10), (.int .i64 n11), (.int .i64 n12), (.int .i64 n13)]) (.agg #[(.int .i64 n23), (.int .i64 n24), (.int .i64 n25), (.int .i64 n26), (.int .i64 n27)]) = true) ∧ (∃ n18, ∃ n19, ∃ n20, ∃ n21, ∃ n22, H7.cellsAt i1 0 5 = some [(.int .i64 n18), (.int .i64 n19), (.int .i64 n20), (.int .i64 n21), (.int .i64 n22)] ∧
 sameN 8 (.agg #[(.int .i64 n9), (.int .i64 n10), (.int .i64 n11), (.int .i64 n12), (.int .i64 n13)]) (.agg #[(.int .i64 n18), (.int .i64 n19), (.int .i64 n20), (.int .i64 n21), (.int .i64 n22)]) = true) ∧ True) ∧
 True)) →
    CA en F.crossbarlaw18_begin [(.agg #[(.int .i64 x0_0), (.int .i64 x0_1), (.int .i64 x0_2), (.int .i64 x0_3), (.int .i64 x0_4)]), (.slice x1 x1l 0)] H R := by
  intro h
  refine wpFn_ok (Z := []) (fn := Go.Proofs.Try.f35) ?_ ?_ ?_
  · kernel_rfl
  · kernel_rfl
  · apply turnInto h
    kernel_rfl


/-! crossbarlaw18_side_step -/

theorem vc_crossbarlaw18_side_step (x0 : Option Addr) (x1 : Int) (H : Heap) (R : Value → Heap → Prop) :
    (
 AS.asAddr (.pointer x0) fun i1 i2 =>
 ∃ a3 i4, H.cell i1 (i2 + 9) = some (.slice a3 i4 0) ∧
 inB x1 i4 ∧
 asRow a3 fun i5 i6 =>
 ∃ J7 : List Value → Heap → Prop, (
 ∃ a8, H.cell i5 (i6 + (x1.toNat * 12)) = some (.pointer a8) ∧
 bif a8.isNone then (
 ∃ n9, (H.bump 13).cell i5 ((i6 + (x1.toNat * 12)) + 6) = some (.int .i64 n9) ∧
 AS.asAddr (.pointer x0) fun i10 i11 =>
 ∃ a12 i13, (H.bump 13).cell i10 (i11 + 8) = some (.slice a12 i13 0) ∧
 inB x1 i13 ∧
 asRow a12 fun i14 i15 =>
 ∃ a16 i17, (H.bump 13).cell i14 (i15 + (x1.toNat * 1)) = some (.slice a16 i17 0) ∧
 (
 bif (decide (n9 ≥ ((i17 : Nat) : Int))) then (
 R (.bool true) (H.bump 13))
 else (
 AS.asAddr (.pointer x0) fun i18 i19 =>
 ∃ a20, (H.bump 13).cell i18 i19 = some (.pointer a20) ∧
 CA en F.smem_Mem_Count [(.pointer a20)] (H.bump 13) fun v21 H22 =>
 ∃ n23, v21 = (.int .i64 n23) ∧
 AS.asAddr (.pointer x0) fun i24 i25 =>
 ∃ n26, ∃ n27, ∃ n28, ∃ n29, ∃ n30, (H22.bump 22).cellsAt i24 (i25 + 3) 5 = some [(.int .i64 n26), (.int .i64 n27), (.int .i64 n28), (.int .i64 n29), (.int .i64 n30)] ∧
 AS.asAddr (.pointer x0) fun i31 i32 =>
 ∃ a33 i34, (H22.bump 22).cell i31 (i32 + 8) = some (.slice a33 i34 0) ∧
 inB x1 i34 ∧
 asRow a33 fun i35 i36 =>
 ∃ a37 i38, (H22.bump 22).cell i35 (i36 + (x1.toNat * 1)) = some (.slice a37 i38 0) ∧
 ∃ n39, (H22.bump 22).cell i5 ((i6 + (x1.toNat * 12)) + 6) = some (.int .i64 n39) ∧
 inB n39 i38 ∧
 asRow a37 fun i40 i41 =>
 ∃ n42, ∃ n43, ∃ a44 i45, ∃ n46, ∃ n47, (H22.bump 22).cellsAt i40 (i41 + (n39.toNat * 5)) 5 = some [(.int .i64 n42), (.int .u64 n43), (.slice a44 i45 0), (.int .i64 n46), (.int .i64 n47)] ∧
 CA en F.crossbarkit_FitOp [(.agg #[(.int .i64 n26), (.int .i64 n27), (.int .i64 n28), (.int .i64 n29), (.int .i64 n30)]), (.agg #[(.int .i64 n42), (.int .u64 n43), (.slice a44 i45 0), (.int .i64 n46), (.int .i64 n47)]), (.int .i64 1)] (H22.bump 22) fun v48 H49 =>
 ∃ n50, ∃ n51, ∃ a52 i53, ∃ n54, ∃ n55, v48 = (.agg #[(.int .i64 n50), (.int .u64 n51), (.slice a52 i53 0), (.int .i64 n54), (.int .i64 n55)]) ∧
 stc H49 i5 ((i6 + (x1.toNat * 12)) + 1) [(.int .i64 n50), (.int .u64 n51), (.slice a52 i53 0), (.int .i64 n54), (.int .i64 n55)] fun H56 =>
 (
 ∃ n57, H56.cell i5 ((i6 + (x1.toNat * 12)) + 6) = some (.int .i64 n57) ∧
 stc H56 i5 ((i6 + (x1.toNat * 12)) + 6) [(.int .i64 (IntKind.i64.wrap (n57 + 1)))] fun H58 =>
 stc H58 i5 ((i6 + (x1.toNat * 12)) + 7) [(.bool false)] fun H59 =>
 ∃ n60, ∃ n61, ∃ a62 i63, ∃ n64, ∃ n65, H59.cellsAt i5 ((i6 + (x1.toNat * 12)) + 1) 5 = some [(.int .i64 n60), (.int .u64 n61), (.slice a62 i63 0), (.int .i64 n64), (.int .i64 n65)] ∧
 CA en F.crossbarkit_CopyOp [(.agg #[(.int .i64 n60), (.int .u64 n61), (.slice a62 i63 0), (.int .i64 n64), (.int .i64 n65)])] H59 fun v66 H67 =>
 ∃ n68, ∃ n69, ∃ a70 i71, ∃ n72, ∃ n73, v66 = (.agg #[(.int .i64 n68), (.int .u64 n69), (.slice a70 i71 0), (.int .i64 n72), (.int .i64 n73)]) ∧
 nwH H67 (.cells true 0 [(.int .i64 0), (.int .u64 0), (.slice none 0 0), (.int .i64 0), (.int .i64 0)]) fun i74 H75 =>
 stc H75 i74 0 [(.int .i64 n68), (.int .u64 n69), (.slice a70 i71 0), (.int .i64 n72), (.int .i64 n73)] fun H76 =>
 AS.asAddr (.pointer x0) fun i77 i78 =>
 ∃ a79, (H76.bump 10).cell i77 (i78 + 1) = some (.pointer a79) ∧
 ∃ n80, ∃ n81, ∃ a82 i83, ∃ n84, ∃ n85, (H76.bump 10).cellsAt i74 0 5 = some [(.int .i64 n80), (.int .u64 n81), (.slice a82 i83 0), (.int .i64 n84), (.int .i64 n85)] ∧
 CA en F.bloom_Map_Begin [(.pointer a79), (.agg #[(.int .i64 n80), (.int .u64 n81), (.slice a82 i83 0), (.int .i64 n84), (.int .i64 n85)])] (H76.bump 10) fun v86 H87 =>
 ∃ a88, v86 = (.pointer a88) ∧
 stc H87 i5 (i6 + (x1.toNat * 12)) [(.pointer a88)] fun H89 =>
 (
 ∃ a90 i91, H89.cell i74 2 = some (.slice a90 i91 0) ∧
 CA en F.crossbarkit_SpoilWords [(.slice a90 i91 0)] H89 fun v92 H93 =>
 v92 = undef ∧
 ∃ a94, H93.cell i5 (i6 + (x1.toNat * 12)) = some (.pointer a94) ∧
 bif a94.isNone then (
 R (.bool false) H93)
 else (
 AS.asAddr (.pointer x0) fun i95 i96 =>
 ∃ a97, H93.cell i95 i96 = some (.pointer a97) ∧
 CA en F.smem_Mem_Count [(.pointer a97)] H93 fun v98 H99 =>
 ∃ n100, v98 = (.int .i64 n100) ∧
 bif (n100 != n23) then (
 R (.bool false) H99)
 else (
 J7 [] H99))) ∧
 True) ∧
 True)) ∧
 True)
 else (
 J7 [] H)) ∧
 ∀ (ys101 : Fr) (H102 : Heap), J7 [] H102 →
 AS.asAddr (.pointer x0) fun i103 i104 =>
 ∃ a105, H102.cell i103 i104 = some (.pointer a105) ∧
 CA en F.smem_Mem_Count [(.pointer a105)] H102 fun v106 H107 =>
 ∃ n108, v106 = (.int .i64 n108) ∧
 AS.asAddr (.pointer x0) fun i109 i110 =>
 ∃ a111, H107.cell i109 i110 = some (.pointer a111) ∧
 CA en F.smem_Mem_Bad [(.pointer a111)] H107 fun v112 H113 =>
 ∃ n114, v112 = (.int .i64 n114) ∧
 ∃ a115, H113.cell i5 (i6 + (x1.toNat * 12)) = some (.pointer a115) ∧
 CA en F.bloom_Run_Step [(.pointer a115)] H113 fun v116 H117 =>
 ∃ b118, ∃ b119, v116 = (.tuple #[(.bool b118), (.bool b119)]) ∧
 AS.asAddr (.pointer x0) fun i120 i121 =>
 ∃ a122, H117.cell i120 i121 = some (.pointer a122) ∧
 CA en F.smem_Mem_Count [(.pointer a122)] H117 fun v123 H124 =>
 ∃ n125, v123 = (.int .i64 n125) ∧
 bif (decide (n125 > (IntKind.i64.wrap (n108 + 1)))) then (
 R (.bool false) H124)
 else (
 AS.asAddr (.pointer x0) fun i126 i127 =>
 ∃ a128, H124.cell i126 i127 = some (.pointer a128) ∧
 CA en F.smem_Mem_Bad [(.pointer a128)] H124 fun v129 H130 =>
 ∃ n131, v129 = (.int .i64 n131) ∧
 bif (n131 != n114) then (
 R (.bool false) H130)
 else (
 bif b118 then (
 ∃ b132, H130.cell i5 ((i6 + (x1.toNat * 12)) + 7) = some (.bool b132) ∧
 bif b132 then (
 R (.bool false) H130)
 else (
 ∃ J133 : List Value → Heap → Prop, (
 bif b118 then (
 stc H130 i5 ((i6 + (x1.toNat * 12)) + 7) [(.bool true)] fun H134 =>
 ∃ a135, H134.cell i5 (i6 + (x1.toNat * 12)) = some (.pointer a135) ∧
 CA en F.bloom_Run_Result [(.pointer a135)] H134 fun v136 H137 =>
 ∃ n138, ∃ a139 i140, ∃ n141, ∃ n142, v136 = (.agg #[(.int .i64 n138), (.slice a139 i140 0), (.int .u64 n141), (.int .i64 n142)]) ∧
 CA en F.crossbarkit_CopyRes [(.agg #[(.int .i64 n138), (.slice a139 i140 0), (.int .u64 n141), (.int .i64 n142)])] H137 fun v143 H144 =>
 ∃ n145, ∃ a146 i147, ∃ n148, ∃ n149, v143 = (.agg #[(.int .i64 n145), (.slice a146 i147 0), (.int .u64 n148), (.int .i64 n149)]) ∧
 stc H144 i5 ((i6 + (x1.toNat * 12)) + 8) [(.int .i64 n145), (.slice a146 i147 0), (.int .u64 n148), (.int .i64 n149)] fun H150 =>
 ∃ n151, ∃ a152 i153, ∃ n154, ∃ n155, (H150.bump 15).cellsAt i5 ((i6 + (x1.toNat * 12)) + 8) 4 = some [(.int .i64 n151), (.slice a152 i153 0), (.int .u64 n154), (.int .i64 n155)] ∧
 AS.asAddr (.pointer x0) fun i156 i157 =>
 ∃ a158, (H150.bump 15).cell i156 (i157 + 2) = some (.pointer a158) ∧
 ∃ n159, ∃ n160, ∃ a161 i162, ∃ n163, ∃ n164, (H150.bump 15).cellsAt i5 ((i6 + (x1.toNat * 12)) + 1) 5 = some [(.int .i64 n159), (.int .u64 n160), (.slice a161 i162 0), (.int .i64 n163), (.int .i64 n164)] ∧
 CA en F.crossbarref18_Map_Do [(.pointer a158), (.agg #[(.int .i64 n159), (.int .u64 n160), (.slice a161 i162 0), (.int .i64 n163), (.int .i64 n164)])] (H150.bump 15) fun v165 H166 =>
 ∃ n167, ∃ a168 i169, ∃ n170, ∃ n171, v165 = (.agg #[(.int .i64 n167), (.slice a168 i169 0), (.int .u64 n170), (.int .i64 n171)]) ∧
 CA en F.crossbarkit_SameRes [(.agg #[(.int .i64 n151), (.slice a152 i153 0), (.int .u64 n154), (.int .i64 n155)]), (.agg #[(.int .i64 n167), (.slice a168 i169 0), (.int .u64 n170), (.int .i64 n171)])] H166 fun v172 H173 =>
 ∃ b174, v172 = (.bool b174) ∧
 (
 bif (!b174) then (
 R (.bool false) H173)
 else (
 J133 [] H173)) ∧
 ((∃ n180, ∃ a181 i182, ∃ n183, ∃ n184, (H150.bump 15).cellsAt i5 ((i6 + (x1.toNat * 12)) + 8) 4 = some [(.int .i64 n180), (.slice a181 i182 0), (.int .u64 n183), (.int .i64 n184)] ∧
 sameN 8 (.agg #[(.int .i64 n151), (.slice a152 i153 0), (.int .u64 n154), (.int .i64 n155)]) (.agg #[(.int .i64 n180), (.slice a181 i182 0), (.int .u64 n183), (.int .i64 n184)]) = true) ∧ (∃ n175, ∃ a176 i177, ∃ n178, ∃ n179, H166.cellsAt i5 ((i6 + (x1.toNat * 12)) + 8) 4 = some [(.int .i64 n175), (.slice a176 i177 0), (.int .u64 n178), (.int .i64 n179)] ∧
 sameN 8 (.agg #[(.int .i64 n151), (.slice a152 i153 0), (.int .u64 n154), (.int .i64 n155)]) (.agg #[(.int .i64 n175), (.slice a176 i177 0), (.int .u64 n178), (.int .i64 n179)]) = true) ∧ True) ∧
 True)
 else (
 J133 [] H130)) ∧
 ∀ (ys185 : Fr) (H186 : Heap), J133 [] H186 →
 bif (!b119) then (
 R (.bool true) H186)
 else (
 AS.asAddr (.pointer x0) fun i187 i188 =>
 ∃ a189, H186.cell i187 i188 = some (.pointer a189) ∧
 CA en F.smem_Mem_Count [(.pointer a189)] H186 fun v190 H191 =>
 ∃ n192, v190 = (.int .i64 n192) ∧
 ∃ a193, H191.cell i5 (i6 + (x1.toNat * 12)) = some (.pointer a193) ∧
 CA en F.bloom_Run_Step [(.pointer a193)] H191 fun v194 H195 =>
 ∃ b196, ∃ b197, v194 = (.tuple #[(.bool b196), (.bool b197)]) ∧
 ∃ b198, (H195.bump 34).cell i5 ((i6 + (x1.toNat * 12)) + 7) = some (.bool b198) ∧
 bif (!b198) then (
 (
 R (.bool false) (H195.bump 34)) ∧
 True)
 else (
 bif b196 then (
 (
 R (.bool false) (H195.bump 34)) ∧
 True)
 else (
 bif (!b197) then (
 (
 R (.bool false) (H195.bump 34)) ∧
 True)
 else (
 AS.asAddr (.pointer x0) fun i199 i200 =>
 ∃ a201, (H195.bump 34).cell i199 i200 = some (.pointer a201) ∧
 CA en F.smem_Mem_Count [(.pointer a201)] (H195.bump 34) fun v202 H203 =>
 ∃ n204, v202 = (.int .i64 n204) ∧
 bif (n204 != n192) then (
 (
 R (.bool false) H203) ∧
 True)
 else (
 ∃ a205, H203.cell i5 (i6 + (x1.toNat * 12)) = some (.pointer a205) ∧
 CA en F.bloom_Run_Result [(.pointer a205)] H203 fun v206 H207 =>
 ∃ n208, ∃ a209 i210, ∃ n211, ∃ n212, v206 = (.agg #[(.int .i64 n208), (.slice a209 i210 0), (.int .u64 n211), (.int .i64 n212)]) ∧
 ∃ n213, ∃ a214 i215, ∃ n216, ∃ n217, H207.cellsAt i5 ((i6 + (x1.toNat * 12)) + 8) 4 = some [(.int .i64 n213), (.slice a214 i215 0), (.int .u64 n216), (.int .i64 n217)] ∧
 CA en F.crossbarkit_SameRes [(.agg #[(.int .i64 n208), (.slice a209 i210 0), (.int .u64 n211), (.int .i64 n212)]), (.agg #[(.int .i64 n213), (.slice a214 i215 0), (.int .u64 n216), (.int .i64 n217)])] H207 fun v218 H219 =>
 ∃ b220, v218 = (.bool b220) ∧
 (
 bif (!b220) then (
 R (.bool false) H219)
 else (
 stc H219 i5 (i6 + (x1.toNat * 12)) [(.pointer none)] fun H231 =>
 R (.bool true) H231)) ∧
 ((∃ n226, ∃ a227 i228, ∃ n229, ∃ n230, H203.cellsAt i5 ((i6 + (x1.toNat * 12)) + 8) 4 = some [(.int .i64 n226), (.slice a227 i228 0), (.int .u64 n229), (.int .i64 n230)] ∧
 sameN 8 (.agg #[(.int .i64 n213), (.slice a214 i215 0), (.int .u64 n216), (.int .i64 n217)]) (.agg #[(.int .i64 n226), (.slice a227 i228 0), (.int .u64 n229), (.int .i64 n230)]) = true) ∧ (∃ n221, ∃ a222 i223, ∃ n224, ∃ n225, H207.cellsAt i5 ((i6 + (x1.toNat * 12)) + 8) 4 = some [(.int .i64 n221), (.slice a222 i223 0), (.int .u64 n224), (.int .i64 n225)] ∧
 sameN 8 (.agg #[(.int .i64 n213), (.slice a214 i215 0), (.int .u64 n216), (.int .i64 n217)]) (.agg #[(.int .i64 n221), (.slice a222 i223 0), (.int .u64 n224), (.int .i64 n225)]) = true) ∧ True) ∧
 True)))))))
 else (
 ∃ J232 : List Value → Heap → Prop, (
 bif b118 then (
 stc H130 i5 ((i6 + (x1.toNat * 12)) + 7) [(.bool true)] fun H233 =>
 ∃ a234, H233.cell i5 (i6 + (x1.toNat * 12)) = some (.pointer a234) ∧
 CA en F.bloom_Run_Result [(.pointer a234)] H233 fun v235 H236 =>
 ∃ n237, ∃ a238 i239, ∃ n240, ∃ n241, v235 = (.agg #[(.int .i64 n237), (.slice a238 i239 0), (.int .u64 n240), (.int .i64 n241)]) ∧
 CA en F.crossbarkit_CopyRes [(.agg #[(.int .i64 n237), (.slice a238 i239 0), (.int .u64 n240), (.int .i64 n241)])] H236 fun v242 H243 =>
 ∃ n244, ∃ a245 i246, ∃ n247, ∃ n248, v242 = (.agg #[(.int .i64 n244), (.slice a245 i246 0), (.int .u64 n247), (.int .i64 n248)]) ∧
 stc H243 i5 ((i6 + (x1.toNat * 12)) + 8) [(.int .i64 n244), (.slice a245 i246 0), (.int .u64 n247), (.int .i64 n248)] fun H249 =>
 ∃ n250, ∃ a251 i252, ∃ n253, ∃ n254, (H249.bump 15).cellsAt i5 ((i6 + (x1.toNat * 12)) + 8) 4 = some [(.int .i64 n250), (.slice a251 i252 0), (.int .u64 n253), (.int .i64 n254)] ∧
 AS.asAddr (.pointer x0) fun i255 i256 =>
 ∃ a257, (H249.bump 15).cell i255 (i256 + 2) = some (.pointer a257) ∧
 ∃ n258, ∃ n259, ∃ a260 i261, ∃ n262, ∃ n263, (H249.bump 15).cellsAt i5 ((i6 + (x1.toNat * 12)) + 1) 5 = some [(.int .i64 n258), (.int .u64 n259), (.slice a260 i261 0), (.int .i64 n262), (.int .i64 n263)] ∧
 CA en F.crossbarref18_Map_Do [(.pointer a257), (.agg #[(.int .i64 n258), (.int .u64 n259), (.slice a260 i261 0), (.int .i64 n262), (.int .i64 n263)])] (H249.bump 15) fun v264 H265 =>
 ∃ n266, ∃ a267 i268, ∃ n269, ∃ n270, v264 = (.agg #[(.int .i64 n266), (.slice a267 i268 0), (.int .u64 n269), (.int .i64 n270)]) ∧
 CA en F.crossbarkit_SameRes [(.agg #[(.int .i64 n250), (.slice a251 i252 0), (.int .u64 n253), (.int .i64 n254)]), (.agg #[(.int .i64 n266), (.slice a267 i268 0), (.int .u64 n269), (.int .i64 n270)])] H265 fun v271 H272 =>
 ∃ b273, v271 = (.bool b273) ∧
 (
 bif (!b273) then (
 R (.bool false) H272)
 else (
 J232 [] H272)) ∧
 ((∃ n279, ∃ a280 i281, ∃ n282, ∃ n283, (H249.bump 15).cellsAt i5 ((i6 + (x1.toNat * 12)) + 8) 4 = some [(.int .i64 n279), (.slice a280 i281 0), (.int .u64 n282), (.int .i64 n283)] ∧
 sameN 8 (.agg #[(.int .i64 n250), (.slice a251 i252 0), (.int .u64 n253), (.int .i64 n254)]) (.agg #[(.int .i64 n279), (.slice a280 i281 0), (.int .u64 n282), (.int .i64 n283)]) = true) ∧ (∃ n274, ∃ a275 i276, ∃ n277, ∃ n278, H265.cellsAt i5 ((i6 + (x1.toNat * 12)) + 8) 4 = some [(.int .i64 n274), (.slice a275 i276 0), (.int .u64 n277), (.int .i64 n278)] ∧
 sameN 8 (.agg #[(.int .i64 n250), (.slice a251 i252 0), (.int .u64 n253), (.int .i64 n254)]) (.agg #[(.int .i64 n274), (.slice a275 i276 0), (.int .u64 n277), (.int .i64 n278)]) = true) ∧ True) ∧
 True)
 else (
 J232 [] H130)) ∧
 ∀ (ys284 : Fr) (H285 : Heap), J232 [] H285 →
 bif (!b119) then (
 R (.bool true) H285)
 else (
 AS.asAddr (.pointer x0) fun i286 i287 =>
 ∃ a288, H285.cell i286 i287 = some (.pointer a288) ∧
 CA en F.smem_Mem_Count [(.pointer a288)] H285 fun v289 H290 =>
 ∃ n291, v289 = (.int .i64 n291) ∧
 ∃ a292, H290.cell i5 (i6 + (x1.toNat * 12)) = some (.pointer a292) ∧
 CA en F.bloom_Run_Step [(.pointer a292)] H290 fun v293 H294 =>
 ∃ b295, ∃ b296, v293 = (.tuple #[(.bool b295), (.bool b296)]) ∧
 ∃ b297, (H294.bump 34).cell i5 ((i6 + (x1.toNat * 12)) + 7) = some (.bool b297) ∧
 bif (!b297) then (
 (
 R (.bool false) (H294.bump 34)) ∧
 True)
 else (
 bif b295 then (
 (
 R (.bool false) (H294.bump 34)) ∧
 True)
 else (
 bif (!b296) then (
 (
 R (.bool false) (H294.bump 34)) ∧
 True)
 else (
 AS.asAddr (.pointer x0) fun i298 i299 =>
 ∃ a300, (H294.bump 34).cell i298 i299 = some (.pointer a300) ∧
 CA en F.smem_Mem_Count [(.pointer a300)] (H294.bump 34) fun v301 H302 =>
 ∃ n303, v301 = (.int .i64 n303) ∧
 bif (n303 != n291) then (
 (
 R (.bool false) H302) ∧
 True)
 else (
 ∃ a304, H302.cell i5 (i6 + (x1.toNat * 12)) = some (.pointer a304) ∧
 CA en F.bloom_Run_Result [(.pointer a304)] H302 fun v305 H306 =>
 ∃ n307, ∃ a308 i309, ∃ n310, ∃ n311, v305 = (.agg #[(.int .i64 n307), (.slice a308 i309 0), (.int .u64 n310), (.int .i64 n311)]) ∧
 ∃ n312, ∃ a313 i314, ∃ n315, ∃ n316, H306.cellsAt i5 ((i6 + (x1.toNat * 12)) + 8) 4 = some [(.int .i64 n312), (.slice a313 i314 0), (.int .u64 n315), (.int .i64 n316)] ∧
 CA en F.crossbarkit_SameRes [(.agg #[(.int .i64 n307), (.slice a308 i309 0), (.int .u64 n310), (.int .i64 n311)]), (.agg #[(.int .i64 n312), (.slice a313 i314 0), (.int .u64 n315), (.int .i64 n316)])] H306 fun v317 H318 =>
 ∃ b319, v317 = (.bool b319) ∧
 (
 bif (!b319) then (
 R (.bool false) H318)
 else (
 stc H318 i5 (i6 + (x1.toNat * 12)) [(.pointer none)] fun H330 =>
 R (.bool true) H330)) ∧
 ((∃ n325, ∃ a326 i327, ∃ n328, ∃ n329, H302.cellsAt i5 ((i6 + (x1.toNat * 12)) + 8) 4 = some [(.int .i64 n325), (.slice a326 i327 0), (.int .u64 n328), (.int .i64 n329)] ∧
 sameN 8 (.agg #[(.int .i64 n312), (.slice a313 i314 0), (.int .u64 n315), (.int .i64 n316)]) (.agg #[(.int .i64 n325), (.slice a326 i327 0), (.int .u64 n328), (.int .i64 n329)]) = true) ∧ (∃ n320, ∃ a321 i322, ∃ n323, ∃ n324, H306.cellsAt i5 ((i6 + (x1.toNat * 12)) + 8) 4 = some [(.int .i64 n320), (.slice a321 i322 0), (.int .u64 n323), (.int .i64 n324)] ∧
 sameN 8 (.agg #[(.int .i64 n312), (.slice a313 i314 0), (.int .u64 n315), (.int .i64 n316)]) (.agg #[(.int .i64 n320), (.slice a321 i322 0), (.int .u64 n323), (.int .i64 n324)]) = true) ∧ True) ∧
 True))))))))) →
    CA en F.crossbarlaw18_side_step [(.pointer x0), (.int .i64 x1)] H R := by
  intro h
  refine wpFnC_ok (C := [none, none, some [], none, none, none, none, none, none, none, none, none, none, none, none, none, none, none, none, none, none, none, some [], none, none, none, none, none, none, none, none, none, none, none, none, none, none, none]) (Z := []) (fn := Go.Proofs.Try.f36) ?_ ?_ ?_
  · kernel_rfl
  · kernel_rfl
  · apply turnInto h
    kernel_rfl


/-! crossbarlaw18_side_rest -/
noncomputable def L_crossbarlaw18_side_rest_0 : Code := loopAt Go.Proofs.Try.f38 0
noncomputable def L_crossbarlaw18_side_rest_1 : Code := loopAt Go.Proofs.Try.f38 1
noncomputable def L_crossbarlaw18_side_rest_2 : Code := loopAt Go.Proofs.Try.f38 2

theorem vc_crossbarlaw18_side_rest (x0 : Option Addr) (H : Heap) (R : Value → Heap → Prop) :
    (
 LA en L_crossbarlaw18_side_rest_0 [(.pointer x0), undef, (.bool false), (.int .i64 0), undef, undef, undef, undef, undef, undef, undef, undef, undef, undef, undef, undef, undef, undef, undef, undef, undef, undef, undef, undef, undef, undef, undef, undef, undef, undef, undef, undef, undef, undef, undef, undef, undef, undef, undef, undef, undef, undef, undef, undef, undef, undef, undef, undef, undef, undef, undef, undef, undef, undef, undef, undef, undef, undef, undef, undef, undef, undef, undef, undef, undef, undef, undef] H [(X.exit 0, fun (y1 : Fr) (H2 : Heap) =>
 AS.asBool (y1.getD 2 undef) fun b3 =>
 LA en L_crossbarlaw18_side_rest_2 [(.pointer x0), undef, (.bool b3), (y1.getD 3 undef), (y1.getD 4 undef), (.int .i64 0), (y1.getD 6 undef), (y1.getD 7 undef), (y1.getD 8 undef), (y1.getD 9 undef), (y1.getD 10 undef), (y1.getD 11 undef), (y1.getD 12 undef), (y1.getD 13 undef), (y1.getD 14 undef), (y1.getD 15 undef), (y1.getD 16 undef), (y1.getD 17 undef), (y1.getD 18 undef), (y1.getD 19 undef), (y1.getD 20 undef), (y1.getD 21 undef), (y1.getD 22 undef), (y1.getD 23 undef), (y1.getD 24 undef), (y1.getD 25 undef), (y1.getD 26 undef), (y1.getD 27 undef), (y1.getD 28 undef), (y1.getD 29 undef), undef, undef, undef, undef, undef, undef, undef, undef, undef, undef, undef, undef, undef, undef, undef, undef, undef, undef, undef, undef, undef, undef, undef, undef, undef, undef, undef, undef, undef, undef, undef, undef, undef, undef, undef, undef, undef] H2 [(X.exit 4, fun (y4 : Fr) (H5 : Heap) =>
 AS.asBool (y4.getD 2 undef) fun b6 =>
 R (.bool true) H5),
 (X.ret, fun (y7 : Fr) (H8 : Heap) =>
 AS.asBool (y7.getD 2 undef) fun b9 =>
 R (.bool b9) H8)]),
 (X.ret, fun (y10 : Fr) (H11 : Heap) =>
 AS.asBool (y10.getD 2 undef) fun b12 =>
 R (.bool b12) H11)]) →
    CA en F.crossbarlaw18_side_rest [(.pointer x0)] H R := by
  intro h
  refine wpFn_ok (Z := [[(2, (.bool false))], [(2, (.bool false))], [(2, (.bool false))]]) (fn := Go.Proofs.Try.f38) ?_ ?_ ?_
  · kernel_rfl
  · kernel_rfl
  · apply turnInto h
    kernel_rfl

theorem use_crossbarlaw18_side_rest_0 {t0 : Option Addr} {K0 : Fr → Heap → Prop} {K1 : Fr → Heap → Prop} {t2 : Bool} {t3 : Int} {t4 : Value} {t6 : Value} {t7 : Value} {t8 : Value} {t9 : Value} {t10 : Value} {t11 : Value} {t12 : Value} {t13 : Value} {t14 : Value} {t15 : Value} {t16 : Value} {t17 : Value} {t18 : Value} {t19 : Value} {t20 : Value} {t21 : Value} {t22 : Value} {t23 : Value} {t24 : Value} {t25 : Value} {t26 : Value} {t27 : Value} {t28 : Value} {t29 : Value} {H : Heap} (I : Nat → Bool → Int → Heap → Prop) (n : Nat) (h0 : I n t2 t3 H)
    (hstep : ∀ (n : Nat) (t2 : Bool) (t3 : Int) (ys : Fr) (H : Heap), I n t2 t3 H →
    (
 AS.asAddr (.pointer t0) fun i1 i2 =>
 ∃ a3 i4, H.cell i1 (i2 + 8) = some (.slice a3 i4 0) ∧
 CA en F.crossbarkit_Total [(.slice a3 i4 0)] H fun v5 H6 =>
 ∃ n7, v5 = (.int .i64 n7) ∧
 bif (decide (t3 < (IntKind.i64.wrap (60 * (IntKind.i64.wrap (n7 + 1)))))) then (
 LA en L_crossbarlaw18_side_rest_1 [(.pointer t0), undef, (.bool t2), (.int .i64 t3), (.int .i64 0), undef, (.int .i64 t3), (.pointer t0), (.pointer (some ⟨i1, i2, none⟩)), (.pointer (some ⟨i1, (i2 + 8), none⟩)), (.slice a3 i4 0), (.int .i64 n7), (.int .i64 (IntKind.i64.wrap (n7 + 1))), (.int .i64 (IntKind.i64.wrap (60 * (IntKind.i64.wrap (n7 + 1))))), (.bool true), (ys.getD 15 undef), (ys.getD 16 undef), (ys.getD 17 undef), (ys.getD 18 undef), (ys.getD 19 undef), (ys.getD 20 undef), (ys.getD 21 undef), (ys.getD 22 undef), (ys.getD 23 undef), (ys.getD 24 undef), (ys.getD 25 undef), (ys.getD 26 undef), (ys.getD 27 undef), (ys.getD 28 undef), (ys.getD 29 undef), undef, undef, undef, undef, undef, undef, undef, undef, undef, undef, undef, undef, undef, undef, undef, undef, undef, undef, undef, undef, undef, undef, undef, undef, undef, undef, undef, undef, undef, undef, undef, undef, undef, undef, undef, undef, undef] H6 [(X.exit 2, fun (y8 : Fr) (H9 : Heap) =>
 AS.asBool (y8.getD 2 undef) fun b10 =>
 ∃ k11, k11 < n ∧
 I k11 b10 (IntKind.i64.wrap (t3 + 1)) H9),
 (X.ret, fun (y12 : Fr) (H13 : Heap) =>
 AS.asBool (y12.getD 2 undef) fun b14 =>
 K1 [(.pointer t0), undef, (.bool b14), (.int .i64 t3), (y12.getD 4 undef), undef, (.int .i64 t3), (.pointer t0), (.pointer (some ⟨i1, i2, none⟩)), (.pointer (some ⟨i1, (i2 + 8), none⟩)), (.slice a3 i4 0), (.int .i64 n7), (.int .i64 (IntKind.i64.wrap (n7 + 1))), (.int .i64 (IntKind.i64.wrap (60 * (IntKind.i64.wrap (n7 + 1))))), (.bool true), (ys.getD 15 undef), (ys.getD 16 undef), (y12.getD 17 undef), (y12.getD 18 undef), (y12.getD 19 undef), (y12.getD 20 undef), (y12.getD 21 undef), (y12.getD 22 undef), (y12.getD 23 undef), (y12.getD 24 undef), (y12.getD 25 undef), (y12.getD 26 undef), (y12.getD 27 undef), (y12.getD 28 undef), (y12.getD 29 undef), undef, undef, undef, undef, undef, undef, undef, undef, undef, undef, undef, undef, undef, undef, undef, undef, undef, undef, undef, undef, undef, undef, undef, undef, undef, undef, undef, undef, undef, undef, undef, undef, undef, undef, undef, undef, undef] H13)])
 else (
 K0 [(.pointer t0), undef, (.bool t2), (.int .i64 t3), (ys.getD 4 undef), undef, (.int .i64 t3), (.pointer t0), (.pointer (some ⟨i1, i2, none⟩)), (.pointer (some ⟨i1, (i2 + 8), none⟩)), (.slice a3 i4 0), (.int .i64 n7), (.int .i64 (IntKind.i64.wrap (n7 + 1))), (.int .i64 (IntKind.i64.wrap (60 * (IntKind.i64.wrap (n7 + 1))))), (.bool false), (ys.getD 15 undef), (ys.getD 16 undef), (ys.getD 17 undef), (ys.getD 18 undef), (ys.getD 19 undef), (ys.getD 20 undef), (ys.getD 21 undef), (ys.getD 22 undef), (ys.getD 23 undef), (ys.getD 24 undef), (ys.getD 25 undef), (ys.getD 26 undef), (ys.getD 27 undef), (ys.getD 28 undef), (ys.getD 29 undef), undef, undef, undef, undef, undef, undef, undef, undef, undef, undef, undef, undef, undef, undef, undef, undef, undef, undef, undef, undef, undef, undef, undef, undef, undef, undef, undef, undef, undef, undef, undef, undef, undef, undef, undef, undef, undef] H6))) :
    LA en L_crossbarlaw18_side_rest_0 [(.pointer t0), undef, (.bool t2), (.int .i64 t3), t4, undef, t6, t7, t8, t9, t10, t11, t12, t13, t14, t15, t16, t17, t18, t19, t20, t21, t22, t23, t24, t25, t26, t27, t28, t29, undef, undef, undef, undef, undef, undef, undef, undef, undef, undef, undef, undef, undef, undef, undef, undef, undef, undef, undef, undef, undef, undef, undef, undef, undef, undef, undef, undef, undef, undef, undef, undef, undef, undef, undef, undef, undef] H [(X.exit 0, K0), (X.ret, K1)] := by
  refine LA_rule (Z := [[(2, (.bool false))]]) (fun m xs H' => AS.asBool (xs.getD 2 undef) fun t2 => AS.asInt .i64 (xs.getD 3 undef) fun t3 => I m t2 t3 H') ?_ n H ?_
  · intro n H
    suffices hs : ∀ s6 : Value, ∀ s7 : Value, ∀ s8 : Value, ∀ s9 : Value, ∀ s10 : Value, ∀ s11 : Value, ∀ s12 : Value, ∀ s13 : Value, ∀ s14 : Value, ∀ s4 : Value, ∀ s17 : Value, ∀ s18 : Value, ∀ s19 : Value, ∀ s20 : Value, ∀ s21 : Value, ∀ s22 : Value, ∀ s23 : Value, ∀ s26 : Value, ∀ s27 : Value, ∀ s28 : Value, ∀ s29 : Value, ∀ s2 : Value, ∀ s24 : Value, ∀ s25 : Value, ∀ s15 : Value, ∀ s16 : Value, ∀ s3 : Value, ((AS.asBool s2 fun t2 => AS.asInt .i64 s3 fun t3 => I n t2 t3 H) → wpCode en L_crossbarlaw18_side_rest_0 [[(2, (.bool false))]] [(.pointer t0), undef, s2, s3, s4, undef, s6, s7, s8, s9, s10, s11, s12, s13, s14, s15, s16, s17, s18, s19, s20, s21, s22, s23, s24, s25, s26, s27, s28, s29, undef, undef, undef, undef, undef, undef, undef, undef, undef, undef, undef, undef, undef, undef, undef, undef, undef, undef, undef, undef, undef, undef, undef, undef, undef, undef, undef, undef, undef, undef, undef, undef, undef, undef, undef, undef, undef] H (loopQ (fun m xs H' => AS.asBool (xs.getD 2 undef) fun t2 => AS.asInt .i64 (xs.getD 3 undef) fun t3 => I m t2 t3 H') n [(X.exit 0, K0), (X.ret, K1)])) by
      apply turnInto hs
      kernel_rfl
    intro s6 s7 s8 s9 s10 s11 s12 s13 s14 s4 s17 s18 s19 s20 s21 s22 s23 s26 s27 s28 s29 s2 s24 s25 s15 s16 s3 hP
    replace hP := asBool_elim hP
    obtain ⟨t2, rfl, hP⟩ := hP
    replace hP := asInt_elim hP
    obtain ⟨t3, rfl, hP⟩ := hP
    apply turnInto (hstep n t2 t3 [(.pointer t0), undef, (.bool t2), (.int .i64 t3), s4, undef, s6, s7, s8, s9, s10, s11, s12, s13, s14, s15, s16, s17, s18, s19, s20, s21, s22, s23, s24, s25, s26, s27, s28, s29, undef, undef, undef, undef, undef, undef, undef, undef, undef, undef, undef, undef, undef, undef, undef, undef, undef, undef, undef, undef, undef, undef, undef, undef, undef, undef, undef, undef, undef, undef, undef, undef, undef, undef, undef, undef, undef] H hP)
    kernel_rfl
  · apply turnInto h0
    kernel_rfl

theorem use_crossbarlaw18_side_rest_2 {t0 : Option Addr} {t3 : Value} {t4 : Value} {t6 : Value} {t7 : Value} {t8 : Value} {t9 : Value} {t10 : Value} {t11 : Value} {t12 : Value} {t13 : Value} {t14 : Value} {t15 : Value} {t16 : Value} {t17 : Value} {t18 : Value} {t19 : Value} {t20 : Value} {t21 : Value} {t22 : Value} {t23 : Value} {t24 : Value} {t25 : Value} {t26 : Value} {t27 : Value} {t28 : Value} {t29 : Value} {K0 : Fr → Heap → Prop} {K1 : Fr → Heap → Prop} {t2 : Bool} {t5 : Int} {t30 : Value} {t31 : Value} {t32 : Value} {t33 : Value} {t34 : Value} {t35 : Value} {t36 : Value} {t37 : Value} {t38 : Value} {t39 : Value} {t40 : Value} {t41 : Value} {t42 : Value} {t43 : Value} {t44 : Value} {t45 : Value} {t46 : Value} {t47 : Value} {t48 : Value} {t49 : Value} {t50 : Value} {t51 : Value} {t52 : Value} {t53 : Value} {t54 : Value} {t55 : Value} {t56 : Value} {t57 : Value} {t58 : Value} {t59 : Value} {t60 : Value} {t61 : Value} {t62 : Value} {t63 : Value} {t64 : Value} {t65 : Value} {t66 : Value} {H : Heap} (I : Nat → Bool → Int → Heap → Prop) (n : Nat) (h0 : I n t2 t5 H)
    (hstep : ∀ (n : Nat) (t2 : Bool) (t5 : Int) (ys : Fr) (H : Heap), I n t2 t5 H →
    (
 AS.asAddr (.pointer t0) fun i1 i2 =>
 ∃ a3 i4, H.cell i1 (i2 + 8) = some (.slice a3 i4 0) ∧
 bif (decide (t5 < ((i4 : Nat) : Int))) then (
 AS.asAddr (.pointer t0) fun i5 i6 =>
 ∃ a7 i8, (H.bump 28).cell i5 (i6 + 9) = some (.slice a7 i8 0) ∧
 inB t5 i8 ∧
 asRow a7 fun i9 i10 =>
 ∃ a11, (H.bump 28).cell i9 (i10 + (t5.toNat * 12)) = some (.pointer a11) ∧
 bif (!a11.isNone) then (
 (
 K1 [(.pointer t0), undef, (.bool false), t3, t4, (.int .i64 t5), t6, t7, t8, t9, t10, t11, t12, t13, t14, t15, t16, t17, t18, t19, t20, t21, t22, t23, t24, t25, t26, t27, t28, t29, (.int .i64 t5), (.pointer t0), (.pointer (some ⟨i1, i2, none⟩)), (.pointer (some ⟨i1, (i2 + 8), none⟩)), (.slice a3 i4 0), (.int .i64 ((i4 : Nat) : Int)), (.bool true), (ys.getD 37 undef), (ys.getD 38 undef), (.pointer t0), (.pointer (some ⟨i5, i6, none⟩)), (.pointer (some ⟨i5, (i6 + 9), none⟩)), (.slice a7 i8 0), (.int .i64 t5), (.pointer (some ⟨i9, (i10 + (t5.toNat * 12)), none⟩)), (.pointer (some ⟨i9, (i10 + (t5.toNat * 12)), none⟩)), (.pointer a11), (.bool (!a11.isNone)), (.bool true), undef, undef, undef, undef, undef, undef, undef, undef, undef, undef, undef, undef, undef, undef, undef, undef, undef, (.bool true)] (H.bump 28)) ∧
 True)
 else (
 AS.asAddr (.pointer t0) fun i12 i13 =>
 ∃ a14 i15, (H.bump 28).cell i12 (i13 + 9) = some (.slice a14 i15 0) ∧
 inB t5 i15 ∧
 asRow a14 fun i16 i17 =>
 ∃ n18, (H.bump 28).cell i16 ((i17 + (t5.toNat * 12)) + 6) = some (.int .i64 n18) ∧
 AS.asAddr (.pointer t0) fun i19 i20 =>
 ∃ a21 i22, (H.bump 28).cell i19 (i20 + 8) = some (.slice a21 i22 0) ∧
 inB t5 i22 ∧
 asRow a21 fun i23 i24 =>
 ∃ a25 i26, (H.bump 28).cell i23 (i24 + (t5.toNat * 1)) = some (.slice a25 i26 0) ∧
 (
 bif (decide (n18 < ((i26 : Nat) : Int))) then (
 K1 [(.pointer t0), undef, (.bool false), t3, t4, (.int .i64 t5), t6, t7, t8, t9, t10, t11, t12, t13, t14, t15, t16, t17, t18, t19, t20, t21, t22, t23, t24, t25, t26, t27, t28, t29, (.int .i64 t5), (.pointer t0), (.pointer (some ⟨i1, i2, none⟩)), (.pointer (some ⟨i1, (i2 + 8), none⟩)), (.slice a3 i4 0), (.int .i64 ((i4 : Nat) : Int)), (.bool true), (ys.getD 37 undef), (ys.getD 38 undef), (.pointer t0), (.pointer (some ⟨i5, i6, none⟩)), (.pointer (some ⟨i5, (i6 + 9), none⟩)), (.slice a7 i8 0), (.int .i64 t5), (.pointer (some ⟨i9, (i10 + (t5.toNat * 12)), none⟩)), (.pointer (some ⟨i9, (i10 + (t5.toNat * 12)), none⟩)), (.pointer a11), (.bool (!a11.isNone)), (.bool false), (.pointer t0), (.pointer (some ⟨i12, i13, none⟩)), (.pointer (some ⟨i12, (i13 + 9), none⟩)), (.slice a14 i15 0), (.int .i64 t5), (.pointer (some ⟨i16, (i17 + (t5.toNat * 12)), none⟩)), (.pointer (some ⟨i16, ((i17 + (t5.toNat * 12)) + 6), none⟩)), (.int .i64 n18), (.pointer t0), (.pointer (some ⟨i19, i20, none⟩)), (.pointer (some ⟨i19, (i20 + 8), none⟩)), (.slice a21 i22 0), (.int .i64 t5), (.pointer (some ⟨i23, (i24 + (t5.toNat * 1)), none⟩)), (.slice a25 i26 0), (.int .i64 ((i26 : Nat) : Int)), (.bool (decide (n18 < ((i26 : Nat) : Int)))), (.bool true)] (H.bump 28))
 else (
 ∃ k27, k27 < n ∧
 I k27 t2 (IntKind.i64.wrap (t5 + 1)) (H.bump 28))) ∧
 True))
 else (
 K0 [(.pointer t0), undef, (.bool t2), t3, t4, (.int .i64 t5), t6, t7, t8, t9, t10, t11, t12, t13, t14, t15, t16, t17, t18, t19, t20, t21, t22, t23, t24, t25, t26, t27, t28, t29, (.int .i64 t5), (.pointer t0), (.pointer (some ⟨i1, i2, none⟩)), (.pointer (some ⟨i1, (i2 + 8), none⟩)), (.slice a3 i4 0), (.int .i64 ((i4 : Nat) : Int)), (.bool false), (ys.getD 37 undef), (ys.getD 38 undef), (ys.getD 39 undef), (ys.getD 40 undef), (ys.getD 41 undef), (ys.getD 42 undef), (ys.getD 43 undef), (ys.getD 44 undef), (ys.getD 45 undef), (ys.getD 46 undef), (ys.getD 47 undef), (ys.getD 48 undef), (ys.getD 49 undef), (ys.getD 50 undef), (ys.getD 51 undef), (ys.getD 52 undef), (ys.getD 53 undef), (ys.getD 54 undef), (ys.getD 55 undef), (ys.getD 56 undef), (ys.getD 57 undef), (ys.getD 58 undef), (ys.getD 59 undef), (ys.getD 60 undef), (ys.getD 61 undef), (ys.getD 62 undef), (ys.getD 63 undef), (ys.getD 64 undef), (ys.getD 65 undef), (ys.getD 66 undef)] H))) :
    LA en L_crossbarlaw18_side_rest_2 [(.pointer t0), undef, (.bool t2), t3, t4, (.int .i64 t5), t6, t7, t8, t9, t10, t11, t12, t13, t14, t15, t16, t17, t18, t19, t20, t21, t22, t23, t24, t25, t26, t27, t28, t29, t30, t31, t32, t33, t34, t35, t36, t37, t38, t39, t40, t41, t42, t43, t44, t45, t46, t47, t48, t49, t50, t51, t52, t53, t54, t55, t56, t57, t58, t59, t60, t61, t62, t63, t64, t65, t66] H [(X.exit 4, K0), (X.ret, K1)] := by
  refine LA_rule (Z := []) (fun m xs H' => AS.asBool (xs.getD 2 undef) fun t2 => AS.asInt .i64 (xs.getD 5 undef) fun t5 => I m t2 t5 H') ?_ n H ?_
  · intro n H
    suffices hs : ∀ s30 : Value, ∀ s31 : Value, ∀ s32 : Value, ∀ s33 : Value, ∀ s34 : Value, ∀ s35 : Value, ∀ s36 : Value, ∀ s39 : Value, ∀ s40 : Value, ∀ s41 : Value, ∀ s42 : Value, ∀ s43 : Value, ∀ s44 : Value, ∀ s45 : Value, ∀ s46 : Value, ∀ s47 : Value, ∀ s48 : Value, ∀ s49 : Value, ∀ s50 : Value, ∀ s51 : Value, ∀ s52 : Value, ∀ s53 : Value, ∀ s54 : Value, ∀ s55 : Value, ∀ s56 : Value, ∀ s57 : Value, ∀ s58 : Value, ∀ s59 : Value, ∀ s60 : Value, ∀ s61 : Value, ∀ s62 : Value, ∀ s63 : Value, ∀ s64 : Value, ∀ s65 : Value, ∀ s66 : Value, ∀ s2 : Value, ∀ s37 : Value, ∀ s38 : Value, ∀ s5 : Value, ((AS.asBool s2 fun t2 => AS.asInt .i64 s5 fun t5 => I n t2 t5 H) → wpCode en L_crossbarlaw18_side_rest_2 [] [(.pointer t0), undef, s2, t3, t4, s5, t6, t7, t8, t9, t10, t11, t12, t13, t14, t15, t16, t17, t18, t19, t20, t21, t22, t23, t24, t25, t26, t27, t28, t29, s30, s31, s32, s33, s34, s35, s36, s37, s38, s39, s40, s41, s42, s43, s44, s45, s46, s47, s48, s49, s50, s51, s52, s53, s54, s55, s56, s57, s58, s59, s60, s61, s62, s63, s64, s65, s66] H (loopQ (fun m xs H' => AS.asBool (xs.getD 2 undef) fun t2 => AS.asInt .i64 (xs.getD 5 undef) fun t5 => I m t2 t5 H') n [(X.exit 4, K0), (X.ret, K1)])) by
      apply turnInto hs
      kernel_rfl
    intro s30 s31 s32 s33 s34 s35 s36 s39 s40 s41 s42 s43 s44 s45 s46 s47 s48 s49 s50 s51 s52 s53 s54 s55 s56 s57 s58 s59 s60 s61 s62 s63 s64 s65 s66 s2 s37 s38 s5 hP
    replace hP := asBool_elim hP
    obtain ⟨t2, rfl, hP⟩ := hP
    replace hP := asInt_elim hP
    obtain ⟨t5, rfl, hP⟩ := hP
    apply turnInto (hstep n t2 t5 [(.pointer t0), undef, (.bool t2), t3, t4, (.int .i64 t5), t6, t7, t8, t9, t10, t11, t12, t13, t14, t15, t16, t17, t18, t19, t20, t21, t22, t23, t24, t25, t26, t27, t28, t29, s30, s31, s32, s33, s34, s35, s36, s37, s38, s39, s40, s41, s42, s43, s44, s45, s46, s47, s48, s49, s50, s51, s52, s53, s54, s55, s56, s57, s58, s59, s60, s61, s62, s63, s64, s65, s66] H hP)
    kernel_rfl
  · apply turnInto h0
    kernel_rfl

theorem use_crossbarlaw18_side_rest_1 {t0 : Option Addr} {t3 : Int} {t6 : Int} {t7 : Option Addr} {t8 : Nat} {t8o : Nat} {t9 : Nat} {t9o : Nat} {t10 : Option Addr} {t10l : Nat} {t11 : Int} {t12 : Int} {t13 : Int} {t15 : Value} {t16 : Value} {K0 : Fr → Heap → Prop} {K1 : Fr → Heap → Prop} {t2 : Bool} {t4 : Int} {t17 : Value} {t18 : Value} {t19 : Value} {t20 : Value} {t21 : Value} {t22 : Value} {t23 : Value} {t24 : Value} {t25 : Value} {t26 : Value} {t27 : Value} {t28 : Value} {t29 : Value} {H : Heap} (I : Nat → Bool → Int → Heap → Prop) (n : Nat) (h0 : I n t2 t4 H)
    (hstep : ∀ (n : Nat) (t2 : Bool) (t4 : Int) (ys : Fr) (H : Heap), I n t2 t4 H →
    (
 AS.asAddr (.pointer t0) fun i1 i2 =>
 ∃ a3 i4, H.cell i1 (i2 + 8) = some (.slice a3 i4 0) ∧
 bif (decide (t4 < ((i4 : Nat) : Int))) then (
 CA en F.crossbarlaw18_side_step [(.pointer t0), (.int .i64 t4)] H fun v5 H6 =>
 ∃ b7, v5 = (.bool b7) ∧
 bif (!b7) then (
 K1 [(.pointer t0), undef, (.bool false), (.int .i64 t3), (.int .i64 t4), undef, (.int .i64 t6), (.pointer t7), (.pointer (some ⟨t8, t8o, none⟩)), (.pointer (some ⟨t9, t9o, none⟩)), (.slice t10 t10l 0), (.int .i64 t11), (.int .i64 t12), (.int .i64 t13), (.bool true), t15, t16, (.int .i64 t4), (.pointer t0), (.pointer (some ⟨i1, i2, none⟩)), (.pointer (some ⟨i1, (i2 + 8), none⟩)), (.slice a3 i4 0), (.int .i64 ((i4 : Nat) : Int)), (.bool true), (ys.getD 24 undef), (ys.getD 25 undef), (.pointer t0), (.int .i64 t4), (.bool b7), (.bool true), undef, undef, undef, undef, undef, undef, undef, undef, undef, undef, undef, undef, undef, undef, undef, undef, undef, undef, undef, undef, undef, undef, undef, undef, undef, undef, undef, undef, undef, undef, undef, undef, undef, undef, undef, undef, undef] H6)
 else (
 ∃ k8, k8 < n ∧
 I k8 t2 (IntKind.i64.wrap (t4 + 1)) H6))
 else (
 K0 [(.pointer t0), undef, (.bool t2), (.int .i64 t3), (.int .i64 t4), undef, (.int .i64 t6), (.pointer t7), (.pointer (some ⟨t8, t8o, none⟩)), (.pointer (some ⟨t9, t9o, none⟩)), (.slice t10 t10l 0), (.int .i64 t11), (.int .i64 t12), (.int .i64 t13), (.bool true), t15, t16, (.int .i64 t4), (.pointer t0), (.pointer (some ⟨i1, i2, none⟩)), (.pointer (some ⟨i1, (i2 + 8), none⟩)), (.slice a3 i4 0), (.int .i64 ((i4 : Nat) : Int)), (.bool false), (ys.getD 24 undef), (ys.getD 25 undef), (ys.getD 26 undef), (ys.getD 27 undef), (ys.getD 28 undef), (ys.getD 29 undef), undef, undef, undef, undef, undef, undef, undef, undef, undef, undef, undef, undef, undef, undef, undef, undef, undef, undef, undef, undef, undef, undef, undef, undef, undef, undef, undef, undef, undef, undef, undef, undef, undef, undef, undef, undef, undef] H))) :
    LA en L_crossbarlaw18_side_rest_1 [(.pointer t0), undef, (.bool t2), (.int .i64 t3), (.int .i64 t4), undef, (.int .i64 t6), (.pointer t7), (.pointer (some ⟨t8, t8o, none⟩)), (.pointer (some ⟨t9, t9o, none⟩)), (.slice t10 t10l 0), (.int .i64 t11), (.int .i64 t12), (.int .i64 t13), (.bool true), t15, t16, t17, t18, t19, t20, t21, t22, t23, t24, t25, t26, t27, t28, t29, undef, undef, undef, undef, undef, undef, undef, undef, undef, undef, undef, undef, undef, undef, undef, undef, undef, undef, undef, undef, undef, undef, undef, undef, undef, undef, undef, undef, undef, undef, undef, undef, undef, undef, undef, undef, undef] H [(X.exit 2, K0), (X.ret, K1)] := by
  refine LA_rule (Z := []) (fun m xs H' => AS.asBool (xs.getD 2 undef) fun t2 => AS.asInt .i64 (xs.getD 4 undef) fun t4 => I m t2 t4 H') ?_ n H ?_
  · intro n H
    suffices hs : ∀ s17 : Value, ∀ s18 : Value, ∀ s19 : Value, ∀ s20 : Value, ∀ s21 : Value, ∀ s22 : Value, ∀ s23 : Value, ∀ s26 : Value, ∀ s27 : Value, ∀ s28 : Value, ∀ s29 : Value, ∀ s2 : Value, ∀ s24 : Value, ∀ s25 : Value, ∀ s4 : Value, ((AS.asBool s2 fun t2 => AS.asInt .i64 s4 fun t4 => I n t2 t4 H) → wpCode en L_crossbarlaw18_side_rest_1 [] [(.pointer t0), undef, s2, (.int .i64 t3), s4, undef, (.int .i64 t6), (.pointer t7), (.pointer (some ⟨t8, t8o, none⟩)), (.pointer (some ⟨t9, t9o, none⟩)), (.slice t10 t10l 0), (.int .i64 t11), (.int .i64 t12), (.int .i64 t13), (.bool true), t15, t16, s17, s18, s19, s20, s21, s22, s23, s24, s25, s26, s27, s28, s29, undef, undef, undef, undef, undef, undef, undef, undef, undef, undef, undef, undef, undef, undef, undef, undef, undef, undef, undef, undef, undef, undef, undef, undef, undef, undef, undef, undef, undef, undef, undef, undef, undef, undef, undef, undef, undef] H (loopQ (fun m xs H' => AS.asBool (xs.getD 2 undef) fun t2 => AS.asInt .i64 (xs.getD 4 undef) fun t4 => I m t2 t4 H') n [(X.exit 2, K0), (X.ret, K1)])) by
      apply turnInto hs
      kernel_rfl
    intro s17 s18 s19 s20 s21 s22 s23 s26 s27 s28 s29 s2 s24 s25 s4 hP
    replace hP := asBool_elim hP
    obtain ⟨t2, rfl, hP⟩ := hP
    replace hP := asInt_elim hP
    obtain ⟨t4, rfl, hP⟩ := hP
    apply turnInto (hstep n t2 t4 [(.pointer t0), undef, (.bool t2), (.int .i64 t3), (.int .i64 t4), undef, (.int .i64 t6), (.pointer t7), (.pointer (some ⟨t8, t8o, none⟩)), (.pointer (some ⟨t9, t9o, none⟩)), (.slice t10 t10l 0), (.int .i64 t11), (.int .i64 t12), (.int .i64 t13), (.bool true), t15, t16, s17, s18, s19, s20, s21, s22, s23, s24, s25, s26, s27, s28, s29, undef, undef, undef, undef, undef, undef, undef, undef, undef, undef, undef, undef, undef, undef, undef, undef, undef, undef, undef, undef, undef, undef, undef, undef, undef, undef, undef, undef, undef, undef, undef, undef, undef, undef, undef, undef, undef] H hP)
    kernel_rfl
  · apply turnInto h0
    kernel_rfl


/-! crossbarlaw18_BloomRuns -/
noncomputable def L_crossbarlaw18_BloomRuns_0 : Code := loopAt Go.Proofs.Try.f11 0

theorem vc_crossbarlaw18_BloomRuns (x0_0 : Int) (x0_1 : Int) (x0_2 : Int) (x0_3 : Int) (x0_4 : Int) (x1 : Option Addr) (x1l : Nat) (x2 : Option Addr) (x2l : Nat) (H : Heap) (R : Value → Heap → Prop) :
    (
 nwH H (.cells true 0 [(.int .i64 x0_0), (.int .i64 x0_1), (.int .i64 x0_2), (.int .i64 x0_3), (.int .i64 x0_4)]) fun i1 H2 =>
 ∃ n3, ∃ n4, ∃ n5, ∃ n6, ∃ n7, H2.cellsAt i1 0 5 = some [(.int .i64 n3), (.int .i64 n4), (.int .i64 n5), (.int .i64 n6), (.int .i64 n7)] ∧
 CA en F.crossbarlaw18_Fits [(.agg #[(.int .i64 n3), (.int .i64 n4), (.int .i64 n5), (.int .i64 n6), (.int .i64 n7)])] H2 fun v8 H9 =>
 ∃ b10, v8 = (.bool b10) ∧
 bif (!b10) then (
 CA en F.crossbarlaw18_known [] H9 fun v11 H12 =>
 ∃ b13, v11 = (.bool b13) ∧
 R (.bool b13) H12)
 else (
 CA en F.crossbarlaw18_Big [(.slice x1 x1l 0), (.slice x2 x2l 0)] H9 fun v14 H15 =>
 ∃ b16, v14 = (.bool b16) ∧
 bif b16 then (
 CA en F.crossbarlaw18_known [] H15 fun v17 H18 =>
 ∃ b19, v17 = (.bool b19) ∧
 R (.bool b19) H18)
 else (
 ∃ n20, ∃ n21, ∃ n22, ∃ n23, ∃ n24, H15.cellsAt i1 0 5 = some [(.int .i64 n20), (.int .i64 n21), (.int .i64 n22), (.int .i64 n23), (.int .i64 n24)] ∧
 CA en F.crossbarlaw18_begin [(.agg #[(.int .i64 n20), (.int .i64 n21), (.int .i64 n22), (.int .i64 n23), (.int .i64 n24)]), (.slice x1 x1l 0)] H15 fun v25 H26 =>
 ∃ a27, v25 = (.pointer a27) ∧
 bif a27.isNone then (
 R (.bool false) H26)
 else (
 LA en L_crossbarlaw18_BloomRuns_0 [(.agg #[(.int .i64 x0_0), (.int .i64 x0_1), (.int .i64 x0_2), (.int .i64 x0_3), (.int .i64 x0_4)]), (.slice x1 x1l 0), (.slice x2 x2l 0), (.pointer (some ⟨i1, 0, none⟩)), undef, undef, (.bool false), (.pointer a27), (.int .i64 0), (.agg #[(.int .i64 n3), (.int .i64 n4), (.int .i64 n5), (.int .i64 n6), (.int .i64 n7)]), (.bool b10), (.bool (!b10)), (.bool false), (.slice x1 x1l 0), (.slice x2 x2l 0), (.bool b16), (.bool false), undef, (.agg #[(.int .i64 n20), (.int .i64 n21), (.int .i64 n22), (.int .i64 n23), (.int .i64 n24)]), (.slice x1 x1l 0), (.pointer a27), (.pointer a27), (.bool false), undef, undef, undef, undef, undef, undef, undef, undef, undef, undef, undef, undef, undef, undef, undef, undef, undef, undef, undef, undef, undef] H26 [(X.exit 0, fun (y28 : Fr) (H29 : Heap) =>
 AS.asBool (y28.getD 6 undef) fun b30 =>
 CA en F.crossbarlaw18_side_rest [(.pointer a27)] H29 fun v31 H32 =>
 ∃ b33, v31 = (.bool b33) ∧
 bif b33 then (
 CA en F.crossbarlaw18_known [] H32 fun v34 H35 =>
 ∃ b36, v34 = (.bool b36) ∧
 R (.bool b36) H35)
 else (
 R (.bool false) H32)),
 (X.ret, fun (y37 : Fr) (H38 : Heap) =>
 AS.asBool (y37.getD 6 undef) fun b39 =>
 R (.bool b39) H38)])))) →
    CA en F.crossbarlaw18_BloomRuns [(.agg #[(.int .i64 x0_0), (.int .i64 x0_1), (.int .i64 x0_2), (.int .i64 x0_3), (.int .i64 x0_4)]), (.slice x1 x1l 0), (.slice x2 x2l 0)] H R := by
  intro h
  refine wpFn_ok (Z := [[(6, (.bool false))]]) (fn := Go.Proofs.Try.f11) ?_ ?_ ?_
  · kernel_rfl
  · kernel_rfl
  · apply turnInto h
    kernel_rfl

theorem use_crossbarlaw18_BloomRuns_0 {t0_0 : Int} {t0_1 : Int} {t0_2 : Int} {t0_3 : Int} {t0_4 : Int} {t1 : Option Addr} {t1l : Nat} {t2 : Option Addr} {t2l : Nat} {t3 : Nat} {t7 : Option Addr} {t9_0 : Int} {t9_1 : Int} {t9_2 : Int} {t9_3 : Int} {t9_4 : Int} {t10 : Bool} {t11 : Bool} {t13 : Option Addr} {t13l : Nat} {t14 : Option Addr} {t14l : Nat} {t15 : Bool} {t18_0 : Int} {t18_1 : Int} {t18_2 : Int} {t18_3 : Int} {t18_4 : Int} {t19 : Option Addr} {t19l : Nat} {t20 : Option Addr} {t21 : Option Addr} {K0 : Fr → Heap → Prop} {K1 : Fr → Heap → Prop} {t6 : Bool} {t8 : Int} {t23 : Value} {t24 : Value} {t25 : Value} {t26 : Value} {t27 : Value} {t28 : Value} {t29 : Value} {t30 : Value} {t31 : Value} {t32 : Value} {t33 : Value} {t34 : Value} {t35 : Value} {t36 : Value} {t37 : Value} {t38 : Value} {H : Heap} (I : Nat → Bool → Int → Heap → Prop) (n : Nat) (h0 : I n t6 t8 H)
    (hstep : ∀ (n : Nat) (t6 : Bool) (t8 : Int) (ys : Fr) (H : Heap), I n t6 t8 H →
    (
 bif (decide (t8 < ((t2l : Nat) : Int))) then (
 inB t8 t2l ∧
 asRow t2 fun i1 i2 =>
 ∃ n3, H.cell i1 (i2 + (t8.toNat * 1)) = some (.int .i64 n3) ∧
 CA en F.crossbarkit_Pick [(.int .i64 n3), (.int .i64 ((t1l : Nat) : Int))] H fun v4 H5 =>
 ∃ n6, v4 = (.int .i64 n6) ∧
 CA en F.crossbarlaw18_side_step [(.pointer t7), (.int .i64 n6)] H5 fun v7 H8 =>
 ∃ b9, v7 = (.bool b9) ∧
 bif (!b9) then (
 K1 [(.agg #[(.int .i64 t0_0), (.int .i64 t0_1), (.int .i64 t0_2), (.int .i64 t0_3), (.int .i64 t0_4)]), (.slice t1 t1l 0), (.slice t2 t2l 0), (.pointer (some ⟨t3, 0, none⟩)), undef, undef, (.bool false), (.pointer t7), (.int .i64 t8), (.agg #[(.int .i64 t9_0), (.int .i64 t9_1), (.int .i64 t9_2), (.int .i64 t9_3), (.int .i64 t9_4)]), (.bool t10), (.bool t11), (.bool false), (.slice t13 t13l 0), (.slice t14 t14l 0), (.bool t15), (.bool false), undef, (.agg #[(.int .i64 t18_0), (.int .i64 t18_1), (.int .i64 t18_2), (.int .i64 t18_3), (.int .i64 t18_4)]), (.slice t19 t19l 0), (.pointer t20), (.pointer t21), (.bool false), (.int .i64 t8), (.slice t2 t2l 0), (.int .i64 ((t2l : Nat) : Int)), (.bool true), (ys.getD 27 undef), (ys.getD 28 undef), (.pointer t7), (.slice t2 t2l 0), (.int .i64 t8), (.pointer (some ⟨i1, (i2 + (t8.toNat * 1)), none⟩)), (.int .i64 n3), (.slice t1 t1l 0), (.int .i64 ((t1l : Nat) : Int)), (.int .i64 n6), (.bool b9), (.bool true), undef, undef, undef, undef, undef] H8)
 else (
 ∃ k10, k10 < n ∧
 I k10 t6 (IntKind.i64.wrap (t8 + 1)) H8))
 else (
 K0 [(.agg #[(.int .i64 t0_0), (.int .i64 t0_1), (.int .i64 t0_2), (.int .i64 t0_3), (.int .i64 t0_4)]), (.slice t1 t1l 0), (.slice t2 t2l 0), (.pointer (some ⟨t3, 0, none⟩)), undef, undef, (.bool t6), (.pointer t7), (.int .i64 t8), (.agg #[(.int .i64 t9_0), (.int .i64 t9_1), (.int .i64 t9_2), (.int .i64 t9_3), (.int .i64 t9_4)]), (.bool t10), (.bool t11), (.bool false), (.slice t13 t13l 0), (.slice t14 t14l 0), (.bool t15), (.bool false), undef, (.agg #[(.int .i64 t18_0), (.int .i64 t18_1), (.int .i64 t18_2), (.int .i64 t18_3), (.int .i64 t18_4)]), (.slice t19 t19l 0), (.pointer t20), (.pointer t21), (.bool false), (.int .i64 t8), (.slice t2 t2l 0), (.int .i64 ((t2l : Nat) : Int)), (.bool false), (ys.getD 27 undef), (ys.getD 28 undef), (ys.getD 29 undef), (ys.getD 30 undef), (ys.getD 31 undef), (ys.getD 32 undef), (ys.getD 33 undef), (ys.getD 34 undef), (ys.getD 35 undef), (ys.getD 36 undef), (ys.getD 37 undef), (ys.getD 38 undef), undef, undef, undef, undef, undef] H))) :
    LA en L_crossbarlaw18_BloomRuns_0 [(.agg #[(.int .i64 t0_0), (.int .i64 t0_1), (.int .i64 t0_2), (.int .i64 t0_3), (.int .i64 t0_4)]), (.slice t1 t1l 0), (.slice t2 t2l 0), (.pointer (some ⟨t3, 0, none⟩)), undef, undef, (.bool t6), (.pointer t7), (.int .i64 t8), (.agg #[(.int .i64 t9_0), (.int .i64 t9_1), (.int .i64 t9_2), (.int .i64 t9_3), (.int .i64 t9_4)]), (.bool t10), (.bool t11), (.bool false), (.slice t13 t13l 0), (.slice t14 t14l 0), (.bool t15), (.bool false), undef, (.agg #[(.int .i64 t18_0), (.int .i64 t18_1), (.int .i64 t18_2), (.int .i64 t18_3), (.int .i64 t18_4)]), (.slice t19 t19l 0), (.pointer t20), (.pointer t21), (.bool false), t23, t24, t25, t26, t27, t28, t29, t30, t31, t32, t33, t34, t35, t36, t37, t38, undef, undef, undef, undef, undef] H [(X.exit 0, K0), (X.ret, K1)] := by
  refine LA_rule (Z := []) (fun m xs H' => AS.asBool (xs.getD 6 undef) fun t6 => AS.asInt .i64 (xs.getD 8 undef) fun t8 => I m t6 t8 H') ?_ n H ?_
  · intro n H
    suffices hs : ∀ s23 : Value, ∀ s24 : Value, ∀ s25 : Value, ∀ s26 : Value, ∀ s29 : Value, ∀ s30 : Value, ∀ s31 : Value, ∀ s32 : Value, ∀ s33 : Value, ∀ s34 : Value, ∀ s35 : Value, ∀ s36 : Value, ∀ s37 : Value, ∀ s38 : Value, ∀ s6 : Value, ∀ s27 : Value, ∀ s28 : Value, ∀ s8 : Value, ((AS.asBool s6 fun t6 => AS.asInt .i64 s8 fun t8 => I n t6 t8 H) → wpCode en L_crossbarlaw18_BloomRuns_0 [] [(.agg #[(.int .i64 t0_0), (.int .i64 t0_1), (.int .i64 t0_2), (.int .i64 t0_3), (.int .i64 t0_4)]), (.slice t1 t1l 0), (.slice t2 t2l 0), (.pointer (some ⟨t3, 0, none⟩)), undef, undef, s6, (.pointer t7), s8, (.agg #[(.int .i64 t9_0), (.int .i64 t9_1), (.int .i64 t9_2), (.int .i64 t9_3), (.int .i64 t9_4)]), (.bool t10), (.bool t11), (.bool false), (.slice t13 t13l 0), (.slice t14 t14l 0), (.bool t15), (.bool false), undef, (.agg #[(.int .i64 t18_0), (.int .i64 t18_1), (.int .i64 t18_2), (.int .i64 t18_3), (.int .i64 t18_4)]), (.slice t19 t19l 0), (.pointer t20), (.pointer t21), (.bool false), s23, s24, s25, s26, s27, s28, s29, s30, s31, s32, s33, s34, s35, s36, s37, s38, undef, undef, undef, undef, undef] H (loopQ (fun m xs H' => AS.asBool (xs.getD 6 undef) fun t6 => AS.asInt .i64 (xs.getD 8 undef) fun t8 => I m t6 t8 H') n [(X.exit 0, K0), (X.ret, K1)])) by
      apply turnInto hs
      kernel_rfl
    intro s23 s24 s25 s26 s29 s30 s31 s32 s33 s34 s35 s36 s37 s38 s6 s27 s28 s8 hP
    replace hP := asBool_elim hP
    obtain ⟨t6, rfl, hP⟩ := hP
    replace hP := asInt_elim hP
    obtain ⟨t8, rfl, hP⟩ := hP
    apply turnInto (hstep n t6 t8 [(.agg #[(.int .i64 t0_0), (.int .i64 t0_1), (.int .i64 t0_2), (.int .i64 t0_3), (.int .i64 t0_4)]), (.slice t1 t1l 0), (.slice t2 t2l 0), (.pointer (some ⟨t3, 0, none⟩)), undef, undef, (.bool t6), (.pointer t7), (.int .i64 t8), (.agg #[(.int .i64 t9_0), (.int .i64 t9_1), (.int .i64 t9_2), (.int .i64 t9_3), (.int .i64 t9_4)]), (.bool t10), (.bool t11), (.bool false), (.slice t13 t13l 0), (.slice t14 t14l 0), (.bool t15), (.bool false), undef, (.agg #[(.int .i64 t18_0), (.int .i64 t18_1), (.int .i64 t18_2), (.int .i64 t18_3), (.int .i64 t18_4)]), (.slice t19 t19l 0), (.pointer t20), (.pointer t21), (.bool false), s23, s24, s25, s26, s27, s28, s29, s30, s31, s32, s33, s34, s35, s36, s37, s38, undef, undef, undef, undef, undef] H hP)
    kernel_rfl
  · apply turnInto h0
    kernel_rfl

end Go.Proofs.Ytlkmdcncpdadbaa
