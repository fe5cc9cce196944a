/-
  What functions of this seat's program need (printed by a program, checked by the kernel).
-/
import Derived.Test.YtgpacebjbdhphaaGreatNames
import Derived.Test.YtgpacebjbdhphaaGreatAs41
namespace Go.Proofs.YtgpacebjbdhphaaGreat
open Go Go.AS Go.RowKit
set_option linter.unusedVariables false
set_option maxRecDepth 100000
set_option maxHeartbeats 2000000

/-! crossbarref11_New -/
noncomputable def L_crossbarref11_New_0 : Code := loopAt Go.Proofs.Tryz.f21 0

theorem vc_crossbarref11_New (x0 : Option Addr) (x0l : Nat) (x1 : Int) (H : Heap) (R : Value → Heap → Prop) :
    (
 CA en F.crossbarref07_Check [(.slice x0 x0l 0)] H fun v1 H2 =>
 ∃ n3, v1 = (.int .i64 n3) ∧
 bif (n3 != 0) then (
 R (.tuple #[(.pointer none), (.int .i64 n3)]) H2)
 else (
 bif (decide (x1 < 1)) then (
 R (.tuple #[(.pointer none), (.int .i64 1)]) H2)
 else (
 bif (decide (x1 > 4)) then (
 R (.tuple #[(.pointer none), (.int .i64 1)]) H2)
 else (
 nwH H2 (.cells true 0 [(.slice none 0 0), (.int .i64 x1)]) fun i4 H5 =>
 LA en L_crossbarref11_New_0 [(.slice x0 x0l 0), (.int .i64 x1), undef, undef, (.pointer none), (.int .i64 0), (.int .i64 n3), (.pointer (some ⟨i4, 0, none⟩)), (.int .i64 0), (.slice x0 x0l 0), (.int .i64 n3), (.int .i64 n3), (.bool false), undef, (.int .i64 x1), (.bool (decide (x1 < 1))), (.bool false), (.int .i64 x1), (.bool (decide (x1 > 4))), (.bool false), (.int .i64 x1), (.agg #[(.slice none 0 0), (.int .i64 x1)]), (.pointer (some ⟨i4, 0, none⟩)), undef, undef, undef, undef, undef, undef, undef, undef, undef, undef, undef, undef, undef, undef, undef, undef, undef, undef, undef, undef, undef, undef] H5 [(X.exit 0, fun (y6 : Fr) (H7 : Heap) =>
 R (.tuple #[(.pointer (some ⟨i4, 0, none⟩)), (.int .i64 0)]) H7)])))) →
    CA en F.crossbarref11_New [(.slice x0 x0l 0), (.int .i64 x1)] H R := by
  intro h
  refine wpFn_ok (Z := [[]]) (fn := Go.Proofs.Tryz.f21) ?_ ?_ ?_
  · kernel_rfl
  · kernel_rfl
  · apply turnInto h
    kernel_rfl

theorem use_crossbarref11_New_0 {t0 : Option Addr} {t0l : Nat} {t1 : Int} {t6 : Int} {t7 : Nat} {t9 : Option Addr} {t9l : Nat} {t10 : Int} {t11 : Int} {t14 : Int} {t15 : Bool} {t17 : Int} {t18 : Bool} {t20 : Int} {t21_1 : Int} {t22 : Nat} {K0 : Fr → Heap → Prop} {t8 : Int} {t23 : Value} {t24 : Value} {t25 : Value} {t26 : Value} {t27 : Value} {t28 : Value} {t29 : Value} {t30 : Value} {t31 : Value} {t32 : Value} {t33 : Value} {t34 : Value} {t35 : Value} {t36 : Value} {t37 : Value} {t38 : Value} {t39 : Value} {t40 : Value} {t41 : Value} {t42 : Value} {t43 : Value} {H : Heap} (I : Nat → Int → Heap → Prop) (n : Nat) (h0 : I n t8 H)
    (hstep : ∀ (n : Nat) (t8 : Int) (ys : Fr) (H : Heap), I n t8 H →
    (
 bif (decide (t8 < ((t0l : Nat) : Int))) then (
 ∃ a1 i2, (H.bump 16).cell t7 0 = some (.slice a1 i2 0) ∧
 inB t8 t0l ∧
 asRow t0 fun i3 i4 =>
 ∃ n5, ∃ n6, ∃ n7, ∃ n8, ∃ n9, (H.bump 16).cellsAt i3 (i4 + (t8.toNat * 5)) 5 = some [(.int .i64 n5), (.int .i64 n6), (.int .i64 n7), (.int .i64 n8), (.int .i64 n9)] ∧
 CA en F.crossbarref11_made [(.agg #[(.int .i64 n5), (.int .i64 n6), (.int .i64 n7), (.int .i64 n8), (.int .i64 n9)]), (.int .i64 t1)] (H.bump 16) fun v10 H11 =>
 ∃ a12, v10 = (.pointer a12) ∧
 nwH H11 (.cells true 1 [(.pointer a12)]) fun i13 H14 =>
 ∃ l15, rowOf H14 1 (some ⟨i13, 0, none⟩) 1 = some l15 ∧
 apd H14 8 1 a1 i2 1 l15 fun a16 i17 H18 =>
 stc H18 t7 0 [(.slice a16 i17 0)] fun H19 =>
 (
 ∃ k26, k26 < n ∧
 I k26 (IntKind.i64.wrap (t8 + 1)) H19) ∧
 ((∃ a24 i25, (H.bump 16).cell t7 0 = some (.slice a24 i25 0) ∧
 (a1 = a24 ∧ i2 = i25 ∧ 0 = 0)) ∧ (∃ a22 i23, H11.cell t7 0 = some (.slice a22 i23 0) ∧
 (a1 = a22 ∧ i2 = i23 ∧ 0 = 0)) ∧ (∃ a20 i21, H14.cell t7 0 = some (.slice a20 i21 0) ∧
 (a1 = a20 ∧ i2 = i21 ∧ 0 = 0)) ∧ True) ∧
 True)
 else (
 K0 [(.slice t0 t0l 0), (.int .i64 t1), undef, undef, (.pointer none), (.int .i64 0), (.int .i64 t6), (.pointer (some ⟨t7, 0, none⟩)), (.int .i64 t8), (.slice t9 t9l 0), (.int .i64 t10), (.int .i64 t11), (.bool false), undef, (.int .i64 t14), (.bool t15), (.bool false), (.int .i64 t17), (.bool t18), (.bool false), (.int .i64 t20), (.agg #[(.slice none 0 0), (.int .i64 t21_1)]), (.pointer (some ⟨t22, 0, none⟩)), (.int .i64 t8), (.slice t0 t0l 0), (.int .i64 ((t0l : Nat) : Int)), (.bool false), (ys.getD 27 undef), (ys.getD 28 undef), (ys.getD 29 undef), (ys.getD 30 undef), (ys.getD 31 undef), (ys.getD 32 undef), (ys.getD 33 undef), (ys.getD 34 undef), (ys.getD 35 undef), (ys.getD 36 undef), (ys.getD 37 undef), (ys.getD 38 undef), (ys.getD 39 undef), (ys.getD 40 undef), (ys.getD 41 undef), (ys.getD 42 undef), (ys.getD 43 undef), undef] H))) :
    LA en L_crossbarref11_New_0 [(.slice t0 t0l 0), (.int .i64 t1), undef, undef, (.pointer none), (.int .i64 0), (.int .i64 t6), (.pointer (some ⟨t7, 0, none⟩)), (.int .i64 t8), (.slice t9 t9l 0), (.int .i64 t10), (.int .i64 t11), (.bool false), undef, (.int .i64 t14), (.bool t15), (.bool false), (.int .i64 t17), (.bool t18), (.bool false), (.int .i64 t20), (.agg #[(.slice none 0 0), (.int .i64 t21_1)]), (.pointer (some ⟨t22, 0, none⟩)), t23, t24, t25, t26, t27, t28, t29, t30, t31, t32, t33, t34, t35, t36, t37, t38, t39, t40, t41, t42, t43, undef] H [(X.exit 0, K0)] := by
  refine LA_rule (Z := []) (fun m xs H' => AS.asInt .i64 (xs.getD 8 undef) fun t8 => I m t8 H') ?_ n H ?_
  · intro n H
    suffices hs : ∀ s23 : Value, ∀ s24 : Value, ∀ s25 : Value, ∀ s26 : Value, ∀ s29 : Value, ∀ s30 : Value, ∀ s31 : Value, ∀ s32 : Value, ∀ s33 : Value, ∀ s34 : Value, ∀ s35 : Value, ∀ s36 : Value, ∀ s37 : Value, ∀ s38 : Value, ∀ s39 : Value, ∀ s40 : Value, ∀ s41 : Value, ∀ s42 : Value, ∀ s43 : Value, ∀ s27 : Value, ∀ s28 : Value, ∀ s8 : Value, ((AS.asInt .i64 s8 fun t8 => I n t8 H) → wpCode en L_crossbarref11_New_0 [] [(.slice t0 t0l 0), (.int .i64 t1), undef, undef, (.pointer none), (.int .i64 0), (.int .i64 t6), (.pointer (some ⟨t7, 0, none⟩)), s8, (.slice t9 t9l 0), (.int .i64 t10), (.int .i64 t11), (.bool false), undef, (.int .i64 t14), (.bool t15), (.bool false), (.int .i64 t17), (.bool t18), (.bool false), (.int .i64 t20), (.agg #[(.slice none 0 0), (.int .i64 t21_1)]), (.pointer (some ⟨t22, 0, none⟩)), s23, s24, s25, s26, s27, s28, s29, s30, s31, s32, s33, s34, s35, s36, s37, s38, s39, s40, s41, s42, s43, undef] H (loopQ (fun m xs H' => AS.asInt .i64 (xs.getD 8 undef) fun t8 => I m t8 H') n [(X.exit 0, K0)])) by
      apply turnInto hs
      kernel_rfl
    intro s23 s24 s25 s26 s29 s30 s31 s32 s33 s34 s35 s36 s37 s38 s39 s40 s41 s42 s43 s27 s28 s8 hP
    replace hP := asInt_elim hP
    obtain ⟨t8, rfl, hP⟩ := hP
    apply turnInto (hstep n t8 [(.slice t0 t0l 0), (.int .i64 t1), undef, undef, (.pointer none), (.int .i64 0), (.int .i64 t6), (.pointer (some ⟨t7, 0, none⟩)), (.int .i64 t8), (.slice t9 t9l 0), (.int .i64 t10), (.int .i64 t11), (.bool false), undef, (.int .i64 t14), (.bool t15), (.bool false), (.int .i64 t17), (.bool t18), (.bool false), (.int .i64 t20), (.agg #[(.slice none 0 0), (.int .i64 t21_1)]), (.pointer (some ⟨t22, 0, none⟩)), s23, s24, s25, s26, s27, s28, s29, s30, s31, s32, s33, s34, s35, s36, s37, s38, s39, s40, s41, s42, s43, undef] H hP)
    kernel_rfl
  · apply turnInto h0
    kernel_rfl


/-! crossbarref11_made -/
noncomputable def L_crossbarref11_made_0 : Code := loopAt Go.Proofs.Tryz.f38 0

theorem vc_crossbarref11_made (x0_0 : Int) (x0_1 : Int) (x0_2 : Int) (x0_3 : Int) (x0_4 : Int) (x1 : Int) (H : Heap) (R : Value → Heap → Prop) :
    (
 nwH H (.cells true 0 [(.int .i64 x0_0), (.int .i64 x0_1), (.int .i64 x0_2), (.int .i64 x0_3), (.int .i64 x0_4)]) fun i1 H2 =>
 ∃ n3, ∃ n4, ∃ n5, ∃ n6, ∃ n7, H2.cellsAt i1 0 5 = some [(.int .i64 n3), (.int .i64 n4), (.int .i64 n5), (.int .i64 n6), (.int .i64 n7)] ∧
 nwH H2 (.cells true 0 [(.int .i64 n3), (.int .i64 n4), (.int .i64 n5), (.int .i64 n6), (.int .i64 n7), (.slice none 0 0), (.slice none 0 0)]) fun i8 H9 =>
 ∃ J10 : List Value → Heap → Prop, (
 ∃ n11, H9.cell i1 0 = some (.int .i64 n11) ∧
 CA en F.crossbarref11_arrays [(.int .i64 n11)] H9 fun v12 H13 =>
 ∃ b14, v12 = (.bool b14) ∧
 bif b14 then (
 ∃ n15, H13.cell i1 1 = some (.int .i64 n15) ∧
 J10 [(.int .i64 n15)] H13)
 else (
 ∃ n16, H13.cell i1 0 = some (.int .i64 n16) ∧
 bif (n16 == 9) then (
 ∃ n17, H13.cell i1 1 = some (.int .i64 n17) ∧
 J10 [(.int .i64 n17)] H13)
 else (
 J10 [(.int .i64 0)] H13))) ∧
 ∀ (ys18 : Fr) (H19 : Heap), ∀ n20, J10 [(.int .i64 n20)] H19 →
 ∃ J21 : List Value → Heap → Prop, (
 ∃ n22, H19.cell i1 0 = some (.int .i64 n22) ∧
 bif (n22 == 2) then (
 J21 [(.int .i64 (IntKind.i64.wrap (n20 * x1)))] H19)
 else (
 J21 [(.int .i64 n20)] H19)) ∧
 ∀ (ys23 : Fr) (H24 : Heap), ∀ n25, J21 [(.int .i64 n25)] H24 →
 ∃ J26 : List Value → Heap → Prop, (
 ∃ n27, H24.cell i1 0 = some (.int .i64 n27) ∧
 bif (n27 == 8) then (
 ∃ n28, H24.cell i1 3 = some (.int .i64 n28) ∧
 J26 [(.int .i64 n28)] H24)
 else (
 J26 [(.int .i64 n25)] H24)) ∧
 ∀ (ys29 : Fr) (H30 : Heap), ∀ n31, J26 [(.int .i64 n31)] H30 →
 LA en L_crossbarref11_made_0 [(.agg #[(.int .i64 x0_0), (.int .i64 x0_1), (.int .i64 x0_2), (.int .i64 x0_3), (.int .i64 x0_4)]), (.int .i64 x1), (.pointer (some ⟨i1, 0, none⟩)), undef, (.pointer none), (.pointer (some ⟨i8, 0, none⟩)), (.int .i64 n31), (.int .i64 0), undef, (.agg #[(.int .i64 n3), (.int .i64 n4), (.int .i64 n5), (.int .i64 n6), (.int .i64 n7)]), (.agg #[(.int .i64 n3), (.int .i64 n4), (.int .i64 n5), (.int .i64 n6), (.int .i64 n7), (.slice none 0 0), (.slice none 0 0)]), (.pointer (some ⟨i8, 0, none⟩)), (ys18.getD 12 undef), (ys18.getD 13 undef), (ys18.getD 14 undef), (ys18.getD 15 undef), (ys18.getD 16 undef), (ys18.getD 17 undef), (ys18.getD 18 undef), (ys18.getD 19 undef), (ys18.getD 20 undef), (ys18.getD 21 undef), (ys23.getD 22 undef), (ys23.getD 23 undef), (ys23.getD 24 undef), (ys23.getD 25 undef), (ys23.getD 26 undef), (ys23.getD 27 undef), (ys29.getD 28 undef), (ys29.getD 29 undef), (ys29.getD 30 undef), (ys29.getD 31 undef), (ys29.getD 32 undef), undef, undef, undef, undef, undef, undef, undef, undef, undef, undef, undef, undef, undef, undef, undef, undef, undef, undef, undef, undef, undef, undef, undef, undef, undef, undef, undef, undef, undef, undef, undef, undef, undef, undef, undef, undef, undef, undef, undef, undef, undef, undef] H30 [(X.exit 0, fun (y32 : Fr) (H33 : Heap) =>
 R (.pointer (some ⟨i8, 0, none⟩)) H33)]) →
    CA en F.crossbarref11_made [(.agg #[(.int .i64 x0_0), (.int .i64 x0_1), (.int .i64 x0_2), (.int .i64 x0_3), (.int .i64 x0_4)]), (.int .i64 x1)] H R := by
  intro h
  refine wpFnC_ok (C := [none, none, none, some [(6, (.int .i64 0))], none, some [(6, (.int .i64 0))], none, some [(6, (.int .i64 0))], none, none, none, none]) (Z := [[]]) (fn := Go.Proofs.Tryz.f38) ?_ ?_ ?_
  · kernel_rfl
  · kernel_rfl
  · apply turnInto h
    kernel_rfl

theorem use_crossbarref11_made_0 {t0_0 : Int} {t0_1 : Int} {t0_2 : Int} {t0_3 : Int} {t0_4 : Int} {t1 : Int} {t2 : Nat} {t5 : Nat} {t6 : Int} {t9_0 : Int} {t9_1 : Int} {t9_2 : Int} {t9_3 : Int} {t9_4 : Int} {t10_0 : Int} {t10_1 : Int} {t10_2 : Int} {t10_3 : Int} {t10_4 : Int} {t11 : Nat} {t12 : Value} {t13 : Value} {t14 : Value} {t15 : Value} {t16 : Value} {t17 : Value} {t18 : Value} {t19 : Value} {t20 : Value} {t21 : Value} {t22 : Value} {t23 : Value} {t24 : Value} {t25 : Value} {t26 : Value} {t27 : Value} {t28 : Value} {t29 : Value} {t30 : Value} {t31 : Value} {t32 : Value} {K0 : Fr → Heap → Prop} {t7 : Int} {t8 : Value} {t33 : Value} {t34 : Value} {t35 : Value} {t36 : Value} {t37 : Value} {t38 : Value} {t39 : Value} {t40 : Value} {t41 : Value} {t42 : Value} {t43 : Value} {t44 : Value} {t45 : Value} {t46 : Value} {t47 : Value} {t48 : Value} {t49 : Value} {t50 : Value} {t51 : Value} {t52 : Value} {t53 : Value} {t54 : Value} {t55 : Value} {t56 : Value} {t57 : Value} {t58 : Value} {t59 : Value} {t60 : Value} {t61 : Value} {t62 : Value} {t63 : Value} {t64 : Value} {t65 : Value} {t66 : Value} {t67 : Value} {t68 : Value} {t69 : Value} {t70 : Value} {t71 : Value} {t72 : Value} {t73 : Value} {H : Heap} (I : Nat → Int → Heap → Prop) (n : Nat) (h0 : I n t7 H)
    (hstep : ∀ (n : Nat) (t7 : Int) (ys : Fr) (H : Heap), I n t7 H →
    (
 bif (decide (t7 < t6)) then (
 ∃ n1, H.cell t2 2 = some (.int .i64 n1) ∧
 okLen 8 n1 n1 ∧
 nwH H (.cells true 1 (reps n1.toNat [(.int .u64 0)])) fun i2 H3 =>
 nwH H3 (.cells true 0 [(.int .u64 0), (.slice none 0 0), (.int .i64 0)]) fun i4 H5 =>
 stc H5 i4 0 [(.int .u64 (IntKind.u64.wrap t7)), (.slice (some ⟨i2, 0, none⟩) n1.toNat 0), (.int .i64 0)] fun H6 =>
 ∃ n7, H6.cell t2 0 = some (.int .i64 n7) ∧
 bif (n7 == 1) then (
 stc H6 i4 2 [(.int .i64 (IntKind.i64.wrap (t7 + 1)))] fun H8 =>
 ∃ a9 i10, H8.cell t5 6 = some (.slice a9 i10 0) ∧
 nwH H8 (.cells true 1 [(.int .u64 0)]) fun i11 H12 =>
 ∃ l13, rowOf H12 1 (some ⟨i11, 0, none⟩) 1 = some l13 ∧
 apd H12 8 1 a9 i10 1 l13 fun a14 i15 H16 =>
 stc H16 t5 6 [(.slice a14 i15 0)] fun H17 =>
 ∃ a18 i19, (H17.bump 11).cell t5 5 = some (.slice a18 i19 0) ∧
 ∃ n20, ∃ a21 i22, ∃ n23, (H17.bump 11).cellsAt i4 0 3 = some [(.int .u64 n20), (.slice a21 i22 0), (.int .i64 n23)] ∧
 nwH (H17.bump 11) (.cells true 3 [(.int .u64 n20), (.slice a21 i22 0), (.int .i64 n23)]) fun i24 H25 =>
 ∃ l26, rowOf H25 3 (some ⟨i24, 0, none⟩) 1 = some l26 ∧
 apd H25 40 3 a18 i19 1 l26 fun a27 i28 H29 =>
 stc H29 t5 5 [(.slice a27 i28 0)] fun H30 =>
 (
 ∃ k35, k35 < n ∧
 I k35 (IntKind.i64.wrap (t7 + 1)) H30) ∧
 ((∃ a33 i34, (H17.bump 11).cell t5 5 = some (.slice a33 i34 0) ∧
 (a18 = a33 ∧ i19 = i34 ∧ 0 = 0)) ∧ (∃ a31 i32, H25.cell t5 5 = some (.slice a31 i32 0) ∧
 (a18 = a31 ∧ i19 = i32 ∧ 0 = 0)) ∧ True) ∧
 True)
 else (
 ∃ n36, H6.cell t2 0 = some (.int .i64 n36) ∧
 bif (n36 == 2) then (
 stc H6 i4 2 [(.int .i64 (IntKind.i64.wrap (t7 + 1)))] fun H37 =>
 ∃ a38 i39, H37.cell t5 6 = some (.slice a38 i39 0) ∧
 nwH H37 (.cells true 1 [(.int .u64 0)]) fun i40 H41 =>
 ∃ l42, rowOf H41 1 (some ⟨i40, 0, none⟩) 1 = some l42 ∧
 apd H41 8 1 a38 i39 1 l42 fun a43 i44 H45 =>
 stc H45 t5 6 [(.slice a43 i44 0)] fun H46 =>
 ∃ a47 i48, (H46.bump 11).cell t5 5 = some (.slice a47 i48 0) ∧
 ∃ n49, ∃ a50 i51, ∃ n52, (H46.bump 11).cellsAt i4 0 3 = some [(.int .u64 n49), (.slice a50 i51 0), (.int .i64 n52)] ∧
 nwH (H46.bump 11) (.cells true 3 [(.int .u64 n49), (.slice a50 i51 0), (.int .i64 n52)]) fun i53 H54 =>
 ∃ l55, rowOf H54 3 (some ⟨i53, 0, none⟩) 1 = some l55 ∧
 apd H54 40 3 a47 i48 1 l55 fun a56 i57 H58 =>
 stc H58 t5 5 [(.slice a56 i57 0)] fun H59 =>
 (
 ∃ k64, k64 < n ∧
 I k64 (IntKind.i64.wrap (t7 + 1)) H59) ∧
 ((∃ a62 i63, (H46.bump 11).cell t5 5 = some (.slice a62 i63 0) ∧
 (a47 = a62 ∧ i48 = i63 ∧ 0 = 0)) ∧ (∃ a60 i61, H54.cell t5 5 = some (.slice a60 i61 0) ∧
 (a47 = a60 ∧ i48 = i61 ∧ 0 = 0)) ∧ True) ∧
 True)
 else (
 ∃ a65 i66, (H6.bump 11).cell t5 5 = some (.slice a65 i66 0) ∧
 ∃ n67, ∃ a68 i69, ∃ n70, (H6.bump 11).cellsAt i4 0 3 = some [(.int .u64 n67), (.slice a68 i69 0), (.int .i64 n70)] ∧
 nwH (H6.bump 11) (.cells true 3 [(.int .u64 n67), (.slice a68 i69 0), (.int .i64 n70)]) fun i71 H72 =>
 ∃ l73, rowOf H72 3 (some ⟨i71, 0, none⟩) 1 = some l73 ∧
 apd H72 40 3 a65 i66 1 l73 fun a74 i75 H76 =>
 stc H76 t5 5 [(.slice a74 i75 0)] fun H77 =>
 (
 ∃ k82, k82 < n ∧
 I k82 (IntKind.i64.wrap (t7 + 1)) H77) ∧
 ((∃ a80 i81, (H6.bump 11).cell t5 5 = some (.slice a80 i81 0) ∧
 (a65 = a80 ∧ i66 = i81 ∧ 0 = 0)) ∧ (∃ a78 i79, H72.cell t5 5 = some (.slice a78 i79 0) ∧
 (a65 = a78 ∧ i66 = i79 ∧ 0 = 0)) ∧ True) ∧
 True)))
 else (
 K0 [(.agg #[(.int .i64 t0_0), (.int .i64 t0_1), (.int .i64 t0_2), (.int .i64 t0_3), (.int .i64 t0_4)]), (.int .i64 t1), (.pointer (some ⟨t2, 0, none⟩)), undef, (.pointer none), (.pointer (some ⟨t5, 0, none⟩)), (.int .i64 t6), (.int .i64 t7), (ys.getD 8 undef), (.agg #[(.int .i64 t9_0), (.int .i64 t9_1), (.int .i64 t9_2), (.int .i64 t9_3), (.int .i64 t9_4)]), (.agg #[(.int .i64 t10_0), (.int .i64 t10_1), (.int .i64 t10_2), (.int .i64 t10_3), (.int .i64 t10_4), (.slice none 0 0), (.slice none 0 0)]), (.pointer (some ⟨t11, 0, none⟩)), t12, t13, t14, t15, t16, t17, t18, t19, t20, t21, t22, t23, t24, t25, t26, t27, t28, t29, t30, t31, t32, (.int .i64 t7), (.int .i64 t6), (.bool false), (ys.getD 36 undef), (ys.getD 37 undef), (ys.getD 38 undef), (ys.getD 39 undef), (ys.getD 40 undef), (ys.getD 41 undef), (ys.getD 42 undef), (ys.getD 43 undef), (ys.getD 44 undef), (ys.getD 45 undef), (ys.getD 46 undef), (ys.getD 47 undef), (ys.getD 48 undef), (ys.getD 49 undef), (ys.getD 50 undef), (ys.getD 51 undef), (ys.getD 52 undef), (ys.getD 53 undef), (ys.getD 54 undef), (ys.getD 55 undef), (ys.getD 56 undef), (ys.getD 57 undef), (ys.getD 58 undef), (ys.getD 59 undef), (ys.getD 60 undef), (ys.getD 61 undef), (ys.getD 62 undef), (ys.getD 63 undef), (ys.getD 64 undef), (ys.getD 65 undef), (ys.getD 66 undef), (ys.getD 67 undef), (ys.getD 68 undef), (ys.getD 69 undef), (ys.getD 70 undef), (ys.getD 71 undef), (ys.getD 72 undef), (ys.getD 73 undef), undef] H))) :
    LA en L_crossbarref11_made_0 [(.agg #[(.int .i64 t0_0), (.int .i64 t0_1), (.int .i64 t0_2), (.int .i64 t0_3), (.int .i64 t0_4)]), (.int .i64 t1), (.pointer (some ⟨t2, 0, none⟩)), undef, (.pointer none), (.pointer (some ⟨t5, 0, none⟩)), (.int .i64 t6), (.int .i64 t7), t8, (.agg #[(.int .i64 t9_0), (.int .i64 t9_1), (.int .i64 t9_2), (.int .i64 t9_3), (.int .i64 t9_4)]), (.agg #[(.int .i64 t10_0), (.int .i64 t10_1), (.int .i64 t10_2), (.int .i64 t10_3), (.int .i64 t10_4), (.slice none 0 0), (.slice none 0 0)]), (.pointer (some ⟨t11, 0, none⟩)), t12, t13, t14, t15, t16, t17, t18, t19, t20, t21, t22, t23, t24, t25, t26, t27, t28, t29, t30, t31, t32, t33, t34, t35, t36, t37, t38, t39, t40, t41, t42, t43, t44, t45, t46, t47, t48, t49, t50, t51, t52, t53, t54, t55, t56, t57, t58, t59, t60, t61, t62, t63, t64, t65, t66, t67, t68, t69, t70, t71, t72, t73, undef] H [(X.exit 0, K0)] := by
  refine LA_rule (Z := []) (fun m xs H' => AS.asInt .i64 (xs.getD 7 undef) fun t7 => I m t7 H') ?_ n H ?_
  · intro n H
    suffices hs : ∀ s33 : Value, ∀ s34 : Value, ∀ s35 : Value, ∀ s38 : Value, ∀ s39 : Value, ∀ s40 : Value, ∀ s41 : Value, ∀ s42 : Value, ∀ s43 : Value, ∀ s8 : Value, ∀ s44 : Value, ∀ s45 : Value, ∀ s46 : Value, ∀ s47 : Value, ∀ s48 : Value, ∀ s49 : Value, ∀ s50 : Value, ∀ s51 : Value, ∀ s52 : Value, ∀ s53 : Value, ∀ s54 : Value, ∀ s55 : Value, ∀ s56 : Value, ∀ s57 : Value, ∀ s58 : Value, ∀ s59 : Value, ∀ s60 : Value, ∀ s61 : Value, ∀ s62 : Value, ∀ s63 : Value, ∀ s64 : Value, ∀ s65 : Value, ∀ s66 : Value, ∀ s67 : Value, ∀ s68 : Value, ∀ s69 : Value, ∀ s70 : Value, ∀ s71 : Value, ∀ s72 : Value, ∀ s73 : Value, ∀ s36 : Value, ∀ s37 : Value, ∀ s7 : Value, ((AS.asInt .i64 s7 fun t7 => I n t7 H) → wpCode en L_crossbarref11_made_0 [] [(.agg #[(.int .i64 t0_0), (.int .i64 t0_1), (.int .i64 t0_2), (.int .i64 t0_3), (.int .i64 t0_4)]), (.int .i64 t1), (.pointer (some ⟨t2, 0, none⟩)), undef, (.pointer none), (.pointer (some ⟨t5, 0, none⟩)), (.int .i64 t6), s7, s8, (.agg #[(.int .i64 t9_0), (.int .i64 t9_1), (.int .i64 t9_2), (.int .i64 t9_3), (.int .i64 t9_4)]), (.agg #[(.int .i64 t10_0), (.int .i64 t10_1), (.int .i64 t10_2), (.int .i64 t10_3), (.int .i64 t10_4), (.slice none 0 0), (.slice none 0 0)]), (.pointer (some ⟨t11, 0, none⟩)), t12, t13, t14, t15, t16, t17, t18, t19, t20, t21, t22, t23, t24, t25, t26, t27, t28, t29, t30, t31, t32, s33, s34, s35, s36, s37, s38, s39, s40, s41, s42, s43, s44, s45, s46, s47, s48, s49, s50, s51, s52, s53, s54, s55, s56, s57, s58, s59, s60, s61, s62, s63, s64, s65, s66, s67, s68, s69, s70, s71, s72, s73, undef] H (loopQ (fun m xs H' => AS.asInt .i64 (xs.getD 7 undef) fun t7 => I m t7 H') n [(X.exit 0, K0)])) by
      apply turnInto hs
      kernel_rfl
    intro s33 s34 s35 s38 s39 s40 s41 s42 s43 s8 s44 s45 s46 s47 s48 s49 s50 s51 s52 s53 s54 s55 s56 s57 s58 s59 s60 s61 s62 s63 s64 s65 s66 s67 s68 s69 s70 s71 s72 s73 s36 s37 s7 hP
    replace hP := asInt_elim hP
    obtain ⟨t7, rfl, hP⟩ := hP
    apply turnInto (hstep n t7 [(.agg #[(.int .i64 t0_0), (.int .i64 t0_1), (.int .i64 t0_2), (.int .i64 t0_3), (.int .i64 t0_4)]), (.int .i64 t1), (.pointer (some ⟨t2, 0, none⟩)), undef, (.pointer none), (.pointer (some ⟨t5, 0, none⟩)), (.int .i64 t6), (.int .i64 t7), s8, (.agg #[(.int .i64 t9_0), (.int .i64 t9_1), (.int .i64 t9_2), (.int .i64 t9_3), (.int .i64 t9_4)]), (.agg #[(.int .i64 t10_0), (.int .i64 t10_1), (.int .i64 t10_2), (.int .i64 t10_3), (.int .i64 t10_4), (.slice none 0 0), (.slice none 0 0)]), (.pointer (some ⟨t11, 0, none⟩)), t12, t13, t14, t15, t16, t17, t18, t19, t20, t21, t22, t23, t24, t25, t26, t27, t28, t29, t30, t31, t32, s33, s34, s35, s36, s37, s38, s39, s40, s41, s42, s43, s44, s45, s46, s47, s48, s49, s50, s51, s52, s53, s54, s55, s56, s57, s58, s59, s60, s61, s62, s63, s64, s65, s66, s67, s68, s69, s70, s71, s72, s73, undef] H hP)
    kernel_rfl
  · apply turnInto h0
    kernel_rfl


/-! crossbarref11_arrays -/

theorem vc_crossbarref11_arrays (x0 : Int) (H : Heap) (R : Value → Heap → Prop) :
    (
 bif (x0 == 1) then (
 R (.bool true) H)
 else (
 bif (x0 == 2) then (
 R (.bool true) H)
 else (
 R (.bool (x0 == 3)) H))) →
    CA en F.crossbarref11_arrays [(.int .i64 x0)] H R := by
  intro h
  refine wpFn_ok (Z := []) (fn := Go.Proofs.Tryz.f52) ?_ ?_ ?_
  · kernel_rfl
  · kernel_rfl
  · apply turnInto h
    kernel_rfl


/-! crossbarref11_flag -/

theorem vc_crossbarref11_flag (x0_0 : Int) (x0_1 : Int) (x0_2 : Int) (x0_3 : Int) (x0_4 : Int) (x1_0 : Int) (x1_1 : Int) (x1_2 : Option Addr) (x1_2l : Nat) (x1_3 : Int) (x1_4 : Int) (H : Heap) (R : Value → Heap → Prop) :
    (
 nwH H (.cells true 0 [(.int .i64 x0_0), (.int .i64 x0_1), (.int .i64 x0_2), (.int .i64 x0_3), (.int .i64 x0_4)]) fun i1 H2 =>
 nwH H2 (.cells true 0 [(.int .i64 x1_0), (.int .u64 x1_1), (.slice x1_2 x1_2l 0), (.int .i64 x1_3), (.int .i64 x1_4)]) fun i3 H4 =>
 ∃ n5, H4.cell i3 0 = some (.int .i64 n5) ∧
 bif (n5 == 2) then (
 ∃ n6, H4.cell i3 3 = some (.int .i64 n6) ∧
 bif (decide (n6 ≥ 0)) then (
 ∃ n7, H4.cell i3 3 = some (.int .i64 n7) ∧
 R (.bool (decide (n7 ≤ 2))) H4)
 else (
 R (.bool false) H4))
 else (
 bif (n5 == 6) then (
 ∃ n8, H4.cell i3 3 = some (.int .i64 n8) ∧
 bif (n8 == 0) then (
 R (.bool true) H4)
 else (
 ∃ n9, H4.cell i3 3 = some (.int .i64 n9) ∧
 bif (n9 == 2) then (
 ∃ n10, H4.cell i1 0 = some (.int .i64 n10) ∧
 R (.bool (n10 != 8)) H4)
 else (
 R (.bool false) H4)))
 else (
 bif (n5 == 4) then (
 ∃ n11, H4.cell i3 3 = some (.int .i64 n11) ∧
 bif (n11 == 0) then (
 R (.bool true) H4)
 else (
 ∃ n12, H4.cell i3 3 = some (.int .i64 n12) ∧
 R (.bool (n12 == 1)) H4))
 else (
 ∃ n13, H4.cell i3 3 = some (.int .i64 n13) ∧
 R (.bool (n13 == 0)) H4)))) →
    CA en F.crossbarref11_flag [(.agg #[(.int .i64 x0_0), (.int .i64 x0_1), (.int .i64 x0_2), (.int .i64 x0_3), (.int .i64 x0_4)]), (.agg #[(.int .i64 x1_0), (.int .u64 x1_1), (.slice x1_2 x1_2l 0), (.int .i64 x1_3), (.int .i64 x1_4)])] H R := by
  intro h
  refine wpFn_ok (Z := []) (fn := Go.Proofs.Tryz.f75) ?_ ?_ ?_
  · kernel_rfl
  · kernel_rfl
  · apply turnInto h
    kernel_rfl


/-! crossbarref11_Maps_right -/

theorem vc_crossbarref11_Maps_right (x0 : Option Addr) (x1 : Int) (x2_0 : Int) (x2_1 : Int) (x2_2 : Option Addr) (x2_2l : Nat) (x2_3 : Int) (x2_4 : Int) (H : Heap) (R : Value → Heap → Prop) :
    (
 nwH H (.cells true 0 [(.int .i64 x2_0), (.int .u64 x2_1), (.slice x2_2 x2_2l 0), (.int .i64 x2_3), (.int .i64 x2_4)]) fun i1 H2 =>
 bif (decide (x1 < 1)) then (
 R (.bool false) H2)
 else (
 AS.asAddr (.pointer x0) fun i3 i4 =>
 ∃ a5 i6, H2.cell i3 i4 = some (.slice a5 i6 0) ∧
 bif (decide (x1 > ((i6 : Nat) : Int))) then (
 R (.bool false) H2)
 else (
 AS.asAddr (.pointer x0) fun i7 i8 =>
 ∃ a9 i10, H2.cell i7 i8 = some (.slice a9 i10 0) ∧
 inB (IntKind.i64.wrap (x1 - 1)) i10 ∧
 asRow a9 fun i11 i12 =>
 ∃ a13, H2.cell i11 (i12 + ((IntKind.i64.wrap (x1 - 1)).toNat * 1)) = some (.pointer a13) ∧
 AS.asAddr (.pointer a13) fun i14 i15 =>
 ∃ n16, ∃ n17, ∃ n18, ∃ n19, ∃ n20, H2.cellsAt i14 i15 5 = some [(.int .i64 n16), (.int .i64 n17), (.int .i64 n18), (.int .i64 n19), (.int .i64 n20)] ∧
 nwH H2 (.cells true 0 [(.int .i64 0), (.int .i64 0), (.int .i64 0), (.int .i64 0), (.int .i64 0)]) fun i21 H22 =>
 stc H22 i21 0 [(.int .i64 n16), (.int .i64 n17), (.int .i64 n18), (.int .i64 n19), (.int .i64 n20)] fun H23 =>
 ∃ J24 : List Value → Heap → Prop, (
 ∃ n25, (H23.bump 25).cell i21 0 = some (.int .i64 n25) ∧
 ∃ n26, (H23.bump 25).cell i1 0 = some (.int .i64 n26) ∧
 CA en F.crossbarref07_May [(.int .i64 n25), (.int .i64 n26)] (H23.bump 25) fun v27 H28 =>
 ∃ b29, v27 = (.bool b29) ∧
 bif (!b29) then (
 (
 R (.bool false) H28) ∧
 True)
 else (
 ∃ n30, H28.cell i21 0 = some (.int .i64 n30) ∧
 bif (n30 == 2) then (
 ∃ n31, H28.cell i1 4 = some (.int .i64 n31) ∧
 bif (decide (n31 < 0)) then (
 (
 R (.bool false) H28) ∧
 True)
 else (
 ∃ n32, H28.cell i1 4 = some (.int .i64 n32) ∧
 AS.asAddr (.pointer x0) fun i33 i34 =>
 ∃ n35, H28.cell i33 (i34 + 1) = some (.int .i64 n35) ∧
 (
 bif (decide (n32 ≥ n35)) then (
 R (.bool false) H28)
 else (
 J24 [] H28)) ∧
 True))
 else (
 (
 J24 [] H28) ∧
 True))) ∧
 ∀ (ys36 : Fr) (H37 : Heap), J24 [] H37 →
 ∃ J38 : List Value → Heap → Prop, (
 ∃ n39, H37.cell i1 0 = some (.int .i64 n39) ∧
 bif (n39 == 2) then (
 J38 [(.bool true)] H37)
 else (
 ∃ n40, H37.cell i1 0 = some (.int .i64 n40) ∧
 bif (n40 == 6) then (
 J38 [(.bool true)] H37)
 else (
 ∃ n41, H37.cell i1 0 = some (.int .i64 n41) ∧
 bif (n41 == 8) then (
 ∃ n42, H37.cell i21 0 = some (.int .i64 n42) ∧
 J38 [(.bool (n42 == 8))] H37)
 else (
 J38 [(.bool false)] H37)))) ∧
 ∀ (ys43 : Fr) (H44 : Heap), ∀ b45, J38 [(.bool b45)] H44 →
 ∃ J46 : List Value → Heap → Prop, (
 bif b45 then (
 ∃ a47 i48, H44.cell i1 2 = some (.slice a47 i48 0) ∧
 ∃ n49, H44.cell i21 2 = some (.int .i64 n49) ∧
 bif (((i48 : Nat) : Int) != n49) then (
 R (.bool false) H44)
 else (
 J46 [] H44))
 else (
 J46 [] H44)) ∧
 ∀ (ys50 : Fr) (H51 : Heap), J46 [] H51 →
 ∃ J52 : List Value → Heap → Prop, (
 ∃ n53, H51.cell i1 0 = some (.int .i64 n53) ∧
 bif (n53 == 2) then (
 ∃ n54, H51.cell i21 0 = some (.int .i64 n54) ∧
 CA en F.crossbarref07_Nested [(.int .i64 n54)] H51 fun v55 H56 =>
 ∃ b57, v55 = (.bool b57) ∧
 bif b57 then (
 ∃ a58 i59, H56.cell i1 2 = some (.slice a58 i59 0) ∧
 inB 0 i59 ∧
 asRow a58 fun i60 i61 =>
 ∃ n62, H56.cell i60 i61 = some (.int .u64 n62) ∧
 bif (decide (n62 < 1)) then (
 (
 R (.bool false) (H56.bump 39)) ∧
 True)
 else (
 AS.asAddr (.pointer x0) fun i63 i64 =>
 ∃ a65 i66, (H56.bump 39).cell i63 i64 = some (.slice a65 i66 0) ∧
 bif (decide (n62 > (IntKind.u64.wrap ((i66 : Nat) : Int)))) then (
 (
 R (.bool false) (H56.bump 39)) ∧
 True)
 else (
 AS.asAddr (.pointer x0) fun i67 i68 =>
 ∃ a69 i70, (H56.bump 39).cell i67 i68 = some (.slice a69 i70 0) ∧
 inB (IntKind.u64.wrap (n62 - 1)) i70 ∧
 asRow a69 fun i71 i72 =>
 ∃ a73, (H56.bump 39).cell i71 (i72 + ((IntKind.u64.wrap (n62 - 1)).toNat * 1)) = some (.pointer a73) ∧
 AS.asAddr (.pointer a73) fun i74 i75 =>
 ∃ n76, ∃ n77, ∃ n78, ∃ n79, ∃ n80, (H56.bump 39).cellsAt i74 i75 5 = some [(.int .i64 n76), (.int .i64 n77), (.int .i64 n78), (.int .i64 n79), (.int .i64 n80)] ∧
 AS.asAddr (.pointer x0) fun i81 i82 =>
 ∃ a83 i84, (H56.bump 39).cell i81 i82 = some (.slice a83 i84 0) ∧
 ∃ n85, (H56.bump 39).cell i21 4 = some (.int .i64 n85) ∧
 inB (IntKind.i64.wrap (n85 - 1)) i84 ∧
 asRow a83 fun i86 i87 =>
 ∃ a88, (H56.bump 39).cell i86 (i87 + ((IntKind.i64.wrap (n85 - 1)).toNat * 1)) = some (.pointer a88) ∧
 AS.asAddr (.pointer a88) fun i89 i90 =>
 ∃ n91, ∃ n92, ∃ n93, ∃ n94, ∃ n95, (H56.bump 39).cellsAt i89 i90 5 = some [(.int .i64 n91), (.int .i64 n92), (.int .i64 n93), (.int .i64 n94), (.int .i64 n95)] ∧
 CA en F.crossbarref07_Like [(.agg #[(.int .i64 n76), (.int .i64 n77), (.int .i64 n78), (.int .i64 n79), (.int .i64 n80)]), (.agg #[(.int .i64 n91), (.int .i64 n92), (.int .i64 n93), (.int .i64 n94), (.int .i64 n95)])] (H56.bump 39) fun v96 H97 =>
 ∃ b98, v96 = (.bool b98) ∧
 (
 bif (!b98) then (
 R (.bool false) H97)
 else (
 J52 [] H97)) ∧
 True)))
 else (
 J52 [] H56))
 else (
 J52 [] H51)) ∧
 ∀ (ys99 : Fr) (H100 : Heap), J52 [] H100 →
 ∃ n101, ∃ n102, ∃ n103, ∃ n104, ∃ n105, H100.cellsAt i21 0 5 = some [(.int .i64 n101), (.int .i64 n102), (.int .i64 n103), (.int .i64 n104), (.int .i64 n105)] ∧
 ∃ n106, ∃ n107, ∃ a108 i109, ∃ n110, ∃ n111, H100.cellsAt i1 0 5 = some [(.int .i64 n106), (.int .u64 n107), (.slice a108 i109 0), (.int .i64 n110), (.int .i64 n111)] ∧
 CA en F.crossbarref11_flag [(.agg #[(.int .i64 n101), (.int .i64 n102), (.int .i64 n103), (.int .i64 n104), (.int .i64 n105)]), (.agg #[(.int .i64 n106), (.int .u64 n107), (.slice a108 i109 0), (.int .i64 n110), (.int .i64 n111)])] H100 fun v112 H113 =>
 ∃ b114, v112 = (.bool b114) ∧
 R (.bool b114) H113))) →
    CA en F.crossbarref11_Maps_right [(.pointer x0), (.int .i64 x1), (.agg #[(.int .i64 x2_0), (.int .u64 x2_1), (.slice x2_2 x2_2l 0), (.int .i64 x2_3), (.int .i64 x2_4)])] H R := by
  intro h
  refine wpFnC_ok (C := [none, none, none, none, none, some [], none, none, some [(8, (.bool false))], some [], none, none, some [], none, none, none, none, none]) (Z := []) (fn := Go.Proofs.Tryz.f53) ?_ ?_ ?_
  · kernel_rfl
  · kernel_rfl
  · apply turnInto h
    kernel_rfl


/-! crossbarref11_Maps_Do -/

theorem vc_crossbarref11_Maps_Do (x0 : Option Addr) (x1 : Int) (x2_0 : Int) (x2_1 : Int) (x2_2 : Option Addr) (x2_2l : Nat) (x2_3 : Int) (x2_4 : Int) (H : Heap) (R : Value → Heap → Prop) :
    (
 nwH H (.cells true 0 [(.int .i64 x2_0), (.int .u64 x2_1), (.slice x2_2 x2_2l 0), (.int .i64 x2_3), (.int .i64 x2_4)]) fun i1 H2 =>
 nwH H2 (.cells true 0 [(.int .i64 0), (.slice none 0 0), (.int .u64 0), (.int .i64 0)]) fun i3 H4 =>
 ∃ n5, ∃ n6, ∃ a7 i8, ∃ n9, ∃ n10, H4.cellsAt i1 0 5 = some [(.int .i64 n5), (.int .u64 n6), (.slice a7 i8 0), (.int .i64 n9), (.int .i64 n10)] ∧
 CA en F.crossbarref11_Maps_right [(.pointer x0), (.int .i64 x1), (.agg #[(.int .i64 n5), (.int .u64 n6), (.slice a7 i8 0), (.int .i64 n9), (.int .i64 n10)])] H4 fun v11 H12 =>
 ∃ b13, v11 = (.bool b13) ∧
 bif (!b13) then (
 stc H12 i3 0 [(.int .i64 1), (.slice none 0 0), (.int .u64 0), (.int .i64 0)] fun H14 =>
 ∃ n15, ∃ a16 i17, ∃ n18, ∃ n19, H14.cellsAt i3 0 4 = some [(.int .i64 n15), (.slice a16 i17 0), (.int .u64 n18), (.int .i64 n19)] ∧
 R (.agg #[(.int .i64 n15), (.slice a16 i17 0), (.int .u64 n18), (.int .i64 n19)]) H14)
 else (
 AS.asAddr (.pointer x0) fun i20 i21 =>
 ∃ a22 i23, H12.cell i20 i21 = some (.slice a22 i23 0) ∧
 inB (IntKind.i64.wrap (x1 - 1)) i23 ∧
 asRow a22 fun i24 i25 =>
 ∃ a26, H12.cell i24 (i25 + ((IntKind.i64.wrap (x1 - 1)).toNat * 1)) = some (.pointer a26) ∧
 AS.asAddr (.pointer a26) fun i27 i28 =>
 ∃ n29, H12.cell i27 i28 = some (.int .i64 n29) ∧
 bif (n29 == 1) then (
 ∃ n30, ∃ n31, ∃ a32 i33, ∃ n34, ∃ n35, H12.cellsAt i1 0 5 = some [(.int .i64 n30), (.int .u64 n31), (.slice a32 i33 0), (.int .i64 n34), (.int .i64 n35)] ∧
 CA en F.crossbarref11_Map_array [(.pointer a26), (.agg #[(.int .i64 n30), (.int .u64 n31), (.slice a32 i33 0), (.int .i64 n34), (.int .i64 n35)])] H12 fun v36 H37 =>
 ∃ n38, ∃ a39 i40, ∃ n41, ∃ n42, v36 = (.agg #[(.int .i64 n38), (.slice a39 i40 0), (.int .u64 n41), (.int .i64 n42)]) ∧
 stc H37 i3 0 [(.int .i64 n38), (.slice a39 i40 0), (.int .u64 n41), (.int .i64 n42)] fun H43 =>
 ∃ n44, ∃ a45 i46, ∃ n47, ∃ n48, H43.cellsAt i3 0 4 = some [(.int .i64 n44), (.slice a45 i46 0), (.int .u64 n47), (.int .i64 n48)] ∧
 R (.agg #[(.int .i64 n44), (.slice a45 i46 0), (.int .u64 n47), (.int .i64 n48)]) H43)
 else (
 bif (n29 == 2) then (
 ∃ n49, ∃ n50, ∃ a51 i52, ∃ n53, ∃ n54, H12.cellsAt i1 0 5 = some [(.int .i64 n49), (.int .u64 n50), (.slice a51 i52 0), (.int .i64 n53), (.int .i64 n54)] ∧
 CA en F.crossbarref11_Map_array [(.pointer a26), (.agg #[(.int .i64 n49), (.int .u64 n50), (.slice a51 i52 0), (.int .i64 n53), (.int .i64 n54)])] H12 fun v55 H56 =>
 ∃ n57, ∃ a58 i59, ∃ n60, ∃ n61, v55 = (.agg #[(.int .i64 n57), (.slice a58 i59 0), (.int .u64 n60), (.int .i64 n61)]) ∧
 stc H56 i3 0 [(.int .i64 n57), (.slice a58 i59 0), (.int .u64 n60), (.int .i64 n61)] fun H62 =>
 ∃ n63, ∃ a64 i65, ∃ n66, ∃ n67, H62.cellsAt i3 0 4 = some [(.int .i64 n63), (.slice a64 i65 0), (.int .u64 n66), (.int .i64 n67)] ∧
 R (.agg #[(.int .i64 n63), (.slice a64 i65 0), (.int .u64 n66), (.int .i64 n67)]) H62)
 else (
 bif (n29 == 3) then (
 ∃ n68, ∃ n69, ∃ a70 i71, ∃ n72, ∃ n73, H12.cellsAt i1 0 5 = some [(.int .i64 n68), (.int .u64 n69), (.slice a70 i71 0), (.int .i64 n72), (.int .i64 n73)] ∧
 CA en F.crossbarref11_Map_array [(.pointer a26), (.agg #[(.int .i64 n68), (.int .u64 n69), (.slice a70 i71 0), (.int .i64 n72), (.int .i64 n73)])] H12 fun v74 H75 =>
 ∃ n76, ∃ a77 i78, ∃ n79, ∃ n80, v74 = (.agg #[(.int .i64 n76), (.slice a77 i78 0), (.int .u64 n79), (.int .i64 n80)]) ∧
 stc H75 i3 0 [(.int .i64 n76), (.slice a77 i78 0), (.int .u64 n79), (.int .i64 n80)] fun H81 =>
 ∃ n82, ∃ a83 i84, ∃ n85, ∃ n86, H81.cellsAt i3 0 4 = some [(.int .i64 n82), (.slice a83 i84 0), (.int .u64 n85), (.int .i64 n86)] ∧
 R (.agg #[(.int .i64 n82), (.slice a83 i84 0), (.int .u64 n85), (.int .i64 n86)]) H81)
 else (
 bif (n29 == 9) then (
 ∃ n87, ∃ n88, ∃ a89 i90, ∃ n91, ∃ n92, H12.cellsAt i1 0 5 = some [(.int .i64 n87), (.int .u64 n88), (.slice a89 i90 0), (.int .i64 n91), (.int .i64 n92)] ∧
 CA en F.crossbarref11_Map_array [(.pointer a26), (.agg #[(.int .i64 n87), (.int .u64 n88), (.slice a89 i90 0), (.int .i64 n91), (.int .i64 n92)])] H12 fun v93 H94 =>
 ∃ n95, ∃ a96 i97, ∃ n98, ∃ n99, v93 = (.agg #[(.int .i64 n95), (.slice a96 i97 0), (.int .u64 n98), (.int .i64 n99)]) ∧
 stc H94 i3 0 [(.int .i64 n95), (.slice a96 i97 0), (.int .u64 n98), (.int .i64 n99)] fun H100 =>
 ∃ n101, ∃ a102 i103, ∃ n104, ∃ n105, H100.cellsAt i3 0 4 = some [(.int .i64 n101), (.slice a102 i103 0), (.int .u64 n104), (.int .i64 n105)] ∧
 R (.agg #[(.int .i64 n101), (.slice a102 i103 0), (.int .u64 n104), (.int .i64 n105)]) H100)
 else (
 bif (n29 == 6) then (
 ∃ n106, ∃ n107, ∃ a108 i109, ∃ n110, ∃ n111, H12.cellsAt i1 0 5 = some [(.int .i64 n106), (.int .u64 n107), (.slice a108 i109 0), (.int .i64 n110), (.int .i64 n111)] ∧
 CA en F.crossbarref11_Map_ring [(.pointer a26), (.agg #[(.int .i64 n106), (.int .u64 n107), (.slice a108 i109 0), (.int .i64 n110), (.int .i64 n111)])] H12 fun v112 H113 =>
 ∃ n114, ∃ a115 i116, ∃ n117, ∃ n118, v112 = (.agg #[(.int .i64 n114), (.slice a115 i116 0), (.int .u64 n117), (.int .i64 n118)]) ∧
 stc H113 i3 0 [(.int .i64 n114), (.slice a115 i116 0), (.int .u64 n117), (.int .i64 n118)] fun H119 =>
 ∃ n120, ∃ a121 i122, ∃ n123, ∃ n124, H119.cellsAt i3 0 4 = some [(.int .i64 n120), (.slice a121 i122 0), (.int .u64 n123), (.int .i64 n124)] ∧
 R (.agg #[(.int .i64 n120), (.slice a121 i122 0), (.int .u64 n123), (.int .i64 n124)]) H119)
 else (
 bif (n29 == 7) then (
 ∃ n125, ∃ n126, ∃ a127 i128, ∃ n129, ∃ n130, H12.cellsAt i1 0 5 = some [(.int .i64 n125), (.int .u64 n126), (.slice a127 i128 0), (.int .i64 n129), (.int .i64 n130)] ∧
 CA en F.crossbarref11_Map_ring [(.pointer a26), (.agg #[(.int .i64 n125), (.int .u64 n126), (.slice a127 i128 0), (.int .i64 n129), (.int .i64 n130)])] H12 fun v131 H132 =>
 ∃ n133, ∃ a134 i135, ∃ n136, ∃ n137, v131 = (.agg #[(.int .i64 n133), (.slice a134 i135 0), (.int .u64 n136), (.int .i64 n137)]) ∧
 stc H132 i3 0 [(.int .i64 n133), (.slice a134 i135 0), (.int .u64 n136), (.int .i64 n137)] fun H138 =>
 ∃ n139, ∃ a140 i141, ∃ n142, ∃ n143, H138.cellsAt i3 0 4 = some [(.int .i64 n139), (.slice a140 i141 0), (.int .u64 n142), (.int .i64 n143)] ∧
 R (.agg #[(.int .i64 n139), (.slice a140 i141 0), (.int .u64 n142), (.int .i64 n143)]) H138)
 else (
 bif (n29 == 8) then (
 ∃ n144, ∃ n145, ∃ a146 i147, ∃ n148, ∃ n149, H12.cellsAt i1 0 5 = some [(.int .i64 n144), (.int .u64 n145), (.slice a146 i147 0), (.int .i64 n148), (.int .i64 n149)] ∧
 CA en F.crossbarref11_Map_bloom [(.pointer a26), (.agg #[(.int .i64 n144), (.int .u64 n145), (.slice a146 i147 0), (.int .i64 n148), (.int .i64 n149)])] H12 fun v150 H151 =>
 ∃ n152, ∃ a153 i154, ∃ n155, ∃ n156, v150 = (.agg #[(.int .i64 n152), (.slice a153 i154 0), (.int .u64 n155), (.int .i64 n156)]) ∧
 stc H151 i3 0 [(.int .i64 n152), (.slice a153 i154 0), (.int .u64 n155), (.int .i64 n156)] fun H157 =>
 ∃ n158, ∃ a159 i160, ∃ n161, ∃ n162, H157.cellsAt i3 0 4 = some [(.int .i64 n158), (.slice a159 i160 0), (.int .u64 n161), (.int .i64 n162)] ∧
 R (.agg #[(.int .i64 n158), (.slice a159 i160 0), (.int .u64 n161), (.int .i64 n162)]) H157)
 else (
 ∃ n163, ∃ n164, ∃ a165 i166, ∃ n167, ∃ n168, H12.cellsAt i1 0 5 = some [(.int .i64 n163), (.int .u64 n164), (.slice a165 i166 0), (.int .i64 n167), (.int .i64 n168)] ∧
 CA en F.crossbarref11_Map_hash [(.pointer a26), (.agg #[(.int .i64 n163), (.int .u64 n164), (.slice a165 i166 0), (.int .i64 n167), (.int .i64 n168)])] H12 fun v169 H170 =>
 ∃ n171, ∃ a172 i173, ∃ n174, ∃ n175, v169 = (.agg #[(.int .i64 n171), (.slice a172 i173 0), (.int .u64 n174), (.int .i64 n175)]) ∧
 stc H170 i3 0 [(.int .i64 n171), (.slice a172 i173 0), (.int .u64 n174), (.int .i64 n175)] fun H176 =>
 ∃ n177, ∃ a178 i179, ∃ n180, ∃ n181, H176.cellsAt i3 0 4 = some [(.int .i64 n177), (.slice a178 i179 0), (.int .u64 n180), (.int .i64 n181)] ∧
 R (.agg #[(.int .i64 n177), (.slice a178 i179 0), (.int .u64 n180), (.int .i64 n181)]) H176))))))))) →
    CA en F.crossbarref11_Maps_Do [(.pointer x0), (.int .i64 x1), (.agg #[(.int .i64 x2_0), (.int .u64 x2_1), (.slice x2_2 x2_2l 0), (.int .i64 x2_3), (.int .i64 x2_4)])] H R := by
  intro h
  refine wpFn_ok (Z := []) (fn := Go.Proofs.Tryz.f41) ?_ ?_ ?_
  · kernel_rfl
  · kernel_rfl
  · apply turnInto h
    kernel_rfl


/-! crossbarref11_Map_ring -/

theorem vc_crossbarref11_Map_ring (x0 : Option Addr) (x1_0 : Int) (x1_1 : Int) (x1_2 : Option Addr) (x1_2l : Nat) (x1_3 : Int) (x1_4 : Int) (H : Heap) (R : Value → Heap → Prop) :
    (
 nwH H (.cells true 0 [(.int .i64 x1_0), (.int .u64 x1_1), (.slice x1_2 x1_2l 0), (.int .i64 x1_3), (.int .i64 x1_4)]) fun i1 H2 =>
 nwH H2 (.cells true 0 [(.int .i64 0), (.slice none 0 0), (.int .u64 0), (.int .i64 0)]) fun i3 H4 =>
 ∃ n5, H4.cell i1 0 = some (.int .i64 n5) ∧
 bif (n5 == 6) then (
 AS.asAddr (.pointer x0) fun i6 i7 =>
 ∃ a8 i9, (H4.bump 11).cell i6 (i7 + 5) = some (.slice a8 i9 0) ∧
 AS.asAddr (.pointer x0) fun i10 i11 =>
 ∃ n12, (H4.bump 11).cell i10 (i11 + 1) = some (.int .i64 n12) ∧
 (
 bif (decide (((i9 : Nat) : Int) ≥ n12)) then (
 ∃ n13, (H4.bump 11).cell i1 3 = some (.int .i64 n13) ∧
 bif (n13 != 2) then (
 stc (H4.bump 11) i3 0 [(.int .i64 4), (.slice none 0 0), (.int .u64 0), (.int .i64 0)] fun H14 =>
 ∃ n15, ∃ a16 i17, ∃ n18, ∃ n19, H14.cellsAt i3 0 4 = some [(.int .i64 n15), (.slice a16 i17 0), (.int .u64 n18), (.int .i64 n19)] ∧
 R (.agg #[(.int .i64 n15), (.slice a16 i17 0), (.int .u64 n18), (.int .i64 n19)]) H14)
 else (
 CA en F.crossbarref11_Map_gone [(.pointer x0), (.int .i64 0)] (H4.bump 11) fun v20 H21 =>
 v20 = undef ∧
 ∃ a22 i23, H21.cell i1 2 = some (.slice a22 i23 0) ∧
 CA en F.crossbarref11_Map_laid [(.pointer x0), (.int .u64 0), (.slice a22 i23 0)] H21 fun v24 H25 =>
 v24 = undef ∧
 stc H25 i3 0 [(.int .i64 0), (.slice none 0 0), (.int .u64 0), (.int .i64 0)] fun H26 =>
 ∃ n27, ∃ a28 i29, ∃ n30, ∃ n31, H26.cellsAt i3 0 4 = some [(.int .i64 n27), (.slice a28 i29 0), (.int .u64 n30), (.int .i64 n31)] ∧
 R (.agg #[(.int .i64 n27), (.slice a28 i29 0), (.int .u64 n30), (.int .i64 n31)]) H26))
 else (
 ∃ a32 i33, (H4.bump 11).cell i1 2 = some (.slice a32 i33 0) ∧
 CA en F.crossbarref11_Map_laid [(.pointer x0), (.int .u64 0), (.slice a32 i33 0)] (H4.bump 11) fun v34 H35 =>
 v34 = undef ∧
 stc H35 i3 0 [(.int .i64 0), (.slice none 0 0), (.int .u64 0), (.int .i64 0)] fun H36 =>
 ∃ n37, ∃ a38 i39, ∃ n40, ∃ n41, H36.cellsAt i3 0 4 = some [(.int .i64 n37), (.slice a38 i39 0), (.int .u64 n40), (.int .i64 n41)] ∧
 R (.agg #[(.int .i64 n37), (.slice a38 i39 0), (.int .u64 n40), (.int .i64 n41)]) H36)) ∧
 True)
 else (
 AS.asAddr (.pointer x0) fun i42 i43 =>
 ∃ a44 i45, H4.cell i42 (i43 + 5) = some (.slice a44 i45 0) ∧
 bif (((i45 : Nat) : Int) == 0) then (
 stc H4 i3 0 [(.int .i64 2), (.slice none 0 0), (.int .u64 0), (.int .i64 0)] fun H46 =>
 ∃ n47, ∃ a48 i49, ∃ n50, ∃ n51, H46.cellsAt i3 0 4 = some [(.int .i64 n47), (.slice a48 i49 0), (.int .u64 n50), (.int .i64 n51)] ∧
 R (.agg #[(.int .i64 n47), (.slice a48 i49 0), (.int .u64 n50), (.int .i64 n51)]) H46)
 else (
 AS.asAddr (.pointer x0) fun i52 i53 =>
 ∃ n54, H4.cell i52 i53 = some (.int .i64 n54) ∧
 bif (n54 == 7) then (
 AS.asAddr (.pointer x0) fun i55 i56 =>
 ∃ a57 i58, H4.cell i55 (i56 + 5) = some (.slice a57 i58 0) ∧
 AS.asAddr (.pointer x0) fun i59 i60 =>
 ∃ a61 i62, H4.cell i59 (i60 + 5) = some (.slice a61 i62 0) ∧
 inB (IntKind.i64.wrap (((i58 : Nat) : Int) - 1)) i62 ∧
 asRow a61 fun i63 i64 =>
 ∃ n65, ∃ a66 i67, ∃ n68, H4.cellsAt i63 (i64 + ((IntKind.i64.wrap (((i58 : Nat) : Int) - 1)).toNat * 3)) 3 = some [(.int .u64 n65), (.slice a66 i67 0), (.int .i64 n68)] ∧
 CA en F.crossbarref11_Map_value [(.pointer x0), (.agg #[(.int .u64 n65), (.slice a66 i67 0), (.int .i64 n68)])] H4 fun v69 H70 =>
 ∃ a71 i72, v69 = (.slice a71 i72 0) ∧
 nwH H70 (.cells true 0 [(.int .i64 0), (.slice none 0 0), (.int .u64 0), (.int .i64 0)]) fun i73 H74 =>
 stc H74 i73 0 [(.int .i64 0), (.slice a71 i72 0), (.int .u64 0), (.int .i64 0)] fun H75 =>
 ∃ n76, H75.cell i1 0 = some (.int .i64 n76) ∧
 bif (n76 == 7) then (
 CA en F.crossbarref11_Map_gone [(.pointer x0), (.int .i64 (IntKind.i64.wrap (((i58 : Nat) : Int) - 1)))] H75 fun v77 H78 =>
 v77 = undef ∧
 ∃ n79, ∃ a80 i81, ∃ n82, ∃ n83, H78.cellsAt i73 0 4 = some [(.int .i64 n79), (.slice a80 i81 0), (.int .u64 n82), (.int .i64 n83)] ∧
 stc H78 i3 0 [(.int .i64 n79), (.slice a80 i81 0), (.int .u64 n82), (.int .i64 n83)] fun H84 =>
 ∃ n85, ∃ a86 i87, ∃ n88, ∃ n89, H84.cellsAt i3 0 4 = some [(.int .i64 n85), (.slice a86 i87 0), (.int .u64 n88), (.int .i64 n89)] ∧
 R (.agg #[(.int .i64 n85), (.slice a86 i87 0), (.int .u64 n88), (.int .i64 n89)]) H84)
 else (
 ∃ n90, ∃ a91 i92, ∃ n93, ∃ n94, H75.cellsAt i73 0 4 = some [(.int .i64 n90), (.slice a91 i92 0), (.int .u64 n93), (.int .i64 n94)] ∧
 stc H75 i3 0 [(.int .i64 n90), (.slice a91 i92 0), (.int .u64 n93), (.int .i64 n94)] fun H95 =>
 ∃ n96, ∃ a97 i98, ∃ n99, ∃ n100, H95.cellsAt i3 0 4 = some [(.int .i64 n96), (.slice a97 i98 0), (.int .u64 n99), (.int .i64 n100)] ∧
 R (.agg #[(.int .i64 n96), (.slice a97 i98 0), (.int .u64 n99), (.int .i64 n100)]) H95))
 else (
 AS.asAddr (.pointer x0) fun i101 i102 =>
 ∃ a103 i104, H4.cell i101 (i102 + 5) = some (.slice a103 i104 0) ∧
 inB 0 i104 ∧
 asRow a103 fun i105 i106 =>
 ∃ n107, ∃ a108 i109, ∃ n110, H4.cellsAt i105 i106 3 = some [(.int .u64 n107), (.slice a108 i109 0), (.int .i64 n110)] ∧
 CA en F.crossbarref11_Map_value [(.pointer x0), (.agg #[(.int .u64 n107), (.slice a108 i109 0), (.int .i64 n110)])] H4 fun v111 H112 =>
 ∃ a113 i114, v111 = (.slice a113 i114 0) ∧
 nwH H112 (.cells true 0 [(.int .i64 0), (.slice none 0 0), (.int .u64 0), (.int .i64 0)]) fun i115 H116 =>
 stc H116 i115 0 [(.int .i64 0), (.slice a113 i114 0), (.int .u64 0), (.int .i64 0)] fun H117 =>
 ∃ n118, H117.cell i1 0 = some (.int .i64 n118) ∧
 bif (n118 == 7) then (
 CA en F.crossbarref11_Map_gone [(.pointer x0), (.int .i64 0)] H117 fun v119 H120 =>
 v119 = undef ∧
 ∃ n121, ∃ a122 i123, ∃ n124, ∃ n125, H120.cellsAt i115 0 4 = some [(.int .i64 n121), (.slice a122 i123 0), (.int .u64 n124), (.int .i64 n125)] ∧
 stc H120 i3 0 [(.int .i64 n121), (.slice a122 i123 0), (.int .u64 n124), (.int .i64 n125)] fun H126 =>
 ∃ n127, ∃ a128 i129, ∃ n130, ∃ n131, H126.cellsAt i3 0 4 = some [(.int .i64 n127), (.slice a128 i129 0), (.int .u64 n130), (.int .i64 n131)] ∧
 R (.agg #[(.int .i64 n127), (.slice a128 i129 0), (.int .u64 n130), (.int .i64 n131)]) H126)
 else (
 ∃ n132, ∃ a133 i134, ∃ n135, ∃ n136, H117.cellsAt i115 0 4 = some [(.int .i64 n132), (.slice a133 i134 0), (.int .u64 n135), (.int .i64 n136)] ∧
 stc H117 i3 0 [(.int .i64 n132), (.slice a133 i134 0), (.int .u64 n135), (.int .i64 n136)] fun H137 =>
 ∃ n138, ∃ a139 i140, ∃ n141, ∃ n142, H137.cellsAt i3 0 4 = some [(.int .i64 n138), (.slice a139 i140 0), (.int .u64 n141), (.int .i64 n142)] ∧
 R (.agg #[(.int .i64 n138), (.slice a139 i140 0), (.int .u64 n141), (.int .i64 n142)]) H137))))) →
    CA en F.crossbarref11_Map_ring [(.pointer x0), (.agg #[(.int .i64 x1_0), (.int .u64 x1_1), (.slice x1_2 x1_2l 0), (.int .i64 x1_3), (.int .i64 x1_4)])] H R := by
  intro h
  refine wpFn_ok (Z := []) (fn := Go.Proofs.Tryz.f55) ?_ ?_ ?_
  · kernel_rfl
  · kernel_rfl
  · apply turnInto h
    kernel_rfl


/-! crossbarref11_Map_value -/

theorem vc_crossbarref11_Map_value (x0 : Option Addr) (x1_0 : Int) (x1_1 : Option Addr) (x1_1l : Nat) (x1_2 : Int) (H : Heap) (R : Value → Heap → Prop) :
    (
 nwH H (.cells true 0 [(.int .u64 x1_0), (.slice x1_1 x1_1l 0), (.int .i64 x1_2)]) fun i1 H2 =>
 ∃ n3, H2.cell i1 2 = some (.int .i64 n3) ∧
 bif (decide (n3 > 0)) then (
 AS.asAddr (.pointer x0) fun i4 i5 =>
 ∃ a6 i7, (H2.bump 11).cell i4 (i5 + 6) = some (.slice a6 i7 0) ∧
 ∃ n8, (H2.bump 11).cell i1 2 = some (.int .i64 n8) ∧
 inB (IntKind.i64.wrap (n8 - 1)) i7 ∧
 asRow a6 fun i9 i10 =>
 ∃ n11, (H2.bump 11).cell i9 (i10 + ((IntKind.i64.wrap (n8 - 1)).toNat * 1)) = some (.int .u64 n11) ∧
 nwH (H2.bump 11) (.cells true 1 [(.int .u64 n11)]) fun i12 H13 =>
 (
 R (.slice (some ⟨i12, 0, none⟩) 1 0) H13) ∧
 True)
 else (
 ∃ a14 i15, H2.cell i1 1 = some (.slice a14 i15 0) ∧
 CA en F.crossbarkit_CopyWords [(.slice a14 i15 0)] H2 fun v16 H17 =>
 ∃ a18 i19, v16 = (.slice a18 i19 0) ∧
 R (.slice a18 i19 0) H17)) →
    CA en F.crossbarref11_Map_value [(.pointer x0), (.agg #[(.int .u64 x1_0), (.slice x1_1 x1_1l 0), (.int .i64 x1_2)])] H R := by
  intro h
  refine wpFn_ok (Z := []) (fn := Go.Proofs.Tryz.f76) ?_ ?_ ?_
  · kernel_rfl
  · kernel_rfl
  · apply turnInto h
    kernel_rfl


/-! crossbarref11_Map_gone -/
noncomputable def L_crossbarref11_Map_gone_0 : Code := loopAt Go.Proofs.Tryz.f78 0

theorem vc_crossbarref11_Map_gone (x0 : Option Addr) (x1 : Int) (H : Heap) (R : Value → Heap → Prop) :
    (
 LA en L_crossbarref11_Map_gone_0 [(.pointer x0), (.int .i64 x1), undef, undef, (.slice none 0 0), (.int .i64 0), undef, undef, undef, undef, undef, undef, undef, undef, undef, undef, undef, undef, undef, undef, undef, undef, undef, undef, undef, undef, undef, undef, undef, undef, undef, undef] H [(X.exit 0, fun (y1 : Fr) (H2 : Heap) =>
 asSl (y1.getD 4 undef) fun a3 i4 =>
 AS.asAddr (.pointer x0) fun i5 i6 =>
 stc H2 i5 (i6 + 5) [(.slice a3 i4 0)] fun H7 =>
 R undef H7)]) →
    CA en F.crossbarref11_Map_gone [(.pointer x0), (.int .i64 x1)] H R := by
  intro h
  refine wpFn_ok (Z := [[(4, (.slice none 0 0))]]) (fn := Go.Proofs.Tryz.f78) ?_ ?_ ?_
  · kernel_rfl
  · kernel_rfl
  · apply turnInto h
    kernel_rfl

theorem use_crossbarref11_Map_gone_0 {t0 : Option Addr} {t1 : Int} {K0 : Fr → Heap → Prop} {t4 : Option Addr} {t4l : Nat} {t5 : Int} {t6 : Value} {t7 : Value} {t8 : Value} {t9 : Value} {t10 : Value} {t11 : Value} {t12 : Value} {t13 : Value} {t14 : Value} {t15 : Value} {t16 : Value} {t17 : Value} {t18 : Value} {t19 : Value} {t20 : Value} {t21 : Value} {t22 : Value} {t23 : Value} {t24 : Value} {t25 : Value} {t26 : Value} {t27 : Value} {H : Heap} (I : Nat → Option Addr → Nat → Int → Heap → Prop) (n : Nat) (h0 : I n t4 t4l t5 H)
    (hstep : ∀ (n : Nat) (t4 : Option Addr) (t4l : Nat) (t5 : Int) (ys : Fr) (H : Heap), I n t4 t4l t5 H →
    (
 AS.asAddr (.pointer t0) fun i1 i2 =>
 ∃ a3 i4, H.cell i1 (i2 + 5) = some (.slice a3 i4 0) ∧
 bif (decide (t5 < ((i4 : Nat) : Int))) then (
 bif (t5 != t1) then (
 AS.asAddr (.pointer t0) fun i5 i6 =>
 ∃ a7 i8, H.cell i5 (i6 + 5) = some (.slice a7 i8 0) ∧
 inB t5 i8 ∧
 asRow a7 fun i9 i10 =>
 ∃ n11, ∃ a12 i13, ∃ n14, H.cellsAt i9 (i10 + (t5.toNat * 3)) 3 = some [(.int .u64 n11), (.slice a12 i13 0), (.int .i64 n14)] ∧
 nwH H (.cells true 3 [(.int .u64 n11), (.slice a12 i13 0), (.int .i64 n14)]) fun i15 H16 =>
 ∃ l17, rowOf H16 3 (some ⟨i15, 0, none⟩) 1 = some l17 ∧
 apd H16 40 3 t4 t4l 1 l17 fun a18 i19 H20 =>
 ∃ k21, k21 < n ∧
 I k21 a18 i19 (IntKind.i64.wrap (t5 + 1)) H20)
 else (
 ∃ k22, k22 < n ∧
 I k22 t4 t4l (IntKind.i64.wrap (t5 + 1)) H))
 else (
 K0 [(.pointer t0), (.int .i64 t1), undef, undef, (.slice t4 t4l 0), (.int .i64 t5), (.int .i64 t5), (.pointer t0), (.pointer (some ⟨i1, i2, none⟩)), (.pointer (some ⟨i1, (i2 + 5), none⟩)), (.slice a3 i4 0), (.int .i64 ((i4 : Nat) : Int)), (.bool false), (ys.getD 13 undef), (ys.getD 14 undef), (ys.getD 15 undef), (ys.getD 16 undef), (ys.getD 17 undef), (ys.getD 18 undef), (ys.getD 19 undef), (ys.getD 20 undef), (ys.getD 21 undef), (ys.getD 22 undef), (ys.getD 23 undef), (ys.getD 24 undef), (ys.getD 25 undef), (ys.getD 26 undef), (ys.getD 27 undef), undef, undef, undef, undef] H))) :
    LA en L_crossbarref11_Map_gone_0 [(.pointer t0), (.int .i64 t1), undef, undef, (.slice t4 t4l 0), (.int .i64 t5), t6, t7, t8, t9, t10, t11, t12, t13, t14, t15, t16, t17, t18, t19, t20, t21, t22, t23, t24, t25, t26, t27, undef, undef, undef, undef] H [(X.exit 0, K0)] := by
  refine LA_rule (Z := []) (fun m xs H' => asSl (xs.getD 4 undef) fun t4 t4l => AS.asInt .i64 (xs.getD 5 undef) fun t5 => I m t4 t4l t5 H') ?_ n H ?_
  · intro n H
    suffices hs : ∀ s6 : Value, ∀ s7 : Value, ∀ s8 : Value, ∀ s9 : Value, ∀ s10 : Value, ∀ s11 : Value, ∀ s12 : Value, ∀ s15 : Value, ∀ s16 : Value, ∀ s17 : Value, ∀ s18 : Value, ∀ s19 : Value, ∀ s20 : Value, ∀ s21 : Value, ∀ s22 : Value, ∀ s23 : Value, ∀ s24 : Value, ∀ s25 : Value, ∀ s26 : Value, ∀ s27 : Value, ∀ s4 : Value, ∀ s13 : Value, ∀ s14 : Value, ∀ s5 : Value, ((asSl s4 fun t4 t4l => AS.asInt .i64 s5 fun t5 => I n t4 t4l t5 H) → wpCode en L_crossbarref11_Map_gone_0 [] [(.pointer t0), (.int .i64 t1), undef, undef, s4, s5, s6, s7, s8, s9, s10, s11, s12, s13, s14, s15, s16, s17, s18, s19, s20, s21, s22, s23, s24, s25, s26, s27, undef, undef, undef, undef] H (loopQ (fun m xs H' => asSl (xs.getD 4 undef) fun t4 t4l => AS.asInt .i64 (xs.getD 5 undef) fun t5 => I m t4 t4l t5 H') n [(X.exit 0, K0)])) by
      apply turnInto hs
      kernel_rfl
    intro s6 s7 s8 s9 s10 s11 s12 s15 s16 s17 s18 s19 s20 s21 s22 s23 s24 s25 s26 s27 s4 s13 s14 s5 hP
    replace hP := asSl_elim hP
    obtain ⟨t4, t4l, rfl, hP⟩ := hP
    replace hP := asInt_elim hP
    obtain ⟨t5, rfl, hP⟩ := hP
    apply turnInto (hstep n t4 t4l t5 [(.pointer t0), (.int .i64 t1), undef, undef, (.slice t4 t4l 0), (.int .i64 t5), s6, s7, s8, s9, s10, s11, s12, s13, s14, s15, s16, s17, s18, s19, s20, s21, s22, s23, s24, s25, s26, s27, undef, undef, undef, undef] H hP)
    kernel_rfl
  · apply turnInto h0
    kernel_rfl


/-! crossbarref11_Map_laid -/

theorem vc_crossbarref11_Map_laid (x0 : Option Addr) (x1 : Int) (x2 : Option Addr) (x2l : Nat) (H : Heap) (R : Value → Heap → Prop) :
    (
 CA en F.crossbarkit_CopyWords [(.slice x2 x2l 0)] H fun v1 H2 =>
 ∃ a3 i4, v1 = (.slice a3 i4 0) ∧
 nwH H2 (.cells true 0 [(.int .u64 0), (.slice none 0 0), (.int .i64 0)]) fun i5 H6 =>
 stc H6 i5 0 [(.int .u64 x1), (.slice a3 i4 0), (.int .i64 0)] fun H7 =>
 AS.asAddr (.pointer x0) fun i8 i9 =>
 ∃ n10, H7.cell i8 i9 = some (.int .i64 n10) ∧
 bif (n10 == 4) then (
 AS.asAddr (.pointer x0) fun i11 i12 =>
 ∃ a13 i14, (H7.bump 13).cell i11 (i12 + 6) = some (.slice a13 i14 0) ∧
 inB 0 x2l ∧
 asRow x2 fun i15 i16 =>
 ∃ n17, (H7.bump 13).cell i15 i16 = some (.int .u64 n17) ∧
 nwH (H7.bump 13) (.cells true 1 [(.int .u64 n17)]) fun i18 H19 =>
 ∃ l20, rowOf H19 1 (some ⟨i18, 0, none⟩) 1 = some l20 ∧
 apd H19 8 1 a13 i14 1 l20 fun a21 i22 H23 =>
 AS.asAddr (.pointer x0) fun i24 i25 =>
 stc H23 i24 (i25 + 6) [(.slice a21 i22 0)] fun H26 =>
 (
 AS.asAddr (.pointer x0) fun i31 i32 =>
 ∃ a33 i34, H26.cell i31 (i32 + 6) = some (.slice a33 i34 0) ∧
 stc H26 i5 2 [(.int .i64 ((i34 : Nat) : Int))] fun H35 =>
 AS.asAddr (.pointer x0) fun i36 i37 =>
 ∃ a38 i39, (H35.bump 11).cell i36 (i37 + 5) = some (.slice a38 i39 0) ∧
 ∃ n40, ∃ a41 i42, ∃ n43, (H35.bump 11).cellsAt i5 0 3 = some [(.int .u64 n40), (.slice a41 i42 0), (.int .i64 n43)] ∧
 nwH (H35.bump 11) (.cells true 3 [(.int .u64 n40), (.slice a41 i42 0), (.int .i64 n43)]) fun i44 H45 =>
 ∃ l46, rowOf H45 3 (some ⟨i44, 0, none⟩) 1 = some l46 ∧
 apd H45 40 3 a38 i39 1 l46 fun a47 i48 H49 =>
 AS.asAddr (.pointer x0) fun i50 i51 =>
 stc H49 i50 (i51 + 5) [(.slice a47 i48 0)] fun H52 =>
 (
 R undef H52) ∧
 ((∃ a55 i56, (H35.bump 11).cell i36 (i37 + 5) = some (.slice a55 i56 0) ∧
 (a38 = a55 ∧ i39 = i56 ∧ 0 = 0)) ∧ (∃ a53 i54, H45.cell i36 (i37 + 5) = some (.slice a53 i54 0) ∧
 (a38 = a53 ∧ i39 = i54 ∧ 0 = 0)) ∧ True) ∧
 True) ∧
 ((∃ a29 i30, (H7.bump 13).cell i11 (i12 + 6) = some (.slice a29 i30 0) ∧
 (a13 = a29 ∧ i14 = i30 ∧ 0 = 0)) ∧ (∃ a27 i28, H19.cell i11 (i12 + 6) = some (.slice a27 i28 0) ∧
 (a13 = a27 ∧ i14 = i28 ∧ 0 = 0)) ∧ True) ∧
 True)
 else (
 AS.asAddr (.pointer x0) fun i57 i58 =>
 ∃ n59, H7.cell i57 i58 = some (.int .i64 n59) ∧
 bif (n59 == 5) then (
 AS.asAddr (.pointer x0) fun i60 i61 =>
 ∃ a62 i63, (H7.bump 13).cell i60 (i61 + 6) = some (.slice a62 i63 0) ∧
 inB 0 x2l ∧
 asRow x2 fun i64 i65 =>
 ∃ n66, (H7.bump 13).cell i64 i65 = some (.int .u64 n66) ∧
 nwH (H7.bump 13) (.cells true 1 [(.int .u64 n66)]) fun i67 H68 =>
 ∃ l69, rowOf H68 1 (some ⟨i67, 0, none⟩) 1 = some l69 ∧
 apd H68 8 1 a62 i63 1 l69 fun a70 i71 H72 =>
 AS.asAddr (.pointer x0) fun i73 i74 =>
 stc H72 i73 (i74 + 6) [(.slice a70 i71 0)] fun H75 =>
 (
 AS.asAddr (.pointer x0) fun i80 i81 =>
 ∃ a82 i83, H75.cell i80 (i81 + 6) = some (.slice a82 i83 0) ∧
 stc H75 i5 2 [(.int .i64 ((i83 : Nat) : Int))] fun H84 =>
 AS.asAddr (.pointer x0) fun i85 i86 =>
 ∃ a87 i88, (H84.bump 11).cell i85 (i86 + 5) = some (.slice a87 i88 0) ∧
 ∃ n89, ∃ a90 i91, ∃ n92, (H84.bump 11).cellsAt i5 0 3 = some [(.int .u64 n89), (.slice a90 i91 0), (.int .i64 n92)] ∧
 nwH (H84.bump 11) (.cells true 3 [(.int .u64 n89), (.slice a90 i91 0), (.int .i64 n92)]) fun i93 H94 =>
 ∃ l95, rowOf H94 3 (some ⟨i93, 0, none⟩) 1 = some l95 ∧
 apd H94 40 3 a87 i88 1 l95 fun a96 i97 H98 =>
 AS.asAddr (.pointer x0) fun i99 i100 =>
 stc H98 i99 (i100 + 5) [(.slice a96 i97 0)] fun H101 =>
 (
 R undef H101) ∧
 ((∃ a104 i105, (H84.bump 11).cell i85 (i86 + 5) = some (.slice a104 i105 0) ∧
 (a87 = a104 ∧ i88 = i105 ∧ 0 = 0)) ∧ (∃ a102 i103, H94.cell i85 (i86 + 5) = some (.slice a102 i103 0) ∧
 (a87 = a102 ∧ i88 = i103 ∧ 0 = 0)) ∧ True) ∧
 True) ∧
 ((∃ a78 i79, (H7.bump 13).cell i60 (i61 + 6) = some (.slice a78 i79 0) ∧
 (a62 = a78 ∧ i63 = i79 ∧ 0 = 0)) ∧ (∃ a76 i77, H68.cell i60 (i61 + 6) = some (.slice a76 i77 0) ∧
 (a62 = a76 ∧ i63 = i77 ∧ 0 = 0)) ∧ True) ∧
 True)
 else (
 AS.asAddr (.pointer x0) fun i106 i107 =>
 ∃ a108 i109, (H7.bump 11).cell i106 (i107 + 5) = some (.slice a108 i109 0) ∧
 ∃ n110, ∃ a111 i112, ∃ n113, (H7.bump 11).cellsAt i5 0 3 = some [(.int .u64 n110), (.slice a111 i112 0), (.int .i64 n113)] ∧
 nwH (H7.bump 11) (.cells true 3 [(.int .u64 n110), (.slice a111 i112 0), (.int .i64 n113)]) fun i114 H115 =>
 ∃ l116, rowOf H115 3 (some ⟨i114, 0, none⟩) 1 = some l116 ∧
 apd H115 40 3 a108 i109 1 l116 fun a117 i118 H119 =>
 AS.asAddr (.pointer x0) fun i120 i121 =>
 stc H119 i120 (i121 + 5) [(.slice a117 i118 0)] fun H122 =>
 (
 R undef H122) ∧
 ((∃ a125 i126, (H7.bump 11).cell i106 (i107 + 5) = some (.slice a125 i126 0) ∧
 (a108 = a125 ∧ i109 = i126 ∧ 0 = 0)) ∧ (∃ a123 i124, H115.cell i106 (i107 + 5) = some (.slice a123 i124 0) ∧
 (a108 = a123 ∧ i109 = i124 ∧ 0 = 0)) ∧ True) ∧
 True))) →
    CA en F.crossbarref11_Map_laid [(.pointer x0), (.int .u64 x1), (.slice x2 x2l 0)] H R := by
  intro h
  refine wpFn_ok (Z := []) (fn := Go.Proofs.Tryz.f79) ?_ ?_ ?_
  · kernel_rfl
  · kernel_rfl
  · apply turnInto h
    kernel_rfl

end Go.Proofs.YtgpacebjbdhphaaGreat
