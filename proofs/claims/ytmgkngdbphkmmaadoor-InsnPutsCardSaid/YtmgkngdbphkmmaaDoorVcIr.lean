/-
  What functions of this seat's program need (printed by a program, checked by the kernel).
-/
import Derived.Test.YtmgkngdbphkmmaaDoorNames
import Derived.Test.YtmgkngdbphkmmaaDoorAs41
namespace Go.Proofs.YtmgkngdbphkmmaaDoor
open Go Go.AS Go.RowKit
set_option linter.unusedVariables false
set_option maxRecDepth 100000

/-! crossbarref02_Put -/
noncomputable def L_crossbarref02_Put_0 : Code := loopAt Go.Proofs.Tryd.f15 0

theorem vc_crossbarref02_Put (x0 : Option Addr) (x0l : Nat) (H : Heap) (R : Value → Heap → Prop) :
    (
 bif (decide (((x0l : Nat) : Int) > 256)) then (
 R (.tuple #[(.slice none 0 0), (.int .i64 19)]) H)
 else (
 LA en L_crossbarref02_Put_0 [(.slice x0 x0l 0), undef, (.slice none 0 0), (.int .i64 0), (.slice none 0 0), (.int .i64 0), undef, undef, undef, (.slice x0 x0l 0), (.int .i64 ((x0l : Nat) : Int)), (.bool false), undef, undef, undef, undef, undef, undef, undef, undef, undef, undef, undef, undef, undef, undef, undef, undef, undef, undef, undef, undef, undef, undef, undef, undef, undef, undef, undef, undef, undef, undef, undef, undef, undef, undef, undef, undef, undef, undef, undef, undef, undef, undef, undef, undef, undef, undef, undef, undef, undef, undef, undef, undef, undef, undef, undef, undef] H [(X.exit 0, fun (y1 : Fr) (H2 : Heap) =>
 asSl (y1.getD 2 undef) fun a3 i4 =>
 AS.asInt .i64 (y1.getD 3 undef) fun n5 =>
 asSl (y1.getD 4 undef) fun a6 i7 =>
 R (.tuple #[(.slice a6 i7 0), (.int .i64 0)]) H2),
 (X.ret, fun (y8 : Fr) (H9 : Heap) =>
 asSl (y8.getD 2 undef) fun a10 i11 =>
 AS.asInt .i64 (y8.getD 3 undef) fun n12 =>
 asSl (y8.getD 4 undef) fun a13 i14 =>
 R (.tuple #[(.slice a10 i11 0), (.int .i64 n12)]) H9)])) →
    CA en F.crossbarref02_Put [(.slice x0 x0l 0)] H R := by
  intro h
  refine wpFn_ok (Z := [[(2, (.slice none 0 0)), (3, (.int .i64 0)), (4, (.slice none 0 0))]]) (fn := Go.Proofs.Tryd.f15) ?_ ?_ ?_
  · kernel_rfl
  · kernel_rfl
  · apply turnInto h
    kernel_rfl

theorem use_crossbarref02_Put_0 {t0 : Option Addr} {t0l : Nat} {t9 : Option Addr} {t9l : Nat} {t10 : Int} {K0 : Fr → Heap → Prop} {K1 : Fr → Heap → Prop} {t2 : Option Addr} {t2l : Nat} {t3 : Int} {t4 : Option Addr} {t4l : Nat} {t5 : Int} {t6 : Value} {t7 : Value} {t8 : Value} {t12 : Value} {t13 : Value} {t14 : Value} {t15 : Value} {t16 : Value} {t17 : Value} {t18 : Value} {t19 : Value} {t20 : Value} {t21 : Value} {t22 : Value} {t23 : Value} {t24 : Value} {t25 : Value} {t26 : Value} {t27 : Value} {t28 : Value} {t29 : Value} {t30 : Value} {t31 : Value} {t32 : Value} {t33 : Value} {t34 : Value} {t35 : Value} {t36 : Value} {t37 : Value} {t38 : Value} {t39 : Value} {t40 : Value} {t41 : Value} {t42 : Value} {t43 : Value} {t44 : Value} {t45 : Value} {t46 : Value} {t47 : Value} {t48 : Value} {t49 : Value} {t50 : Value} {t51 : Value} {t52 : Value} {t53 : Value} {t54 : Value} {t55 : Value} {t56 : Value} {t57 : Value} {t58 : Value} {t59 : Value} {t60 : Value} {t61 : Value} {t62 : Value} {t63 : Value} {t64 : Value} {t65 : Value} {t66 : Value} {H : Heap} (I : Nat → Option Addr → Nat → Int → Option Addr → Nat → Int → Heap → Prop) (n : Nat) (h0 : I n t2 t2l t3 t4 t4l t5 H)
    (hstep : ∀ (n : Nat) (t2 : Option Addr) (t2l : Nat) (t3 : Int) (t4 : Option Addr) (t4l : Nat) (t5 : Int) (ys : Fr) (H : Heap), I n t2 t2l t3 t4 t4l t5 H →
    (
 bif (decide (t5 < ((t0l : Nat) : Int))) then (
 inB t5 t0l ∧
 asRow t0 fun i1 i2 =>
 ∃ n3, ∃ n4, ∃ n5, ∃ n6, ∃ n7, H.cellsAt i1 (i2 + (t5.toNat * 5)) 5 = some [(.int .i64 n3), (.int .i64 n4), (.int .i64 n5), (.int .i64 n6), (.int .i64 n7)] ∧
 nwH H (.cells true 0 [(.int .i64 0), (.int .i64 0), (.int .i64 0), (.int .i64 0), (.int .i64 0)]) fun i8 H9 =>
 stc H9 i8 0 [(.int .i64 n3), (.int .i64 n4), (.int .i64 n5), (.int .i64 n6), (.int .i64 n7)] fun H10 =>
 ∃ n11, ∃ n12, ∃ n13, ∃ n14, ∃ n15, H10.cellsAt i8 0 5 = some [(.int .i64 n11), (.int .i64 n12), (.int .i64 n13), (.int .i64 n14), (.int .i64 n15)] ∧
 CA en F.crossbarref02_Check [(.agg #[(.int .i64 n11), (.int .i64 n12), (.int .i64 n13), (.int .i64 n14), (.int .i64 n15)])] H10 fun v16 H17 =>
 ∃ n18, v16 = (.int .i64 n18) ∧
 bif (n18 != 0) then (
 K1 [(.slice t0 t0l 0), undef, (.slice none 0 0), (.int .i64 n18), (.slice t4 t4l 0), (.int .i64 t5), (.pointer (some ⟨i8, 0, none⟩)), (.int .i64 n18), (ys.getD 8 undef), (.slice t9 t9l 0), (.int .i64 t10), (.bool false), (.int .i64 t5), (.slice t0 t0l 0), (.int .i64 ((t0l : Nat) : Int)), (.bool true), (ys.getD 16 undef), (ys.getD 17 undef), (.slice t0 t0l 0), (.int .i64 t5), (.pointer (some ⟨i1, (i2 + (t5.toNat * 5)), none⟩)), (.agg #[(.int .i64 n3), (.int .i64 n4), (.int .i64 n5), (.int .i64 n6), (.int .i64 n7)]), (.agg #[(.int .i64 n11), (.int .i64 n12), (.int .i64 n13), (.int .i64 n14), (.int .i64 n15)]), (.int .i64 n18), (.int .i64 n18), (.bool true), (.int .i64 n18), (ys.getD 27 undef), (ys.getD 28 undef), (ys.getD 29 undef), (ys.getD 30 undef), (ys.getD 31 undef), (ys.getD 32 undef), (ys.getD 33 undef), (ys.getD 34 undef), (ys.getD 35 undef), (ys.getD 36 undef), (ys.getD 37 undef), (ys.getD 38 undef), (ys.getD 39 undef), (ys.getD 40 undef), (ys.getD 41 undef), (ys.getD 42 undef), (ys.getD 43 undef), (ys.getD 44 undef), (ys.getD 45 undef), (ys.getD 46 undef), (ys.getD 47 undef), (ys.getD 48 undef), (ys.getD 49 undef), (ys.getD 50 undef), (ys.getD 51 undef), (ys.getD 52 undef), (ys.getD 53 undef), (ys.getD 54 undef), (ys.getD 55 undef), (ys.getD 56 undef), (ys.getD 57 undef), (ys.getD 58 undef), (ys.getD 59 undef), (ys.getD 60 undef), (ys.getD 61 undef), (ys.getD 62 undef), (ys.getD 63 undef), (ys.getD 64 undef), (ys.getD 65 undef), (ys.getD 66 undef), undef] H17)
 else (
 ∃ n19, H17.cell i8 0 = some (.int .i64 n19) ∧
 ∃ n20, H17.cell i8 1 = some (.int .i64 n20) ∧
 ∃ n21, H17.cell i8 2 = some (.int .i64 n21) ∧
 nwH H17 (.cells true 1 [(.int .u8 (IntKind.u8.wrap n19)), (.int .u8 (IntKind.u8.wrap (IntKind.i64.wrap (n20 + (IntKind.i64.wrap (16 * n21))))))]) fun i22 H23 =>
 ∃ l24, rowOf H23 1 (some ⟨i22, 0, none⟩) 2 = some l24 ∧
 apd H23 1 1 t4 t4l 2 l24 fun a25 i26 H27 =>
 ∃ n28, H27.cell i8 3 = some (.int .i64 n28) ∧
 CA en F.crossbarref02_laid [(.int .i64 n28), (.int .i64 2)] H27 fun v29 H30 =>
 ∃ a31 i32, v29 = (.slice a31 i32 0) ∧
 ∃ l33, rowOf H30 1 a31 i32 = some l33 ∧
 apd H30 1 1 a25 i26 i32 l33 fun a34 i35 H36 =>
 ∃ n37, H36.cell i8 0 = some (.int .i64 n37) ∧
 bif (n37 != 24) then (
 ∃ n38, H36.cell i8 4 = some (.int .i64 n38) ∧
 CA en F.crossbarref02_laid [(.int .i64 n38), (.int .i64 4)] H36 fun v39 H40 =>
 ∃ a41 i42, v39 = (.slice a41 i42 0) ∧
 ∃ l43, rowOf H40 1 a41 i42 = some l43 ∧
 apd H40 1 1 a34 i35 i42 l43 fun a44 i45 H46 =>
 ∃ k47, k47 < n ∧
 I k47 t2 t2l t3 a44 i45 (IntKind.i64.wrap (t5 + 1)) H46)
 else (
 ∃ n48, H36.cell i8 4 = some (.int .i64 n48) ∧
 CA en F.crossbarref02_laid [(.int .i64 n48), (.int .i64 8)] H36 fun v49 H50 =>
 ∃ a51 i52, v49 = (.slice a51 i52 0) ∧
 inS 4 i52 ∧
 slK H50 a51 1 0 4 fun v53 =>
 AS.asSlice v53 fun a54 i55 =>
 ∃ l56, rowOf H50 1 a54 i55 = some l56 ∧
 apd H50 1 1 a34 i35 i55 l56 fun a57 i58 H59 =>
 nwH H59 (.cells true 1 [(.int .u8 0), (.int .u8 0), (.int .u8 0), (.int .u8 0)]) fun i60 H61 =>
 ∃ l62, rowOf H61 1 (some ⟨i60, 0, none⟩) 4 = some l62 ∧
 apd H61 1 1 a57 i58 4 l62 fun a63 i64 H65 =>
 inS 4 i52 ∧
 slK H65 a51 1 4 (i52 - 4) fun v66 =>
 AS.asSlice v66 fun a67 i68 =>
 ∃ l69, rowOf H65 1 a67 i68 = some l69 ∧
 apd H65 1 1 a63 i64 i68 l69 fun a70 i71 H72 =>
 ∃ k73, k73 < n ∧
 I k73 t2 t2l t3 a70 i71 (IntKind.i64.wrap (t5 + 1)) H72)))
 else (
 K0 [(.slice t0 t0l 0), undef, (.slice t2 t2l 0), (.int .i64 t3), (.slice t4 t4l 0), (.int .i64 t5), (ys.getD 6 undef), (ys.getD 7 undef), (ys.getD 8 undef), (.slice t9 t9l 0), (.int .i64 t10), (.bool false), (.int .i64 t5), (.slice t0 t0l 0), (.int .i64 ((t0l : Nat) : Int)), (.bool false), (ys.getD 16 undef), (ys.getD 17 undef), (ys.getD 18 undef), (ys.getD 19 undef), (ys.getD 20 undef), (ys.getD 21 undef), (ys.getD 22 undef), (ys.getD 23 undef), (ys.getD 24 undef), (ys.getD 25 undef), (ys.getD 26 undef), (ys.getD 27 undef), (ys.getD 28 undef), (ys.getD 29 undef), (ys.getD 30 undef), (ys.getD 31 undef), (ys.getD 32 undef), (ys.getD 33 undef), (ys.getD 34 undef), (ys.getD 35 undef), (ys.getD 36 undef), (ys.getD 37 undef), (ys.getD 38 undef), (ys.getD 39 undef), (ys.getD 40 undef), (ys.getD 41 undef), (ys.getD 42 undef), (ys.getD 43 undef), (ys.getD 44 undef), (ys.getD 45 undef), (ys.getD 46 undef), (ys.getD 47 undef), (ys.getD 48 undef), (ys.getD 49 undef), (ys.getD 50 undef), (ys.getD 51 undef), (ys.getD 52 undef), (ys.getD 53 undef), (ys.getD 54 undef), (ys.getD 55 undef), (ys.getD 56 undef), (ys.getD 57 undef), (ys.getD 58 undef), (ys.getD 59 undef), (ys.getD 60 undef), (ys.getD 61 undef), (ys.getD 62 undef), (ys.getD 63 undef), (ys.getD 64 undef), (ys.getD 65 undef), (ys.getD 66 undef), undef] H))) :
    LA en L_crossbarref02_Put_0 [(.slice t0 t0l 0), undef, (.slice t2 t2l 0), (.int .i64 t3), (.slice t4 t4l 0), (.int .i64 t5), t6, t7, t8, (.slice t9 t9l 0), (.int .i64 t10), (.bool false), t12, t13, t14, t15, t16, t17, t18, t19, t20, t21, t22, t23, t24, t25, t26, t27, t28, t29, t30, t31, t32, t33, t34, t35, t36, t37, t38, t39, t40, t41, t42, t43, t44, t45, t46, t47, t48, t49, t50, t51, t52, t53, t54, t55, t56, t57, t58, t59, t60, t61, t62, t63, t64, t65, t66, undef] H [(X.exit 0, K0), (X.ret, K1)] := by
  refine LA_rule (Z := []) (fun m xs H' => asSl (xs.getD 2 undef) fun t2 t2l => AS.asInt .i64 (xs.getD 3 undef) fun t3 => asSl (xs.getD 4 undef) fun t4 t4l => AS.asInt .i64 (xs.getD 5 undef) fun t5 => I m t2 t2l t3 t4 t4l t5 H') ?_ n H ?_
  · intro n H
    suffices hs : ∀ s12 : Value, ∀ s13 : Value, ∀ s14 : Value, ∀ s15 : Value, ∀ s18 : Value, ∀ s19 : Value, ∀ s20 : Value, ∀ s21 : Value, ∀ s6 : Value, ∀ s22 : Value, ∀ s23 : Value, ∀ s7 : Value, ∀ s24 : Value, ∀ s25 : Value, ∀ s26 : Value, ∀ s2 : Value, ∀ s3 : Value, ∀ s27 : Value, ∀ s28 : Value, ∀ s29 : Value, ∀ s30 : Value, ∀ s31 : Value, ∀ s32 : Value, ∀ s33 : Value, ∀ s34 : Value, ∀ s35 : Value, ∀ s36 : Value, ∀ s37 : Value, ∀ s38 : Value, ∀ s39 : Value, ∀ s4 : Value, ∀ s40 : Value, ∀ s41 : Value, ∀ s42 : Value, ∀ s43 : Value, ∀ s44 : Value, ∀ s45 : Value, ∀ s46 : Value, ∀ s47 : Value, ∀ s48 : Value, ∀ s49 : Value, ∀ s50 : Value, ∀ s51 : Value, ∀ s52 : Value, ∀ s53 : Value, ∀ s54 : Value, ∀ s55 : Value, ∀ s8 : Value, ∀ s56 : Value, ∀ s57 : Value, ∀ s58 : Value, ∀ s59 : Value, ∀ s60 : Value, ∀ s61 : Value, ∀ s62 : Value, ∀ s63 : Value, ∀ s64 : Value, ∀ s65 : Value, ∀ s66 : Value, ∀ s16 : Value, ∀ s17 : Value, ∀ s5 : Value, ((asSl s2 fun t2 t2l => AS.asInt .i64 s3 fun t3 => asSl s4 fun t4 t4l => AS.asInt .i64 s5 fun t5 => I n t2 t2l t3 t4 t4l t5 H) → wpCode en L_crossbarref02_Put_0 [] [(.slice t0 t0l 0), undef, s2, s3, s4, s5, s6, s7, s8, (.slice t9 t9l 0), (.int .i64 t10), (.bool false), s12, s13, s14, s15, s16, s17, s18, s19, s20, s21, s22, s23, s24, s25, s26, s27, s28, s29, s30, s31, s32, s33, s34, s35, s36, s37, s38, s39, s40, s41, s42, s43, s44, s45, s46, s47, s48, s49, s50, s51, s52, s53, s54, s55, s56, s57, s58, s59, s60, s61, s62, s63, s64, s65, s66, undef] H (loopQ (fun m xs H' => asSl (xs.getD 2 undef) fun t2 t2l => AS.asInt .i64 (xs.getD 3 undef) fun t3 => asSl (xs.getD 4 undef) fun t4 t4l => AS.asInt .i64 (xs.getD 5 undef) fun t5 => I m t2 t2l t3 t4 t4l t5 H') n [(X.exit 0, K0), (X.ret, K1)])) by
      apply turnInto hs
      kernel_rfl
    intro s12 s13 s14 s15 s18 s19 s20 s21 s6 s22 s23 s7 s24 s25 s26 s2 s3 s27 s28 s29 s30 s31 s32 s33 s34 s35 s36 s37 s38 s39 s4 s40 s41 s42 s43 s44 s45 s46 s47 s48 s49 s50 s51 s52 s53 s54 s55 s8 s56 s57 s58 s59 s60 s61 s62 s63 s64 s65 s66 s16 s17 s5 hP
    replace hP := asSl_elim hP
    obtain ⟨t2, t2l, rfl, hP⟩ := hP
    replace hP := asInt_elim hP
    obtain ⟨t3, rfl, hP⟩ := hP
    replace hP := asSl_elim hP
    obtain ⟨t4, t4l, rfl, hP⟩ := hP
    replace hP := asInt_elim hP
    obtain ⟨t5, rfl, hP⟩ := hP
    apply turnInto (hstep n t2 t2l t3 t4 t4l t5 [(.slice t0 t0l 0), undef, (.slice t2 t2l 0), (.int .i64 t3), (.slice t4 t4l 0), (.int .i64 t5), s6, s7, s8, (.slice t9 t9l 0), (.int .i64 t10), (.bool false), s12, s13, s14, s15, s16, s17, s18, s19, s20, s21, s22, s23, s24, s25, s26, s27, s28, s29, s30, s31, s32, s33, s34, s35, s36, s37, s38, s39, s40, s41, s42, s43, s44, s45, s46, s47, s48, s49, s50, s51, s52, s53, s54, s55, s56, s57, s58, s59, s60, s61, s62, s63, s64, s65, s66, undef] H hP)
    kernel_rfl
  · apply turnInto h0
    kernel_rfl


/-! crossbarref02_Get -/
noncomputable def L_crossbarref02_Get_0 : Code := loopAt Go.Proofs.Tryd.f21 0

theorem vc_crossbarref02_Get (x0 : Option Addr) (x0l : Nat) (H : Heap) (R : Value → Heap → Prop) :
    (
 LA en L_crossbarref02_Get_0 [(.slice x0 x0l 0), undef, (.slice none 0 0), (.int .i64 0), (.slice none 0 0), (.int .i64 0), undef, undef, undef, undef, undef, undef, undef, undef, undef, undef, undef, undef, undef, undef, undef, undef, undef, undef, undef, undef, undef, undef, undef, undef, undef, undef, undef, undef, undef, undef, undef, undef, undef, undef, undef, undef, undef, undef, undef, undef, undef, undef, undef, undef, undef, undef, undef, undef, undef, undef, undef, undef, undef, undef, undef, undef, undef, undef, undef, undef, undef, undef, undef, undef, undef, undef, undef, undef, undef, undef, undef, undef, undef, undef, undef, undef, undef, undef, undef, undef, undef, undef, undef, undef, undef, undef, undef, undef, undef, undef, undef, undef, undef, undef, undef, undef, undef, undef, undef, undef, undef, undef, undef, undef, undef, undef, undef, undef, undef, undef, undef, undef, undef, undef, undef, undef, undef, undef, undef, undef] H [(X.exit 0, fun (y1 : Fr) (H2 : Heap) =>
 asSl (y1.getD 2 undef) fun a3 i4 =>
 AS.asInt .i64 (y1.getD 3 undef) fun n5 =>
 asSl (y1.getD 4 undef) fun a6 i7 =>
 R (.tuple #[(.slice a6 i7 0), (.int .i64 0)]) H2),
 (X.ret, fun (y8 : Fr) (H9 : Heap) =>
 asSl (y8.getD 2 undef) fun a10 i11 =>
 AS.asInt .i64 (y8.getD 3 undef) fun n12 =>
 asSl (y8.getD 4 undef) fun a13 i14 =>
 R (.tuple #[(.slice a10 i11 0), (.int .i64 n12)]) H9)]) →
    CA en F.crossbarref02_Get [(.slice x0 x0l 0)] H R := by
  intro h
  refine wpFn_ok (Z := [[(2, (.slice none 0 0)), (3, (.int .i64 0)), (4, (.slice none 0 0))]]) (fn := Go.Proofs.Tryd.f21) ?_ ?_ ?_
  · kernel_rfl
  · kernel_rfl
  · apply turnInto h
    kernel_rfl

theorem use_crossbarref02_Get_0 {t0 : Option Addr} {t0l : Nat} {K0 : Fr → Heap → Prop} {K1 : Fr → Heap → Prop} {t2 : Option Addr} {t2l : Nat} {t3 : Int} {t4 : Option Addr} {t4l : Nat} {t5 : Int} {t6 : Value} {t7 : Value} {t8 : Value} {t9 : Value} {t10 : Value} {t11 : Value} {t12 : Value} {t13 : Value} {t14 : Value} {t15 : Value} {t16 : Value} {t17 : Value} {t18 : Value} {t19 : Value} {t20 : Value} {t21 : Value} {t22 : Value} {t23 : Value} {t24 : Value} {t25 : Value} {t26 : Value} {t27 : Value} {t28 : Value} {t29 : Value} {t30 : Value} {t31 : Value} {t32 : Value} {t33 : Value} {t34 : Value} {t35 : Value} {t36 : Value} {t37 : Value} {t38 : Value} {t39 : Value} {t40 : Value} {t41 : Value} {t42 : Value} {t43 : Value} {t44 : Value} {t45 : Value} {t46 : Value} {t47 : Value} {t48 : Value} {t49 : Value} {t50 : Value} {t51 : Value} {t52 : Value} {t53 : Value} {t54 : Value} {t55 : Value} {t56 : Value} {t57 : Value} {t58 : Value} {t59 : Value} {t60 : Value} {t61 : Value} {t62 : Value} {t63 : Value} {t64 : Value} {t65 : Value} {t66 : Value} {t67 : Value} {t68 : Value} {t69 : Value} {t70 : Value} {t71 : Value} {t72 : Value} {t73 : Value} {t74 : Value} {t75 : Value} {t76 : Value} {t77 : Value} {t78 : Value} {t79 : Value} {t80 : Value} {t81 : Value} {t82 : Value} {t83 : Value} {t84 : Value} {t85 : Value} {t86 : Value} {t87 : Value} {t88 : Value} {t89 : Value} {t90 : Value} {t91 : Value} {t92 : Value} {t93 : Value} {t94 : Value} {t95 : Value} {t96 : Value} {t97 : Value} {t98 : Value} {t99 : Value} {t100 : Value} {t101 : Value} {t102 : Value} {t103 : Value} {t104 : Value} {t105 : Value} {t106 : Value} {t107 : Value} {t108 : Value} {t109 : Value} {t110 : Value} {t111 : Value} {t112 : Value} {t113 : Value} {t114 : Value} {t115 : Value} {t116 : Value} {t117 : Value} {t118 : Value} {t119 : Value} {t120 : Value} {t121 : Value} {t122 : Value} {t123 : Value} {t124 : Value} {H : Heap} (I : Nat → Option Addr → Nat → Int → Option Addr → Nat → Int → Heap → Prop) (n : Nat) (h0 : I n t2 t2l t3 t4 t4l t5 H)
    (hstep : ∀ (n : Nat) (t2 : Option Addr) (t2l : Nat) (t3 : Int) (t4 : Option Addr) (t4l : Nat) (t5 : Int) (ys : Fr) (H : Heap), I n t2 t2l t3 t4 t4l t5 H →
    (
 bif (decide (t5 < ((t0l : Nat) : Int))) then (
 bif (((t4l : Nat) : Int) == 256) then (
 K1 [(.slice t0 t0l 0), undef, (.slice none 0 0), (.int .i64 19), (.slice t4 t4l 0), (.int .i64 t5), (ys.getD 6 undef), (ys.getD 7 undef), (ys.getD 8 undef), (ys.getD 9 undef), (.int .i64 t5), (.slice t0 t0l 0), (.int .i64 ((t0l : Nat) : Int)), (.bool true), (.slice t4 t4l 0), (.int .i64 ((t4l : Nat) : Int)), (.bool true), (ys.getD 17 undef), (ys.getD 18 undef), (ys.getD 19 undef), (ys.getD 20 undef), (ys.getD 21 undef), (ys.getD 22 undef), (ys.getD 23 undef), (ys.getD 24 undef), (ys.getD 25 undef), (ys.getD 26 undef), (ys.getD 27 undef), (ys.getD 28 undef), (ys.getD 29 undef), (ys.getD 30 undef), (ys.getD 31 undef), (ys.getD 32 undef), (ys.getD 33 undef), (ys.getD 34 undef), (ys.getD 35 undef), (ys.getD 36 undef), (ys.getD 37 undef), (ys.getD 38 undef), (ys.getD 39 undef), (ys.getD 40 undef), (ys.getD 41 undef), (ys.getD 42 undef), (ys.getD 43 undef), (ys.getD 44 undef), (ys.getD 45 undef), (ys.getD 46 undef), (ys.getD 47 undef), (ys.getD 48 undef), (ys.getD 49 undef), (ys.getD 50 undef), (ys.getD 51 undef), (ys.getD 52 undef), (ys.getD 53 undef), (ys.getD 54 undef), (ys.getD 55 undef), (ys.getD 56 undef), (ys.getD 57 undef), (ys.getD 58 undef), (ys.getD 59 undef), (ys.getD 60 undef), (ys.getD 61 undef), (ys.getD 62 undef), (ys.getD 63 undef), (ys.getD 64 undef), (ys.getD 65 undef), (ys.getD 66 undef), (ys.getD 67 undef), (ys.getD 68 undef), (ys.getD 69 undef), (ys.getD 70 undef), (ys.getD 71 undef), (ys.getD 72 undef), (ys.getD 73 undef), (ys.getD 74 undef), (ys.getD 75 undef), (ys.getD 76 undef), (ys.getD 77 undef), (ys.getD 78 undef), (ys.getD 79 undef), (ys.getD 80 undef), (ys.getD 81 undef), (ys.getD 82 undef), (ys.getD 83 undef), (ys.getD 84 undef), (ys.getD 85 undef), (ys.getD 86 undef), (ys.getD 87 undef), (ys.getD 88 undef), (ys.getD 89 undef), (ys.getD 90 undef), (ys.getD 91 undef), (ys.getD 92 undef), (ys.getD 93 undef), (ys.getD 94 undef), (ys.getD 95 undef), (ys.getD 96 undef), (ys.getD 97 undef), (ys.getD 98 undef), (ys.getD 99 undef), (ys.getD 100 undef), (ys.getD 101 undef), (ys.getD 102 undef), (ys.getD 103 undef), (ys.getD 104 undef), (ys.getD 105 undef), (ys.getD 106 undef), (ys.getD 107 undef), (ys.getD 108 undef), (ys.getD 109 undef), (ys.getD 110 undef), (ys.getD 111 undef), (ys.getD 112 undef), (ys.getD 113 undef), (ys.getD 114 undef), (ys.getD 115 undef), (ys.getD 116 undef), (ys.getD 117 undef), (ys.getD 118 undef), (ys.getD 119 undef), (ys.getD 120 undef), (ys.getD 121 undef), (ys.getD 122 undef), (ys.getD 123 undef), (ys.getD 124 undef), undef] H)
 else (
 bif (decide ((IntKind.i64.wrap (((t0l : Nat) : Int) - t5)) < 8)) then (
 K1 [(.slice t0 t0l 0), undef, (.slice none 0 0), (.int .i64 20), (.slice t4 t4l 0), (.int .i64 t5), (.int .i64 (IntKind.i64.wrap (((t0l : Nat) : Int) - t5))), (ys.getD 7 undef), (ys.getD 8 undef), (ys.getD 9 undef), (.int .i64 t5), (.slice t0 t0l 0), (.int .i64 ((t0l : Nat) : Int)), (.bool true), (.slice t4 t4l 0), (.int .i64 ((t4l : Nat) : Int)), (.bool false), (.slice t0 t0l 0), (.int .i64 ((t0l : Nat) : Int)), (.int .i64 t5), (.int .i64 (IntKind.i64.wrap (((t0l : Nat) : Int) - t5))), (.int .i64 (IntKind.i64.wrap (((t0l : Nat) : Int) - t5))), (.bool (decide ((IntKind.i64.wrap (((t0l : Nat) : Int) - t5)) < 8))), (.bool true), undef, undef, undef, undef, undef, undef, undef, undef, undef, (.bool true), (ys.getD 34 undef), (ys.getD 35 undef), (ys.getD 36 undef), (ys.getD 37 undef), (ys.getD 38 undef), (ys.getD 39 undef), (ys.getD 40 undef), (ys.getD 41 undef), (ys.getD 42 undef), (ys.getD 43 undef), (ys.getD 44 undef), (ys.getD 45 undef), (ys.getD 46 undef), (ys.getD 47 undef), (ys.getD 48 undef), (ys.getD 49 undef), (ys.getD 50 undef), (ys.getD 51 undef), (ys.getD 52 undef), (ys.getD 53 undef), (ys.getD 54 undef), (ys.getD 55 undef), (ys.getD 56 undef), (ys.getD 57 undef), (ys.getD 58 undef), (ys.getD 59 undef), (ys.getD 60 undef), (ys.getD 61 undef), (ys.getD 62 undef), (ys.getD 63 undef), (ys.getD 64 undef), (ys.getD 65 undef), (ys.getD 66 undef), (ys.getD 67 undef), (ys.getD 68 undef), (ys.getD 69 undef), (ys.getD 70 undef), (ys.getD 71 undef), (ys.getD 72 undef), (ys.getD 73 undef), (ys.getD 74 undef), (ys.getD 75 undef), (ys.getD 76 undef), (ys.getD 77 undef), (ys.getD 78 undef), (ys.getD 79 undef), (ys.getD 80 undef), (ys.getD 81 undef), (ys.getD 82 undef), (ys.getD 83 undef), (ys.getD 84 undef), (ys.getD 85 undef), (ys.getD 86 undef), (ys.getD 87 undef), (ys.getD 88 undef), (ys.getD 89 undef), (ys.getD 90 undef), (ys.getD 91 undef), (ys.getD 92 undef), (ys.getD 93 undef), (ys.getD 94 undef), (ys.getD 95 undef), (ys.getD 96 undef), (ys.getD 97 undef), (ys.getD 98 undef), (ys.getD 99 undef), (ys.getD 100 undef), (ys.getD 101 undef), (ys.getD 102 undef), (ys.getD 103 undef), (ys.getD 104 undef), (ys.getD 105 undef), (ys.getD 106 undef), (ys.getD 107 undef), (ys.getD 108 undef), (ys.getD 109 undef), (ys.getD 110 undef), (ys.getD 111 undef), (ys.getD 112 undef), (ys.getD 113 undef), (ys.getD 114 undef), (ys.getD 115 undef), (ys.getD 116 undef), (ys.getD 117 undef), (ys.getD 118 undef), (ys.getD 119 undef), (ys.getD 120 undef), (ys.getD 121 undef), (ys.getD 122 undef), (ys.getD 123 undef), (ys.getD 124 undef), undef] H)
 else (
 inB t5 t0l ∧
 asRow t0 fun i1 i2 =>
 ∃ n3, H.cell i1 (i2 + (t5.toNat * 1)) = some (.int .u8 n3) ∧
 bif (n3 == 24) then (
 bif (decide ((IntKind.i64.wrap (((t0l : Nat) : Int) - t5)) < 16)) then (
 K1 [(.slice t0 t0l 0), undef, (.slice none 0 0), (.int .i64 20), (.slice t4 t4l 0), (.int .i64 t5), (.int .i64 (IntKind.i64.wrap (((t0l : Nat) : Int) - t5))), (ys.getD 7 undef), (ys.getD 8 undef), (ys.getD 9 undef), (.int .i64 t5), (.slice t0 t0l 0), (.int .i64 ((t0l : Nat) : Int)), (.bool true), (.slice t4 t4l 0), (.int .i64 ((t4l : Nat) : Int)), (.bool false), (.slice t0 t0l 0), (.int .i64 ((t0l : Nat) : Int)), (.int .i64 t5), (.int .i64 (IntKind.i64.wrap (((t0l : Nat) : Int) - t5))), (.int .i64 (IntKind.i64.wrap (((t0l : Nat) : Int) - t5))), (.bool (decide ((IntKind.i64.wrap (((t0l : Nat) : Int) - t5)) < 8))), (.bool false), (.slice t0 t0l 0), (.int .i64 t5), (.pointer (some ⟨i1, (i2 + (t5.toNat * 1)), none⟩)), (.int .u8 n3), (.bool (n3 == 24)), (.bool true), (.int .i64 (IntKind.i64.wrap (((t0l : Nat) : Int) - t5))), (.bool (decide ((IntKind.i64.wrap (((t0l : Nat) : Int) - t5)) < 16))), (.bool (decide ((IntKind.i64.wrap (((t0l : Nat) : Int) - t5)) < 16))), (.bool true), (ys.getD 34 undef), (ys.getD 35 undef), (ys.getD 36 undef), (ys.getD 37 undef), (ys.getD 38 undef), (ys.getD 39 undef), (ys.getD 40 undef), (ys.getD 41 undef), (ys.getD 42 undef), (ys.getD 43 undef), (ys.getD 44 undef), (ys.getD 45 undef), (ys.getD 46 undef), (ys.getD 47 undef), (ys.getD 48 undef), (ys.getD 49 undef), (ys.getD 50 undef), (ys.getD 51 undef), (ys.getD 52 undef), (ys.getD 53 undef), (ys.getD 54 undef), (ys.getD 55 undef), (ys.getD 56 undef), (ys.getD 57 undef), (ys.getD 58 undef), (ys.getD 59 undef), (ys.getD 60 undef), (ys.getD 61 undef), (ys.getD 62 undef), (ys.getD 63 undef), (ys.getD 64 undef), (ys.getD 65 undef), (ys.getD 66 undef), (ys.getD 67 undef), (ys.getD 68 undef), (ys.getD 69 undef), (ys.getD 70 undef), (ys.getD 71 undef), (ys.getD 72 undef), (ys.getD 73 undef), (ys.getD 74 undef), (ys.getD 75 undef), (ys.getD 76 undef), (ys.getD 77 undef), (ys.getD 78 undef), (ys.getD 79 undef), (ys.getD 80 undef), (ys.getD 81 undef), (ys.getD 82 undef), (ys.getD 83 undef), (ys.getD 84 undef), (ys.getD 85 undef), (ys.getD 86 undef), (ys.getD 87 undef), (ys.getD 88 undef), (ys.getD 89 undef), (ys.getD 90 undef), (ys.getD 91 undef), (ys.getD 92 undef), (ys.getD 93 undef), (ys.getD 94 undef), (ys.getD 95 undef), (ys.getD 96 undef), (ys.getD 97 undef), (ys.getD 98 undef), (ys.getD 99 undef), (ys.getD 100 undef), (ys.getD 101 undef), (ys.getD 102 undef), (ys.getD 103 undef), (ys.getD 104 undef), (ys.getD 105 undef), (ys.getD 106 undef), (ys.getD 107 undef), (ys.getD 108 undef), (ys.getD 109 undef), (ys.getD 110 undef), (ys.getD 111 undef), (ys.getD 112 undef), (ys.getD 113 undef), (ys.getD 114 undef), (ys.getD 115 undef), (ys.getD 116 undef), (ys.getD 117 undef), (ys.getD 118 undef), (ys.getD 119 undef), (ys.getD 120 undef), (ys.getD 121 undef), (ys.getD 122 undef), (ys.getD 123 undef), (ys.getD 124 undef), undef] H)
 else (
 inB t5 t0l ∧
 asRow t0 fun i4 i5 =>
 ∃ n6, ((H.bump 30).set (H.next + 28) (.cells true 0 [(.int .i64 0), (.int .i64 0), (.int .i64 0), (.int .i64 0), (.int .i64 0)])).cell i4 (i5 + (t5.toNat * 1)) = some (.int .u8 n6) ∧
 inB (IntKind.i64.wrap (t5 + 1)) t0l ∧
 asRow t0 fun i7 i8 =>
 ∃ n9, ((H.bump 30).set (H.next + 28) (.cells true 0 [(.int .i64 0), (.int .i64 0), (.int .i64 0), (.int .i64 0), (.int .i64 0)])).cell i7 (i8 + ((IntKind.i64.wrap (t5 + 1)).toNat * 1)) = some (.int .u8 n9) ∧
 nz 16 ∧
 inB (IntKind.i64.wrap (t5 + 1)) t0l ∧
 asRow t0 fun i10 i11 =>
 ∃ n12, ((H.bump 30).set (H.next + 28) (.cells true 0 [(.int .i64 0), (.int .i64 0), (.int .i64 0), (.int .i64 0), (.int .i64 0)])).cell i10 (i11 + ((IntKind.i64.wrap (t5 + 1)).toNat * 1)) = some (.int .u8 n12) ∧
 nz 16 ∧
 CA en F.crossbarref02_signed [(.slice t0 t0l 0), (.int .i64 (IntKind.i64.wrap (t5 + 2))), (.int .i64 2)] ((H.bump 30).set (H.next + 28) (.cells true 0 [(.int .i64 0), (.int .i64 0), (.int .i64 0), (.int .i64 0), (.int .i64 0)])) fun v13 H14 =>
 ∃ n15, v13 = (.int .i64 n15) ∧
 CA en F.crossbarref02_signed [(.slice t0 t0l 0), (.int .i64 (IntKind.i64.wrap (t5 + 4))), (.int .i64 4)] H14 fun v16 H17 =>
 ∃ n18, v16 = (.int .i64 n18) ∧
 stc H17 (H.next + 28) 0 [(.int .i64 (IntKind.i64.wrap n6)), (.int .i64 (Int.tmod (IntKind.i64.wrap n9) 16)), (.int .i64 (IntKind.i64.wrap (Int.tdiv (IntKind.i64.wrap n12) 16))), (.int .i64 n15), (.int .i64 n18)] fun H19 =>
 (
 ∃ n32, H19.cell (H.next + 28) 0 = some (.int .i64 n32) ∧
 bif (n32 == 24) then (
 inB (IntKind.i64.wrap (t5 + 8)) t0l ∧
 asRow t0 fun i33 i34 =>
 ∃ n35, H19.cell i33 (i34 + ((IntKind.i64.wrap (t5 + 8)).toNat * 1)) = some (.int .u8 n35) ∧
 bif (n35 != 0) then (
 K1 [(.slice t0 t0l 0), undef, (.slice none 0 0), (.int .i64 9), (.slice t4 t4l 0), (.int .i64 (IntKind.i64.wrap (t5 + 8))), (.int .i64 (IntKind.i64.wrap (((t0l : Nat) : Int) - t5))), (.pointer (some ⟨(H.next + 28), 0, none⟩)), (ys.getD 8 undef), (ys.getD 9 undef), (.int .i64 t5), (.slice t0 t0l 0), (.int .i64 ((t0l : Nat) : Int)), (.bool true), (.slice t4 t4l 0), (.int .i64 ((t4l : Nat) : Int)), (.bool false), (.slice t0 t0l 0), (.int .i64 ((t0l : Nat) : Int)), (.int .i64 t5), (.int .i64 (IntKind.i64.wrap (((t0l : Nat) : Int) - t5))), (.int .i64 (IntKind.i64.wrap (((t0l : Nat) : Int) - t5))), (.bool (decide ((IntKind.i64.wrap (((t0l : Nat) : Int) - t5)) < 8))), (.bool false), (.slice t0 t0l 0), (.int .i64 t5), (.pointer (some ⟨i1, (i2 + (t5.toNat * 1)), none⟩)), (.int .u8 n3), (.bool (n3 == 24)), (.bool true), (.int .i64 (IntKind.i64.wrap (((t0l : Nat) : Int) - t5))), (.bool (decide ((IntKind.i64.wrap (((t0l : Nat) : Int) - t5)) < 16))), (.bool (decide ((IntKind.i64.wrap (((t0l : Nat) : Int) - t5)) < 16))), (.bool false), (.slice t0 t0l 0), (.int .i64 t5), (.pointer (some ⟨i4, (i5 + (t5.toNat * 1)), none⟩)), (.int .u8 n6), (.int .i64 (IntKind.i64.wrap n6)), (.slice t0 t0l 0), (.int .i64 t5), (.int .i64 (IntKind.i64.wrap (t5 + 1))), (.pointer (some ⟨i7, (i8 + ((IntKind.i64.wrap (t5 + 1)).toNat * 1)), none⟩)), (.int .u8 n9), (.int .i64 (IntKind.i64.wrap n9)), (.int .i64 (Int.tmod (IntKind.i64.wrap n9) 16)), (.slice t0 t0l 0), (.int .i64 t5), (.int .i64 (IntKind.i64.wrap (t5 + 1))), (.pointer (some ⟨i10, (i11 + ((IntKind.i64.wrap (t5 + 1)).toNat * 1)), none⟩)), (.int .u8 n12), (.int .i64 (IntKind.i64.wrap n12)), (.int .i64 (IntKind.i64.wrap (Int.tdiv (IntKind.i64.wrap n12) 16))), (.slice t0 t0l 0), (.int .i64 t5), (.int .i64 (IntKind.i64.wrap (t5 + 2))), (.int .i64 n15), (.slice t0 t0l 0), (.int .i64 t5), (.int .i64 (IntKind.i64.wrap (t5 + 4))), (.int .i64 n18), (.agg #[(.int .i64 (IntKind.i64.wrap n6)), (.int .i64 (Int.tmod (IntKind.i64.wrap n9) 16)), (.int .i64 (IntKind.i64.wrap (Int.tdiv (IntKind.i64.wrap n12) 16))), (.int .i64 n15), (.int .i64 n18)]), (.int .i64 t5), (.int .i64 (IntKind.i64.wrap (t5 + 8))), (.pointer (some ⟨(H.next + 28), 0, none⟩)), (.int .i64 n32), (.bool true), (.slice t0 t0l 0), (.int .i64 (IntKind.i64.wrap (t5 + 8))), (.pointer (some ⟨i33, (i34 + ((IntKind.i64.wrap (t5 + 8)).toNat * 1)), none⟩)), (.int .u8 n35), (.bool (n35 != 0)), (.bool true), undef, undef, undef, undef, undef, undef, (.bool true), (.bool true), undef, undef, undef, undef, undef, undef, (.bool true), (.bool true), undef, undef, undef, undef, undef, undef, (.bool true), (ys.getD 96 undef), (ys.getD 97 undef), (ys.getD 98 undef), (ys.getD 99 undef), (ys.getD 100 undef), (ys.getD 101 undef), (ys.getD 102 undef), (ys.getD 103 undef), (ys.getD 104 undef), (ys.getD 105 undef), (ys.getD 106 undef), (ys.getD 107 undef), (ys.getD 108 undef), (ys.getD 109 undef), (ys.getD 110 undef), (ys.getD 111 undef), (ys.getD 112 undef), (ys.getD 113 undef), (ys.getD 114 undef), (ys.getD 115 undef), (ys.getD 116 undef), (ys.getD 117 undef), (ys.getD 118 undef), (ys.getD 119 undef), (ys.getD 120 undef), (ys.getD 121 undef), (ys.getD 122 undef), (ys.getD 123 undef), (ys.getD 124 undef), undef] H19)
 else (
 inB (IntKind.i64.wrap ((IntKind.i64.wrap (t5 + 8)) + 1)) t0l ∧
 asRow t0 fun i36 i37 =>
 ∃ n38, H19.cell i36 (i37 + ((IntKind.i64.wrap ((IntKind.i64.wrap (t5 + 8)) + 1)).toNat * 1)) = some (.int .u8 n38) ∧
 bif (n38 != 0) then (
 K1 [(.slice t0 t0l 0), undef, (.slice none 0 0), (.int .i64 9), (.slice t4 t4l 0), (.int .i64 (IntKind.i64.wrap (t5 + 8))), (.int .i64 (IntKind.i64.wrap (((t0l : Nat) : Int) - t5))), (.pointer (some ⟨(H.next + 28), 0, none⟩)), (ys.getD 8 undef), (ys.getD 9 undef), (.int .i64 t5), (.slice t0 t0l 0), (.int .i64 ((t0l : Nat) : Int)), (.bool true), (.slice t4 t4l 0), (.int .i64 ((t4l : Nat) : Int)), (.bool false), (.slice t0 t0l 0), (.int .i64 ((t0l : Nat) : Int)), (.int .i64 t5), (.int .i64 (IntKind.i64.wrap (((t0l : Nat) : Int) - t5))), (.int .i64 (IntKind.i64.wrap (((t0l : Nat) : Int) - t5))), (.bool (decide ((IntKind.i64.wrap (((t0l : Nat) : Int) - t5)) < 8))), (.bool false), (.slice t0 t0l 0), (.int .i64 t5), (.pointer (some ⟨i1, (i2 + (t5.toNat * 1)), none⟩)), (.int .u8 n3), (.bool (n3 == 24)), (.bool true), (.int .i64 (IntKind.i64.wrap (((t0l : Nat) : Int) - t5))), (.bool (decide ((IntKind.i64.wrap (((t0l : Nat) : Int) - t5)) < 16))), (.bool (decide ((IntKind.i64.wrap (((t0l : Nat) : Int) - t5)) < 16))), (.bool false), (.slice t0 t0l 0), (.int .i64 t5), (.pointer (some ⟨i4, (i5 + (t5.toNat * 1)), none⟩)), (.int .u8 n6), (.int .i64 (IntKind.i64.wrap n6)), (.slice t0 t0l 0), (.int .i64 t5), (.int .i64 (IntKind.i64.wrap (t5 + 1))), (.pointer (some ⟨i7, (i8 + ((IntKind.i64.wrap (t5 + 1)).toNat * 1)), none⟩)), (.int .u8 n9), (.int .i64 (IntKind.i64.wrap n9)), (.int .i64 (Int.tmod (IntKind.i64.wrap n9) 16)), (.slice t0 t0l 0), (.int .i64 t5), (.int .i64 (IntKind.i64.wrap (t5 + 1))), (.pointer (some ⟨i10, (i11 + ((IntKind.i64.wrap (t5 + 1)).toNat * 1)), none⟩)), (.int .u8 n12), (.int .i64 (IntKind.i64.wrap n12)), (.int .i64 (IntKind.i64.wrap (Int.tdiv (IntKind.i64.wrap n12) 16))), (.slice t0 t0l 0), (.int .i64 t5), (.int .i64 (IntKind.i64.wrap (t5 + 2))), (.int .i64 n15), (.slice t0 t0l 0), (.int .i64 t5), (.int .i64 (IntKind.i64.wrap (t5 + 4))), (.int .i64 n18), (.agg #[(.int .i64 (IntKind.i64.wrap n6)), (.int .i64 (Int.tmod (IntKind.i64.wrap n9) 16)), (.int .i64 (IntKind.i64.wrap (Int.tdiv (IntKind.i64.wrap n12) 16))), (.int .i64 n15), (.int .i64 n18)]), (.int .i64 t5), (.int .i64 (IntKind.i64.wrap (t5 + 8))), (.pointer (some ⟨(H.next + 28), 0, none⟩)), (.int .i64 n32), (.bool true), (.slice t0 t0l 0), (.int .i64 (IntKind.i64.wrap (t5 + 8))), (.pointer (some ⟨i33, (i34 + ((IntKind.i64.wrap (t5 + 8)).toNat * 1)), none⟩)), (.int .u8 n35), (.bool (n35 != 0)), (.bool false), (.slice t0 t0l 0), (.int .i64 (IntKind.i64.wrap (t5 + 8))), (.int .i64 (IntKind.i64.wrap ((IntKind.i64.wrap (t5 + 8)) + 1))), (.pointer (some ⟨i36, (i37 + ((IntKind.i64.wrap ((IntKind.i64.wrap (t5 + 8)) + 1)).toNat * 1)), none⟩)), (.int .u8 n38), (.bool (n38 != 0)), (.bool (n38 != 0)), (.bool true), undef, undef, undef, undef, undef, undef, (.bool true), (.bool true), undef, undef, undef, undef, undef, undef, (.bool true), (ys.getD 96 undef), (ys.getD 97 undef), (ys.getD 98 undef), (ys.getD 99 undef), (ys.getD 100 undef), (ys.getD 101 undef), (ys.getD 102 undef), (ys.getD 103 undef), (ys.getD 104 undef), (ys.getD 105 undef), (ys.getD 106 undef), (ys.getD 107 undef), (ys.getD 108 undef), (ys.getD 109 undef), (ys.getD 110 undef), (ys.getD 111 undef), (ys.getD 112 undef), (ys.getD 113 undef), (ys.getD 114 undef), (ys.getD 115 undef), (ys.getD 116 undef), (ys.getD 117 undef), (ys.getD 118 undef), (ys.getD 119 undef), (ys.getD 120 undef), (ys.getD 121 undef), (ys.getD 122 undef), (ys.getD 123 undef), (ys.getD 124 undef), undef] H19)
 else (
 inB (IntKind.i64.wrap ((IntKind.i64.wrap (t5 + 8)) + 2)) t0l ∧
 asRow t0 fun i39 i40 =>
 ∃ n41, H19.cell i39 (i40 + ((IntKind.i64.wrap ((IntKind.i64.wrap (t5 + 8)) + 2)).toNat * 1)) = some (.int .u8 n41) ∧
 bif (n41 != 0) then (
 K1 [(.slice t0 t0l 0), undef, (.slice none 0 0), (.int .i64 9), (.slice t4 t4l 0), (.int .i64 (IntKind.i64.wrap (t5 + 8))), (.int .i64 (IntKind.i64.wrap (((t0l : Nat) : Int) - t5))), (.pointer (some ⟨(H.next + 28), 0, none⟩)), (ys.getD 8 undef), (ys.getD 9 undef), (.int .i64 t5), (.slice t0 t0l 0), (.int .i64 ((t0l : Nat) : Int)), (.bool true), (.slice t4 t4l 0), (.int .i64 ((t4l : Nat) : Int)), (.bool false), (.slice t0 t0l 0), (.int .i64 ((t0l : Nat) : Int)), (.int .i64 t5), (.int .i64 (IntKind.i64.wrap (((t0l : Nat) : Int) - t5))), (.int .i64 (IntKind.i64.wrap (((t0l : Nat) : Int) - t5))), (.bool (decide ((IntKind.i64.wrap (((t0l : Nat) : Int) - t5)) < 8))), (.bool false), (.slice t0 t0l 0), (.int .i64 t5), (.pointer (some ⟨i1, (i2 + (t5.toNat * 1)), none⟩)), (.int .u8 n3), (.bool (n3 == 24)), (.bool true), (.int .i64 (IntKind.i64.wrap (((t0l : Nat) : Int) - t5))), (.bool (decide ((IntKind.i64.wrap (((t0l : Nat) : Int) - t5)) < 16))), (.bool (decide ((IntKind.i64.wrap (((t0l : Nat) : Int) - t5)) < 16))), (.bool false), (.slice t0 t0l 0), (.int .i64 t5), (.pointer (some ⟨i4, (i5 + (t5.toNat * 1)), none⟩)), (.int .u8 n6), (.int .i64 (IntKind.i64.wrap n6)), (.slice t0 t0l 0), (.int .i64 t5), (.int .i64 (IntKind.i64.wrap (t5 + 1))), (.pointer (some ⟨i7, (i8 + ((IntKind.i64.wrap (t5 + 1)).toNat * 1)), none⟩)), (.int .u8 n9), (.int .i64 (IntKind.i64.wrap n9)), (.int .i64 (Int.tmod (IntKind.i64.wrap n9) 16)), (.slice t0 t0l 0), (.int .i64 t5), (.int .i64 (IntKind.i64.wrap (t5 + 1))), (.pointer (some ⟨i10, (i11 + ((IntKind.i64.wrap (t5 + 1)).toNat * 1)), none⟩)), (.int .u8 n12), (.int .i64 (IntKind.i64.wrap n12)), (.int .i64 (IntKind.i64.wrap (Int.tdiv (IntKind.i64.wrap n12) 16))), (.slice t0 t0l 0), (.int .i64 t5), (.int .i64 (IntKind.i64.wrap (t5 + 2))), (.int .i64 n15), (.slice t0 t0l 0), (.int .i64 t5), (.int .i64 (IntKind.i64.wrap (t5 + 4))), (.int .i64 n18), (.agg #[(.int .i64 (IntKind.i64.wrap n6)), (.int .i64 (Int.tmod (IntKind.i64.wrap n9) 16)), (.int .i64 (IntKind.i64.wrap (Int.tdiv (IntKind.i64.wrap n12) 16))), (.int .i64 n15), (.int .i64 n18)]), (.int .i64 t5), (.int .i64 (IntKind.i64.wrap (t5 + 8))), (.pointer (some ⟨(H.next + 28), 0, none⟩)), (.int .i64 n32), (.bool true), (.slice t0 t0l 0), (.int .i64 (IntKind.i64.wrap (t5 + 8))), (.pointer (some ⟨i33, (i34 + ((IntKind.i64.wrap (t5 + 8)).toNat * 1)), none⟩)), (.int .u8 n35), (.bool (n35 != 0)), (.bool false), (.slice t0 t0l 0), (.int .i64 (IntKind.i64.wrap (t5 + 8))), (.int .i64 (IntKind.i64.wrap ((IntKind.i64.wrap (t5 + 8)) + 1))), (.pointer (some ⟨i36, (i37 + ((IntKind.i64.wrap ((IntKind.i64.wrap (t5 + 8)) + 1)).toNat * 1)), none⟩)), (.int .u8 n38), (.bool (n38 != 0)), (.bool (n38 != 0)), (.bool false), (.slice t0 t0l 0), (.int .i64 (IntKind.i64.wrap (t5 + 8))), (.int .i64 (IntKind.i64.wrap ((IntKind.i64.wrap (t5 + 8)) + 2))), (.pointer (some ⟨i39, (i40 + ((IntKind.i64.wrap ((IntKind.i64.wrap (t5 + 8)) + 2)).toNat * 1)), none⟩)), (.int .u8 n41), (.bool (n41 != 0)), (.bool (n41 != 0)), (.bool true), undef, undef, undef, undef, undef, undef, (.bool true), (ys.getD 96 undef), (ys.getD 97 undef), (ys.getD 98 undef), (ys.getD 99 undef), (ys.getD 100 undef), (ys.getD 101 undef), (ys.getD 102 undef), (ys.getD 103 undef), (ys.getD 104 undef), (ys.getD 105 undef), (ys.getD 106 undef), (ys.getD 107 undef), (ys.getD 108 undef), (ys.getD 109 undef), (ys.getD 110 undef), (ys.getD 111 undef), (ys.getD 112 undef), (ys.getD 113 undef), (ys.getD 114 undef), (ys.getD 115 undef), (ys.getD 116 undef), (ys.getD 117 undef), (ys.getD 118 undef), (ys.getD 119 undef), (ys.getD 120 undef), (ys.getD 121 undef), (ys.getD 122 undef), (ys.getD 123 undef), (ys.getD 124 undef), undef] H19)
 else (
 inB (IntKind.i64.wrap ((IntKind.i64.wrap (t5 + 8)) + 3)) t0l ∧
 asRow t0 fun i42 i43 =>
 ∃ n44, H19.cell i42 (i43 + ((IntKind.i64.wrap ((IntKind.i64.wrap (t5 + 8)) + 3)).toNat * 1)) = some (.int .u8 n44) ∧
 bif (n44 != 0) then (
 K1 [(.slice t0 t0l 0), undef, (.slice none 0 0), (.int .i64 9), (.slice t4 t4l 0), (.int .i64 (IntKind.i64.wrap (t5 + 8))), (.int .i64 (IntKind.i64.wrap (((t0l : Nat) : Int) - t5))), (.pointer (some ⟨(H.next + 28), 0, none⟩)), (ys.getD 8 undef), (ys.getD 9 undef), (.int .i64 t5), (.slice t0 t0l 0), (.int .i64 ((t0l : Nat) : Int)), (.bool true), (.slice t4 t4l 0), (.int .i64 ((t4l : Nat) : Int)), (.bool false), (.slice t0 t0l 0), (.int .i64 ((t0l : Nat) : Int)), (.int .i64 t5), (.int .i64 (IntKind.i64.wrap (((t0l : Nat) : Int) - t5))), (.int .i64 (IntKind.i64.wrap (((t0l : Nat) : Int) - t5))), (.bool (decide ((IntKind.i64.wrap (((t0l : Nat) : Int) - t5)) < 8))), (.bool false), (.slice t0 t0l 0), (.int .i64 t5), (.pointer (some ⟨i1, (i2 + (t5.toNat * 1)), none⟩)), (.int .u8 n3), (.bool (n3 == 24)), (.bool true), (.int .i64 (IntKind.i64.wrap (((t0l : Nat) : Int) - t5))), (.bool (decide ((IntKind.i64.wrap (((t0l : Nat) : Int) - t5)) < 16))), (.bool (decide ((IntKind.i64.wrap (((t0l : Nat) : Int) - t5)) < 16))), (.bool false), (.slice t0 t0l 0), (.int .i64 t5), (.pointer (some ⟨i4, (i5 + (t5.toNat * 1)), none⟩)), (.int .u8 n6), (.int .i64 (IntKind.i64.wrap n6)), (.slice t0 t0l 0), (.int .i64 t5), (.int .i64 (IntKind.i64.wrap (t5 + 1))), (.pointer (some ⟨i7, (i8 + ((IntKind.i64.wrap (t5 + 1)).toNat * 1)), none⟩)), (.int .u8 n9), (.int .i64 (IntKind.i64.wrap n9)), (.int .i64 (Int.tmod (IntKind.i64.wrap n9) 16)), (.slice t0 t0l 0), (.int .i64 t5), (.int .i64 (IntKind.i64.wrap (t5 + 1))), (.pointer (some ⟨i10, (i11 + ((IntKind.i64.wrap (t5 + 1)).toNat * 1)), none⟩)), (.int .u8 n12), (.int .i64 (IntKind.i64.wrap n12)), (.int .i64 (IntKind.i64.wrap (Int.tdiv (IntKind.i64.wrap n12) 16))), (.slice t0 t0l 0), (.int .i64 t5), (.int .i64 (IntKind.i64.wrap (t5 + 2))), (.int .i64 n15), (.slice t0 t0l 0), (.int .i64 t5), (.int .i64 (IntKind.i64.wrap (t5 + 4))), (.int .i64 n18), (.agg #[(.int .i64 (IntKind.i64.wrap n6)), (.int .i64 (Int.tmod (IntKind.i64.wrap n9) 16)), (.int .i64 (IntKind.i64.wrap (Int.tdiv (IntKind.i64.wrap n12) 16))), (.int .i64 n15), (.int .i64 n18)]), (.int .i64 t5), (.int .i64 (IntKind.i64.wrap (t5 + 8))), (.pointer (some ⟨(H.next + 28), 0, none⟩)), (.int .i64 n32), (.bool true), (.slice t0 t0l 0), (.int .i64 (IntKind.i64.wrap (t5 + 8))), (.pointer (some ⟨i33, (i34 + ((IntKind.i64.wrap (t5 + 8)).toNat * 1)), none⟩)), (.int .u8 n35), (.bool (n35 != 0)), (.bool false), (.slice t0 t0l 0), (.int .i64 (IntKind.i64.wrap (t5 + 8))), (.int .i64 (IntKind.i64.wrap ((IntKind.i64.wrap (t5 + 8)) + 1))), (.pointer (some ⟨i36, (i37 + ((IntKind.i64.wrap ((IntKind.i64.wrap (t5 + 8)) + 1)).toNat * 1)), none⟩)), (.int .u8 n38), (.bool (n38 != 0)), (.bool (n38 != 0)), (.bool false), (.slice t0 t0l 0), (.int .i64 (IntKind.i64.wrap (t5 + 8))), (.int .i64 (IntKind.i64.wrap ((IntKind.i64.wrap (t5 + 8)) + 2))), (.pointer (some ⟨i39, (i40 + ((IntKind.i64.wrap ((IntKind.i64.wrap (t5 + 8)) + 2)).toNat * 1)), none⟩)), (.int .u8 n41), (.bool (n41 != 0)), (.bool (n41 != 0)), (.bool false), (.slice t0 t0l 0), (.int .i64 (IntKind.i64.wrap (t5 + 8))), (.int .i64 (IntKind.i64.wrap ((IntKind.i64.wrap (t5 + 8)) + 3))), (.pointer (some ⟨i42, (i43 + ((IntKind.i64.wrap ((IntKind.i64.wrap (t5 + 8)) + 3)).toNat * 1)), none⟩)), (.int .u8 n44), (.bool (n44 != 0)), (.bool true), (ys.getD 96 undef), (ys.getD 97 undef), (ys.getD 98 undef), (ys.getD 99 undef), (ys.getD 100 undef), (ys.getD 101 undef), (ys.getD 102 undef), (ys.getD 103 undef), (ys.getD 104 undef), (ys.getD 105 undef), (ys.getD 106 undef), (ys.getD 107 undef), (ys.getD 108 undef), (ys.getD 109 undef), (ys.getD 110 undef), (ys.getD 111 undef), (ys.getD 112 undef), (ys.getD 113 undef), (ys.getD 114 undef), (ys.getD 115 undef), (ys.getD 116 undef), (ys.getD 117 undef), (ys.getD 118 undef), (ys.getD 119 undef), (ys.getD 120 undef), (ys.getD 121 undef), (ys.getD 122 undef), (ys.getD 123 undef), (ys.getD 124 undef), undef] H19)
 else (
 inS (IntKind.i64.wrap (t5 + 8)) t0l ∧
 inS (IntKind.i64.wrap ((IntKind.i64.wrap (t5 + 8)) - 4)) (IntKind.i64.wrap (t5 + 8)).toNat ∧
 slK H19 t0 1 (IntKind.i64.wrap ((IntKind.i64.wrap (t5 + 8)) - 4)).toNat ((IntKind.i64.wrap (t5 + 8)).toNat - (IntKind.i64.wrap ((IntKind.i64.wrap (t5 + 8)) - 4)).toNat) fun v45 =>
 AS.asSlice v45 fun a46 i47 =>
 ∃ l48, rowOf H19 1 a46 i47 = some l48 ∧
 apd H19 1 1 none 0 i47 l48 fun a49 i50 H51 =>
 inS (IntKind.i64.wrap ((IntKind.i64.wrap (t5 + 8)) + 8)) t0l ∧
 inS (IntKind.i64.wrap ((IntKind.i64.wrap (t5 + 8)) + 4)) (IntKind.i64.wrap ((IntKind.i64.wrap (t5 + 8)) + 8)).toNat ∧
 slK H51 t0 1 (IntKind.i64.wrap ((IntKind.i64.wrap (t5 + 8)) + 4)).toNat ((IntKind.i64.wrap ((IntKind.i64.wrap (t5 + 8)) + 8)).toNat - (IntKind.i64.wrap ((IntKind.i64.wrap (t5 + 8)) + 4)).toNat) fun v52 =>
 AS.asSlice v52 fun a53 i54 =>
 ∃ l55, rowOf H51 1 a53 i54 = some l55 ∧
 apd H51 1 1 a49 i50 i54 l55 fun a56 i57 H58 =>
 CA en F.crossbarref02_signed [(.slice a56 i57 0), (.int .i64 0), (.int .i64 8)] H58 fun v59 H60 =>
 ∃ n61, v59 = (.int .i64 n61) ∧
 stc H60 (H.next + 28) 4 [(.int .i64 n61)] fun H62 =>
 ∃ n63, ∃ n64, ∃ n65, ∃ n66, ∃ n67, H62.cellsAt (H.next + 28) 0 5 = some [(.int .i64 n63), (.int .i64 n64), (.int .i64 n65), (.int .i64 n66), (.int .i64 n67)] ∧
 CA en F.crossbarref02_Check [(.agg #[(.int .i64 n63), (.int .i64 n64), (.int .i64 n65), (.int .i64 n66), (.int .i64 n67)])] H62 fun v68 H69 =>
 ∃ n70, v68 = (.int .i64 n70) ∧
 bif (n70 != 0) then (
 K1 [(.slice t0 t0l 0), undef, (.slice none 0 0), (.int .i64 n70), (.slice t4 t4l 0), (.int .i64 (IntKind.i64.wrap ((IntKind.i64.wrap (t5 + 8)) + 8))), (.int .i64 (IntKind.i64.wrap (((t0l : Nat) : Int) - t5))), (.pointer (some ⟨(H.next + 28), 0, none⟩)), (.slice a56 i57 0), (.int .i64 n70), (.int .i64 t5), (.slice t0 t0l 0), (.int .i64 ((t0l : Nat) : Int)), (.bool true), (.slice t4 t4l 0), (.int .i64 ((t4l : Nat) : Int)), (.bool false), (.slice t0 t0l 0), (.int .i64 ((t0l : Nat) : Int)), (.int .i64 t5), (.int .i64 (IntKind.i64.wrap (((t0l : Nat) : Int) - t5))), (.int .i64 (IntKind.i64.wrap (((t0l : Nat) : Int) - t5))), (.bool (decide ((IntKind.i64.wrap (((t0l : Nat) : Int) - t5)) < 8))), (.bool false), (.slice t0 t0l 0), (.int .i64 t5), (.pointer (some ⟨i1, (i2 + (t5.toNat * 1)), none⟩)), (.int .u8 n3), (.bool (n3 == 24)), (.bool true), (.int .i64 (IntKind.i64.wrap (((t0l : Nat) : Int) - t5))), (.bool (decide ((IntKind.i64.wrap (((t0l : Nat) : Int) - t5)) < 16))), (.bool (decide ((IntKind.i64.wrap (((t0l : Nat) : Int) - t5)) < 16))), (.bool false), (.slice t0 t0l 0), (.int .i64 t5), (.pointer (some ⟨i4, (i5 + (t5.toNat * 1)), none⟩)), (.int .u8 n6), (.int .i64 (IntKind.i64.wrap n6)), (.slice t0 t0l 0), (.int .i64 t5), (.int .i64 (IntKind.i64.wrap (t5 + 1))), (.pointer (some ⟨i7, (i8 + ((IntKind.i64.wrap (t5 + 1)).toNat * 1)), none⟩)), (.int .u8 n9), (.int .i64 (IntKind.i64.wrap n9)), (.int .i64 (Int.tmod (IntKind.i64.wrap n9) 16)), (.slice t0 t0l 0), (.int .i64 t5), (.int .i64 (IntKind.i64.wrap (t5 + 1))), (.pointer (some ⟨i10, (i11 + ((IntKind.i64.wrap (t5 + 1)).toNat * 1)), none⟩)), (.int .u8 n12), (.int .i64 (IntKind.i64.wrap n12)), (.int .i64 (IntKind.i64.wrap (Int.tdiv (IntKind.i64.wrap n12) 16))), (.slice t0 t0l 0), (.int .i64 t5), (.int .i64 (IntKind.i64.wrap (t5 + 2))), (.int .i64 n15), (.slice t0 t0l 0), (.int .i64 t5), (.int .i64 (IntKind.i64.wrap (t5 + 4))), (.int .i64 n18), (.agg #[(.int .i64 (IntKind.i64.wrap n6)), (.int .i64 (Int.tmod (IntKind.i64.wrap n9) 16)), (.int .i64 (IntKind.i64.wrap (Int.tdiv (IntKind.i64.wrap n12) 16))), (.int .i64 n15), (.int .i64 n18)]), (.int .i64 t5), (.int .i64 (IntKind.i64.wrap (t5 + 8))), (.pointer (some ⟨(H.next + 28), 0, none⟩)), (.int .i64 n32), (.bool true), (.slice t0 t0l 0), (.int .i64 (IntKind.i64.wrap (t5 + 8))), (.pointer (some ⟨i33, (i34 + ((IntKind.i64.wrap (t5 + 8)).toNat * 1)), none⟩)), (.int .u8 n35), (.bool (n35 != 0)), (.bool false), (.slice t0 t0l 0), (.int .i64 (IntKind.i64.wrap (t5 + 8))), (.int .i64 (IntKind.i64.wrap ((IntKind.i64.wrap (t5 + 8)) + 1))), (.pointer (some ⟨i36, (i37 + ((IntKind.i64.wrap ((IntKind.i64.wrap (t5 + 8)) + 1)).toNat * 1)), none⟩)), (.int .u8 n38), (.bool (n38 != 0)), (.bool (n38 != 0)), (.bool false), (.slice t0 t0l 0), (.int .i64 (IntKind.i64.wrap (t5 + 8))), (.int .i64 (IntKind.i64.wrap ((IntKind.i64.wrap (t5 + 8)) + 2))), (.pointer (some ⟨i39, (i40 + ((IntKind.i64.wrap ((IntKind.i64.wrap (t5 + 8)) + 2)).toNat * 1)), none⟩)), (.int .u8 n41), (.bool (n41 != 0)), (.bool (n41 != 0)), (.bool false), (.slice t0 t0l 0), (.int .i64 (IntKind.i64.wrap (t5 + 8))), (.int .i64 (IntKind.i64.wrap ((IntKind.i64.wrap (t5 + 8)) + 3))), (.pointer (some ⟨i42, (i43 + ((IntKind.i64.wrap ((IntKind.i64.wrap (t5 + 8)) + 3)).toNat * 1)), none⟩)), (.int .u8 n44), (.bool (n44 != 0)), (.bool false), (.slice none 0 0), (.slice t0 t0l 0), (.int .i64 (IntKind.i64.wrap (t5 + 8))), (.int .i64 (IntKind.i64.wrap ((IntKind.i64.wrap (t5 + 8)) - 4))), (.int .i64 (IntKind.i64.wrap (t5 + 8))), v45, (.slice a49 i50 0), (.slice a49 i50 0), (.slice t0 t0l 0), (.int .i64 (IntKind.i64.wrap (t5 + 8))), (.int .i64 (IntKind.i64.wrap ((IntKind.i64.wrap (t5 + 8)) + 4))), (.int .i64 (IntKind.i64.wrap (t5 + 8))), (.int .i64 (IntKind.i64.wrap ((IntKind.i64.wrap (t5 + 8)) + 8))), v52, (.slice a56 i57 0), (.slice a56 i57 0), (.int .i64 n61), (.pointer (some ⟨(H.next + 28), 4, none⟩)), (.int .i64 (IntKind.i64.wrap (t5 + 8))), (.int .i64 (IntKind.i64.wrap ((IntKind.i64.wrap (t5 + 8)) + 8))), (.agg #[(.int .i64 n63), (.int .i64 n64), (.int .i64 n65), (.int .i64 n66), (.int .i64 n67)]), (.int .i64 n70), (.int .i64 n70), (.bool true), (.int .i64 n70), (ys.getD 121 undef), (ys.getD 122 undef), (ys.getD 123 undef), (ys.getD 124 undef), undef] H69)
 else (
 ∃ n71, ∃ n72, ∃ n73, ∃ n74, ∃ n75, H69.cellsAt (H.next + 28) 0 5 = some [(.int .i64 n71), (.int .i64 n72), (.int .i64 n73), (.int .i64 n74), (.int .i64 n75)] ∧
 nwH H69 (.cells true 5 [(.int .i64 n71), (.int .i64 n72), (.int .i64 n73), (.int .i64 n74), (.int .i64 n75)]) fun i76 H77 =>
 ∃ l78, rowOf H77 5 (some ⟨i76, 0, none⟩) 1 = some l78 ∧
 apd H77 40 5 t4 t4l 1 l78 fun a79 i80 H81 =>
 ∃ k82, k82 < n ∧
 I k82 t2 t2l t3 a79 i80 (IntKind.i64.wrap ((IntKind.i64.wrap (t5 + 8)) + 8)) H81))))))
 else (
 ∃ n83, ∃ n84, ∃ n85, ∃ n86, ∃ n87, H19.cellsAt (H.next + 28) 0 5 = some [(.int .i64 n83), (.int .i64 n84), (.int .i64 n85), (.int .i64 n86), (.int .i64 n87)] ∧
 CA en F.crossbarref02_Check [(.agg #[(.int .i64 n83), (.int .i64 n84), (.int .i64 n85), (.int .i64 n86), (.int .i64 n87)])] H19 fun v88 H89 =>
 ∃ n90, v88 = (.int .i64 n90) ∧
 bif (n90 != 0) then (
 K1 [(.slice t0 t0l 0), undef, (.slice none 0 0), (.int .i64 n90), (.slice t4 t4l 0), (.int .i64 (IntKind.i64.wrap (t5 + 8))), (.int .i64 (IntKind.i64.wrap (((t0l : Nat) : Int) - t5))), (.pointer (some ⟨(H.next + 28), 0, none⟩)), (ys.getD 8 undef), (.int .i64 n90), (.int .i64 t5), (.slice t0 t0l 0), (.int .i64 ((t0l : Nat) : Int)), (.bool true), (.slice t4 t4l 0), (.int .i64 ((t4l : Nat) : Int)), (.bool false), (.slice t0 t0l 0), (.int .i64 ((t0l : Nat) : Int)), (.int .i64 t5), (.int .i64 (IntKind.i64.wrap (((t0l : Nat) : Int) - t5))), (.int .i64 (IntKind.i64.wrap (((t0l : Nat) : Int) - t5))), (.bool (decide ((IntKind.i64.wrap (((t0l : Nat) : Int) - t5)) < 8))), (.bool false), (.slice t0 t0l 0), (.int .i64 t5), (.pointer (some ⟨i1, (i2 + (t5.toNat * 1)), none⟩)), (.int .u8 n3), (.bool (n3 == 24)), (.bool true), (.int .i64 (IntKind.i64.wrap (((t0l : Nat) : Int) - t5))), (.bool (decide ((IntKind.i64.wrap (((t0l : Nat) : Int) - t5)) < 16))), (.bool (decide ((IntKind.i64.wrap (((t0l : Nat) : Int) - t5)) < 16))), (.bool false), (.slice t0 t0l 0), (.int .i64 t5), (.pointer (some ⟨i4, (i5 + (t5.toNat * 1)), none⟩)), (.int .u8 n6), (.int .i64 (IntKind.i64.wrap n6)), (.slice t0 t0l 0), (.int .i64 t5), (.int .i64 (IntKind.i64.wrap (t5 + 1))), (.pointer (some ⟨i7, (i8 + ((IntKind.i64.wrap (t5 + 1)).toNat * 1)), none⟩)), (.int .u8 n9), (.int .i64 (IntKind.i64.wrap n9)), (.int .i64 (Int.tmod (IntKind.i64.wrap n9) 16)), (.slice t0 t0l 0), (.int .i64 t5), (.int .i64 (IntKind.i64.wrap (t5 + 1))), (.pointer (some ⟨i10, (i11 + ((IntKind.i64.wrap (t5 + 1)).toNat * 1)), none⟩)), (.int .u8 n12), (.int .i64 (IntKind.i64.wrap n12)), (.int .i64 (IntKind.i64.wrap (Int.tdiv (IntKind.i64.wrap n12) 16))), (.slice t0 t0l 0), (.int .i64 t5), (.int .i64 (IntKind.i64.wrap (t5 + 2))), (.int .i64 n15), (.slice t0 t0l 0), (.int .i64 t5), (.int .i64 (IntKind.i64.wrap (t5 + 4))), (.int .i64 n18), (.agg #[(.int .i64 (IntKind.i64.wrap n6)), (.int .i64 (Int.tmod (IntKind.i64.wrap n9) 16)), (.int .i64 (IntKind.i64.wrap (Int.tdiv (IntKind.i64.wrap n12) 16))), (.int .i64 n15), (.int .i64 n18)]), (.int .i64 t5), (.int .i64 (IntKind.i64.wrap (t5 + 8))), (.pointer (some ⟨(H.next + 28), 0, none⟩)), (.int .i64 n32), (.bool false), (ys.getD 67 undef), (ys.getD 68 undef), (ys.getD 69 undef), (ys.getD 70 undef), (ys.getD 71 undef), (ys.getD 72 undef), (ys.getD 73 undef), (ys.getD 74 undef), (ys.getD 75 undef), (ys.getD 76 undef), (ys.getD 77 undef), (ys.getD 78 undef), (ys.getD 79 undef), (ys.getD 80 undef), (ys.getD 81 undef), (ys.getD 82 undef), (ys.getD 83 undef), (ys.getD 84 undef), (ys.getD 85 undef), (ys.getD 86 undef), (ys.getD 87 undef), (ys.getD 88 undef), (ys.getD 89 undef), (ys.getD 90 undef), (ys.getD 91 undef), (ys.getD 92 undef), (ys.getD 93 undef), (ys.getD 94 undef), (ys.getD 95 undef), (ys.getD 96 undef), (ys.getD 97 undef), (ys.getD 98 undef), (ys.getD 99 undef), (ys.getD 100 undef), (ys.getD 101 undef), (ys.getD 102 undef), (ys.getD 103 undef), (ys.getD 104 undef), (ys.getD 105 undef), (ys.getD 106 undef), (ys.getD 107 undef), (ys.getD 108 undef), (ys.getD 109 undef), (ys.getD 110 undef), (ys.getD 111 undef), (ys.getD 112 undef), (ys.getD 113 undef), (ys.getD 114 undef), (ys.getD 115 undef), (.agg #[(.int .i64 n83), (.int .i64 n84), (.int .i64 n85), (.int .i64 n86), (.int .i64 n87)]), (.int .i64 n90), (.int .i64 n90), (.bool true), (.int .i64 n90), (ys.getD 121 undef), (ys.getD 122 undef), (ys.getD 123 undef), (ys.getD 124 undef), undef] H89)
 else (
 ∃ n91, ∃ n92, ∃ n93, ∃ n94, ∃ n95, H89.cellsAt (H.next + 28) 0 5 = some [(.int .i64 n91), (.int .i64 n92), (.int .i64 n93), (.int .i64 n94), (.int .i64 n95)] ∧
 nwH H89 (.cells true 5 [(.int .i64 n91), (.int .i64 n92), (.int .i64 n93), (.int .i64 n94), (.int .i64 n95)]) fun i96 H97 =>
 ∃ l98, rowOf H97 5 (some ⟨i96, 0, none⟩) 1 = some l98 ∧
 apd H97 40 5 t4 t4l 1 l98 fun a99 i100 H101 =>
 ∃ k102, k102 < n ∧
 I k102 t2 t2l t3 a99 i100 (IntKind.i64.wrap (t5 + 8)) H101))) ∧
 ((∃ c22, ((H.bump 30).set (H.next + 28) (.cells true 0 [(.int .i64 0), (.int .i64 0), (.int .i64 0), (.int .i64 0), (.int .i64 0)])).get (H.next + 28) = some (.cells true 0 c22) ∧ sameN.sameL 8 [(.int .i64 0), (.int .i64 0), (.int .i64 0), (.int .i64 0), (.int .i64 0)] c22 = true) ∧ (∃ c21, H14.get (H.next + 28) = some (.cells true 0 c21) ∧ sameN.sameL 8 [(.int .i64 0), (.int .i64 0), (.int .i64 0), (.int .i64 0), (.int .i64 0)] c21 = true) ∧ (∃ c20, H17.get (H.next + 28) = some (.cells true 0 c20) ∧ sameN.sameL 8 [(.int .i64 0), (.int .i64 0), (.int .i64 0), (.int .i64 0), (.int .i64 0)] c20 = true) ∧ True) ∧
 (((IntKind.i64.wrap (t5 + 4)) = (IntKind.i64.wrap (t5 + 4))) ∧ ((IntKind.i64.wrap (t5 + 4)) = (IntKind.i64.wrap (t5 + 4))) ∧ True) ∧
 ((nz 16 ∧
 (IntKind.i64.wrap (Int.tdiv (IntKind.i64.wrap n12) 16)) = (IntKind.i64.wrap (Int.tdiv (IntKind.i64.wrap n12) 16))) ∧ (nz 16 ∧
 (IntKind.i64.wrap (Int.tdiv (IntKind.i64.wrap n12) 16)) = (IntKind.i64.wrap (Int.tdiv (IntKind.i64.wrap n12) 16))) ∧ (nz 16 ∧
 (IntKind.i64.wrap (Int.tdiv (IntKind.i64.wrap n12) 16)) = (IntKind.i64.wrap (Int.tdiv (IntKind.i64.wrap n12) 16))) ∧ True) ∧
 ((∃ n25, ((H.bump 30).set (H.next + 28) (.cells true 0 [(.int .i64 0), (.int .i64 0), (.int .i64 0), (.int .i64 0), (.int .i64 0)])).cell i10 (i11 + ((IntKind.i64.wrap (t5 + 1)).toNat * 1)) = some (.int .u8 n25) ∧
 n12 = n25) ∧ (∃ n24, H14.cell i10 (i11 + ((IntKind.i64.wrap (t5 + 1)).toNat * 1)) = some (.int .u8 n24) ∧
 n12 = n24) ∧ (∃ n23, H17.cell i10 (i11 + ((IntKind.i64.wrap (t5 + 1)).toNat * 1)) = some (.int .u8 n23) ∧
 n12 = n23) ∧ True) ∧
 (((IntKind.i64.wrap (t5 + 1)) = (IntKind.i64.wrap (t5 + 1))) ∧ ((IntKind.i64.wrap (t5 + 1)) = (IntKind.i64.wrap (t5 + 1))) ∧ ((IntKind.i64.wrap (t5 + 1)) = (IntKind.i64.wrap (t5 + 1))) ∧ True) ∧
 ((nz 16 ∧
 (Int.tmod (IntKind.i64.wrap n9) 16) = (Int.tmod (IntKind.i64.wrap n9) 16)) ∧ (nz 16 ∧
 (Int.tmod (IntKind.i64.wrap n9) 16) = (Int.tmod (IntKind.i64.wrap n9) 16)) ∧ (nz 16 ∧
 (Int.tmod (IntKind.i64.wrap n9) 16) = (Int.tmod (IntKind.i64.wrap n9) 16)) ∧ True) ∧
 ((∃ n28, ((H.bump 30).set (H.next + 28) (.cells true 0 [(.int .i64 0), (.int .i64 0), (.int .i64 0), (.int .i64 0), (.int .i64 0)])).cell i7 (i8 + ((IntKind.i64.wrap (t5 + 1)).toNat * 1)) = some (.int .u8 n28) ∧
 n9 = n28) ∧ (∃ n27, H14.cell i7 (i8 + ((IntKind.i64.wrap (t5 + 1)).toNat * 1)) = some (.int .u8 n27) ∧
 n9 = n27) ∧ (∃ n26, H17.cell i7 (i8 + ((IntKind.i64.wrap (t5 + 1)).toNat * 1)) = some (.int .u8 n26) ∧
 n9 = n26) ∧ True) ∧
 (((IntKind.i64.wrap (t5 + 1)) = (IntKind.i64.wrap (t5 + 1))) ∧ ((IntKind.i64.wrap (t5 + 1)) = (IntKind.i64.wrap (t5 + 1))) ∧ ((IntKind.i64.wrap (t5 + 1)) = (IntKind.i64.wrap (t5 + 1))) ∧ True) ∧
 ((∃ n31, ((H.bump 30).set (H.next + 28) (.cells true 0 [(.int .i64 0), (.int .i64 0), (.int .i64 0), (.int .i64 0), (.int .i64 0)])).cell i4 (i5 + (t5.toNat * 1)) = some (.int .u8 n31) ∧
 n6 = n31) ∧ (∃ n30, H14.cell i4 (i5 + (t5.toNat * 1)) = some (.int .u8 n30) ∧
 n6 = n30) ∧ (∃ n29, H17.cell i4 (i5 + (t5.toNat * 1)) = some (.int .u8 n29) ∧
 n6 = n29) ∧ True) ∧
 True))
 else (
 inB t5 t0l ∧
 asRow t0 fun i103 i104 =>
 ∃ n105, ((H.bump 30).set (H.next + 28) (.cells true 0 [(.int .i64 0), (.int .i64 0), (.int .i64 0), (.int .i64 0), (.int .i64 0)])).cell i103 (i104 + (t5.toNat * 1)) = some (.int .u8 n105) ∧
 inB (IntKind.i64.wrap (t5 + 1)) t0l ∧
 asRow t0 fun i106 i107 =>
 ∃ n108, ((H.bump 30).set (H.next + 28) (.cells true 0 [(.int .i64 0), (.int .i64 0), (.int .i64 0), (.int .i64 0), (.int .i64 0)])).cell i106 (i107 + ((IntKind.i64.wrap (t5 + 1)).toNat * 1)) = some (.int .u8 n108) ∧
 nz 16 ∧
 inB (IntKind.i64.wrap (t5 + 1)) t0l ∧
 asRow t0 fun i109 i110 =>
 ∃ n111, ((H.bump 30).set (H.next + 28) (.cells true 0 [(.int .i64 0), (.int .i64 0), (.int .i64 0), (.int .i64 0), (.int .i64 0)])).cell i109 (i110 + ((IntKind.i64.wrap (t5 + 1)).toNat * 1)) = some (.int .u8 n111) ∧
 nz 16 ∧
 CA en F.crossbarref02_signed [(.slice t0 t0l 0), (.int .i64 (IntKind.i64.wrap (t5 + 2))), (.int .i64 2)] ((H.bump 30).set (H.next + 28) (.cells true 0 [(.int .i64 0), (.int .i64 0), (.int .i64 0), (.int .i64 0), (.int .i64 0)])) fun v112 H113 =>
 ∃ n114, v112 = (.int .i64 n114) ∧
 CA en F.crossbarref02_signed [(.slice t0 t0l 0), (.int .i64 (IntKind.i64.wrap (t5 + 4))), (.int .i64 4)] H113 fun v115 H116 =>
 ∃ n117, v115 = (.int .i64 n117) ∧
 stc H116 (H.next + 28) 0 [(.int .i64 (IntKind.i64.wrap n105)), (.int .i64 (Int.tmod (IntKind.i64.wrap n108) 16)), (.int .i64 (IntKind.i64.wrap (Int.tdiv (IntKind.i64.wrap n111) 16))), (.int .i64 n114), (.int .i64 n117)] fun H118 =>
 (
 ∃ n131, H118.cell (H.next + 28) 0 = some (.int .i64 n131) ∧
 bif (n131 == 24) then (
 inB (IntKind.i64.wrap (t5 + 8)) t0l ∧
 asRow t0 fun i132 i133 =>
 ∃ n134, H118.cell i132 (i133 + ((IntKind.i64.wrap (t5 + 8)).toNat * 1)) = some (.int .u8 n134) ∧
 bif (n134 != 0) then (
 K1 [(.slice t0 t0l 0), undef, (.slice none 0 0), (.int .i64 9), (.slice t4 t4l 0), (.int .i64 (IntKind.i64.wrap (t5 + 8))), (.int .i64 (IntKind.i64.wrap (((t0l : Nat) : Int) - t5))), (.pointer (some ⟨(H.next + 28), 0, none⟩)), (ys.getD 8 undef), (ys.getD 9 undef), (.int .i64 t5), (.slice t0 t0l 0), (.int .i64 ((t0l : Nat) : Int)), (.bool true), (.slice t4 t4l 0), (.int .i64 ((t4l : Nat) : Int)), (.bool false), (.slice t0 t0l 0), (.int .i64 ((t0l : Nat) : Int)), (.int .i64 t5), (.int .i64 (IntKind.i64.wrap (((t0l : Nat) : Int) - t5))), (.int .i64 (IntKind.i64.wrap (((t0l : Nat) : Int) - t5))), (.bool (decide ((IntKind.i64.wrap (((t0l : Nat) : Int) - t5)) < 8))), (.bool false), (.slice t0 t0l 0), (.int .i64 t5), (.pointer (some ⟨i1, (i2 + (t5.toNat * 1)), none⟩)), (.int .u8 n3), (.bool (n3 == 24)), (.bool false), undef, undef, (.bool false), (.bool false), (.slice t0 t0l 0), (.int .i64 t5), (.pointer (some ⟨i103, (i104 + (t5.toNat * 1)), none⟩)), (.int .u8 n105), (.int .i64 (IntKind.i64.wrap n105)), (.slice t0 t0l 0), (.int .i64 t5), (.int .i64 (IntKind.i64.wrap (t5 + 1))), (.pointer (some ⟨i106, (i107 + ((IntKind.i64.wrap (t5 + 1)).toNat * 1)), none⟩)), (.int .u8 n108), (.int .i64 (IntKind.i64.wrap n108)), (.int .i64 (Int.tmod (IntKind.i64.wrap n108) 16)), (.slice t0 t0l 0), (.int .i64 t5), (.int .i64 (IntKind.i64.wrap (t5 + 1))), (.pointer (some ⟨i109, (i110 + ((IntKind.i64.wrap (t5 + 1)).toNat * 1)), none⟩)), (.int .u8 n111), (.int .i64 (IntKind.i64.wrap n111)), (.int .i64 (IntKind.i64.wrap (Int.tdiv (IntKind.i64.wrap n111) 16))), (.slice t0 t0l 0), (.int .i64 t5), (.int .i64 (IntKind.i64.wrap (t5 + 2))), (.int .i64 n114), (.slice t0 t0l 0), (.int .i64 t5), (.int .i64 (IntKind.i64.wrap (t5 + 4))), (.int .i64 n117), (.agg #[(.int .i64 (IntKind.i64.wrap n105)), (.int .i64 (Int.tmod (IntKind.i64.wrap n108) 16)), (.int .i64 (IntKind.i64.wrap (Int.tdiv (IntKind.i64.wrap n111) 16))), (.int .i64 n114), (.int .i64 n117)]), (.int .i64 t5), (.int .i64 (IntKind.i64.wrap (t5 + 8))), (.pointer (some ⟨(H.next + 28), 0, none⟩)), (.int .i64 n131), (.bool true), (.slice t0 t0l 0), (.int .i64 (IntKind.i64.wrap (t5 + 8))), (.pointer (some ⟨i132, (i133 + ((IntKind.i64.wrap (t5 + 8)).toNat * 1)), none⟩)), (.int .u8 n134), (.bool (n134 != 0)), (.bool true), undef, undef, undef, undef, undef, undef, (.bool true), (.bool true), undef, undef, undef, undef, undef, undef, (.bool true), (.bool true), undef, undef, undef, undef, undef, undef, (.bool true), (ys.getD 96 undef), (ys.getD 97 undef), (ys.getD 98 undef), (ys.getD 99 undef), (ys.getD 100 undef), (ys.getD 101 undef), (ys.getD 102 undef), (ys.getD 103 undef), (ys.getD 104 undef), (ys.getD 105 undef), (ys.getD 106 undef), (ys.getD 107 undef), (ys.getD 108 undef), (ys.getD 109 undef), (ys.getD 110 undef), (ys.getD 111 undef), (ys.getD 112 undef), (ys.getD 113 undef), (ys.getD 114 undef), (ys.getD 115 undef), (ys.getD 116 undef), (ys.getD 117 undef), (ys.getD 118 undef), (ys.getD 119 undef), (ys.getD 120 undef), (ys.getD 121 undef), (ys.getD 122 undef), (ys.getD 123 undef), (ys.getD 124 undef), undef] H118)
 else (
 inB (IntKind.i64.wrap ((IntKind.i64.wrap (t5 + 8)) + 1)) t0l ∧
 asRow t0 fun i135 i136 =>
 ∃ n137, H118.cell i135 (i136 + ((IntKind.i64.wrap ((IntKind.i64.wrap (t5 + 8)) + 1)).toNat * 1)) = some (.int .u8 n137) ∧
 bif (n137 != 0) then (
 K1 [(.slice t0 t0l 0), undef, (.slice none 0 0), (.int .i64 9), (.slice t4 t4l 0), (.int .i64 (IntKind.i64.wrap (t5 + 8))), (.int .i64 (IntKind.i64.wrap (((t0l : Nat) : Int) - t5))), (.pointer (some ⟨(H.next + 28), 0, none⟩)), (ys.getD 8 undef), (ys.getD 9 undef), (.int .i64 t5), (.slice t0 t0l 0), (.int .i64 ((t0l : Nat) : Int)), (.bool true), (.slice t4 t4l 0), (.int .i64 ((t4l : Nat) : Int)), (.bool false), (.slice t0 t0l 0), (.int .i64 ((t0l : Nat) : Int)), (.int .i64 t5), (.int .i64 (IntKind.i64.wrap (((t0l : Nat) : Int) - t5))), (.int .i64 (IntKind.i64.wrap (((t0l : Nat) : Int) - t5))), (.bool (decide ((IntKind.i64.wrap (((t0l : Nat) : Int) - t5)) < 8))), (.bool false), (.slice t0 t0l 0), (.int .i64 t5), (.pointer (some ⟨i1, (i2 + (t5.toNat * 1)), none⟩)), (.int .u8 n3), (.bool (n3 == 24)), (.bool false), undef, undef, (.bool false), (.bool false), (.slice t0 t0l 0), (.int .i64 t5), (.pointer (some ⟨i103, (i104 + (t5.toNat * 1)), none⟩)), (.int .u8 n105), (.int .i64 (IntKind.i64.wrap n105)), (.slice t0 t0l 0), (.int .i64 t5), (.int .i64 (IntKind.i64.wrap (t5 + 1))), (.pointer (some ⟨i106, (i107 + ((IntKind.i64.wrap (t5 + 1)).toNat * 1)), none⟩)), (.int .u8 n108), (.int .i64 (IntKind.i64.wrap n108)), (.int .i64 (Int.tmod (IntKind.i64.wrap n108) 16)), (.slice t0 t0l 0), (.int .i64 t5), (.int .i64 (IntKind.i64.wrap (t5 + 1))), (.pointer (some ⟨i109, (i110 + ((IntKind.i64.wrap (t5 + 1)).toNat * 1)), none⟩)), (.int .u8 n111), (.int .i64 (IntKind.i64.wrap n111)), (.int .i64 (IntKind.i64.wrap (Int.tdiv (IntKind.i64.wrap n111) 16))), (.slice t0 t0l 0), (.int .i64 t5), (.int .i64 (IntKind.i64.wrap (t5 + 2))), (.int .i64 n114), (.slice t0 t0l 0), (.int .i64 t5), (.int .i64 (IntKind.i64.wrap (t5 + 4))), (.int .i64 n117), (.agg #[(.int .i64 (IntKind.i64.wrap n105)), (.int .i64 (Int.tmod (IntKind.i64.wrap n108) 16)), (.int .i64 (IntKind.i64.wrap (Int.tdiv (IntKind.i64.wrap n111) 16))), (.int .i64 n114), (.int .i64 n117)]), (.int .i64 t5), (.int .i64 (IntKind.i64.wrap (t5 + 8))), (.pointer (some ⟨(H.next + 28), 0, none⟩)), (.int .i64 n131), (.bool true), (.slice t0 t0l 0), (.int .i64 (IntKind.i64.wrap (t5 + 8))), (.pointer (some ⟨i132, (i133 + ((IntKind.i64.wrap (t5 + 8)).toNat * 1)), none⟩)), (.int .u8 n134), (.bool (n134 != 0)), (.bool false), (.slice t0 t0l 0), (.int .i64 (IntKind.i64.wrap (t5 + 8))), (.int .i64 (IntKind.i64.wrap ((IntKind.i64.wrap (t5 + 8)) + 1))), (.pointer (some ⟨i135, (i136 + ((IntKind.i64.wrap ((IntKind.i64.wrap (t5 + 8)) + 1)).toNat * 1)), none⟩)), (.int .u8 n137), (.bool (n137 != 0)), (.bool (n137 != 0)), (.bool true), undef, undef, undef, undef, undef, undef, (.bool true), (.bool true), undef, undef, undef, undef, undef, undef, (.bool true), (ys.getD 96 undef), (ys.getD 97 undef), (ys.getD 98 undef), (ys.getD 99 undef), (ys.getD 100 undef), (ys.getD 101 undef), (ys.getD 102 undef), (ys.getD 103 undef), (ys.getD 104 undef), (ys.getD 105 undef), (ys.getD 106 undef), (ys.getD 107 undef), (ys.getD 108 undef), (ys.getD 109 undef), (ys.getD 110 undef), (ys.getD 111 undef), (ys.getD 112 undef), (ys.getD 113 undef), (ys.getD 114 undef), (ys.getD 115 undef), (ys.getD 116 undef), (ys.getD 117 undef), (ys.getD 118 undef), (ys.getD 119 undef), (ys.getD 120 undef), (ys.getD 121 undef), (ys.getD 122 undef), (ys.getD 123 undef), (ys.getD 124 undef), undef] H118)
 else (
 inB (IntKind.i64.wrap ((IntKind.i64.wrap (t5 + 8)) + 2)) t0l ∧
 asRow t0 fun i138 i139 =>
 ∃ n140, H118.cell i138 (i139 + ((IntKind.i64.wrap ((IntKind.i64.wrap (t5 + 8)) + 2)).toNat * 1)) = some (.int .u8 n140) ∧
 bif (n140 != 0) then (
 K1 [(.slice t0 t0l 0), undef, (.slice none 0 0), (.int .i64 9), (.slice t4 t4l 0), (.int .i64 (IntKind.i64.wrap (t5 + 8))), (.int .i64 (IntKind.i64.wrap (((t0l : Nat) : Int) - t5))), (.pointer (some ⟨(H.next + 28), 0, none⟩)), (ys.getD 8 undef), (ys.getD 9 undef), (.int .i64 t5), (.slice t0 t0l 0), (.int .i64 ((t0l : Nat) : Int)), (.bool true), (.slice t4 t4l 0), (.int .i64 ((t4l : Nat) : Int)), (.bool false), (.slice t0 t0l 0), (.int .i64 ((t0l : Nat) : Int)), (.int .i64 t5), (.int .i64 (IntKind.i64.wrap (((t0l : Nat) : Int) - t5))), (.int .i64 (IntKind.i64.wrap (((t0l : Nat) : Int) - t5))), (.bool (decide ((IntKind.i64.wrap (((t0l : Nat) : Int) - t5)) < 8))), (.bool false), (.slice t0 t0l 0), (.int .i64 t5), (.pointer (some ⟨i1, (i2 + (t5.toNat * 1)), none⟩)), (.int .u8 n3), (.bool (n3 == 24)), (.bool false), undef, undef, (.bool false), (.bool false), (.slice t0 t0l 0), (.int .i64 t5), (.pointer (some ⟨i103, (i104 + (t5.toNat * 1)), none⟩)), (.int .u8 n105), (.int .i64 (IntKind.i64.wrap n105)), (.slice t0 t0l 0), (.int .i64 t5), (.int .i64 (IntKind.i64.wrap (t5 + 1))), (.pointer (some ⟨i106, (i107 + ((IntKind.i64.wrap (t5 + 1)).toNat * 1)), none⟩)), (.int .u8 n108), (.int .i64 (IntKind.i64.wrap n108)), (.int .i64 (Int.tmod (IntKind.i64.wrap n108) 16)), (.slice t0 t0l 0), (.int .i64 t5), (.int .i64 (IntKind.i64.wrap (t5 + 1))), (.pointer (some ⟨i109, (i110 + ((IntKind.i64.wrap (t5 + 1)).toNat * 1)), none⟩)), (.int .u8 n111), (.int .i64 (IntKind.i64.wrap n111)), (.int .i64 (IntKind.i64.wrap (Int.tdiv (IntKind.i64.wrap n111) 16))), (.slice t0 t0l 0), (.int .i64 t5), (.int .i64 (IntKind.i64.wrap (t5 + 2))), (.int .i64 n114), (.slice t0 t0l 0), (.int .i64 t5), (.int .i64 (IntKind.i64.wrap (t5 + 4))), (.int .i64 n117), (.agg #[(.int .i64 (IntKind.i64.wrap n105)), (.int .i64 (Int.tmod (IntKind.i64.wrap n108) 16)), (.int .i64 (IntKind.i64.wrap (Int.tdiv (IntKind.i64.wrap n111) 16))), (.int .i64 n114), (.int .i64 n117)]), (.int .i64 t5), (.int .i64 (IntKind.i64.wrap (t5 + 8))), (.pointer (some ⟨(H.next + 28), 0, none⟩)), (.int .i64 n131), (.bool true), (.slice t0 t0l 0), (.int .i64 (IntKind.i64.wrap (t5 + 8))), (.pointer (some ⟨i132, (i133 + ((IntKind.i64.wrap (t5 + 8)).toNat * 1)), none⟩)), (.int .u8 n134), (.bool (n134 != 0)), (.bool false), (.slice t0 t0l 0), (.int .i64 (IntKind.i64.wrap (t5 + 8))), (.int .i64 (IntKind.i64.wrap ((IntKind.i64.wrap (t5 + 8)) + 1))), (.pointer (some ⟨i135, (i136 + ((IntKind.i64.wrap ((IntKind.i64.wrap (t5 + 8)) + 1)).toNat * 1)), none⟩)), (.int .u8 n137), (.bool (n137 != 0)), (.bool (n137 != 0)), (.bool false), (.slice t0 t0l 0), (.int .i64 (IntKind.i64.wrap (t5 + 8))), (.int .i64 (IntKind.i64.wrap ((IntKind.i64.wrap (t5 + 8)) + 2))), (.pointer (some ⟨i138, (i139 + ((IntKind.i64.wrap ((IntKind.i64.wrap (t5 + 8)) + 2)).toNat * 1)), none⟩)), (.int .u8 n140), (.bool (n140 != 0)), (.bool (n140 != 0)), (.bool true), undef, undef, undef, undef, undef, undef, (.bool true), (ys.getD 96 undef), (ys.getD 97 undef), (ys.getD 98 undef), (ys.getD 99 undef), (ys.getD 100 undef), (ys.getD 101 undef), (ys.getD 102 undef), (ys.getD 103 undef), (ys.getD 104 undef), (ys.getD 105 undef), (ys.getD 106 undef), (ys.getD 107 undef), (ys.getD 108 undef), (ys.getD 109 undef), (ys.getD 110 undef), (ys.getD 111 undef), (ys.getD 112 undef), (ys.getD 113 undef), (ys.getD 114 undef), (ys.getD 115 undef), (ys.getD 116 undef), (ys.getD 117 undef), (ys.getD 118 undef), (ys.getD 119 undef), (ys.getD 120 undef), (ys.getD 121 undef), (ys.getD 122 undef), (ys.getD 123 undef), (ys.getD 124 undef), undef] H118)
 else (
 inB (IntKind.i64.wrap ((IntKind.i64.wrap (t5 + 8)) + 3)) t0l ∧
 asRow t0 fun i141 i142 =>
 ∃ n143, H118.cell i141 (i142 + ((IntKind.i64.wrap ((IntKind.i64.wrap (t5 + 8)) + 3)).toNat * 1)) = some (.int .u8 n143) ∧
 bif (n143 != 0) then (
 K1 [(.slice t0 t0l 0), undef, (.slice none 0 0), (.int .i64 9), (.slice t4 t4l 0), (.int .i64 (IntKind.i64.wrap (t5 + 8))), (.int .i64 (IntKind.i64.wrap (((t0l : Nat) : Int) - t5))), (.pointer (some ⟨(H.next + 28), 0, none⟩)), (ys.getD 8 undef), (ys.getD 9 undef), (.int .i64 t5), (.slice t0 t0l 0), (.int .i64 ((t0l : Nat) : Int)), (.bool true), (.slice t4 t4l 0), (.int .i64 ((t4l : Nat) : Int)), (.bool false), (.slice t0 t0l 0), (.int .i64 ((t0l : Nat) : Int)), (.int .i64 t5), (.int .i64 (IntKind.i64.wrap (((t0l : Nat) : Int) - t5))), (.int .i64 (IntKind.i64.wrap (((t0l : Nat) : Int) - t5))), (.bool (decide ((IntKind.i64.wrap (((t0l : Nat) : Int) - t5)) < 8))), (.bool false), (.slice t0 t0l 0), (.int .i64 t5), (.pointer (some ⟨i1, (i2 + (t5.toNat * 1)), none⟩)), (.int .u8 n3), (.bool (n3 == 24)), (.bool false), undef, undef, (.bool false), (.bool false), (.slice t0 t0l 0), (.int .i64 t5), (.pointer (some ⟨i103, (i104 + (t5.toNat * 1)), none⟩)), (.int .u8 n105), (.int .i64 (IntKind.i64.wrap n105)), (.slice t0 t0l 0), (.int .i64 t5), (.int .i64 (IntKind.i64.wrap (t5 + 1))), (.pointer (some ⟨i106, (i107 + ((IntKind.i64.wrap (t5 + 1)).toNat * 1)), none⟩)), (.int .u8 n108), (.int .i64 (IntKind.i64.wrap n108)), (.int .i64 (Int.tmod (IntKind.i64.wrap n108) 16)), (.slice t0 t0l 0), (.int .i64 t5), (.int .i64 (IntKind.i64.wrap (t5 + 1))), (.pointer (some ⟨i109, (i110 + ((IntKind.i64.wrap (t5 + 1)).toNat * 1)), none⟩)), (.int .u8 n111), (.int .i64 (IntKind.i64.wrap n111)), (.int .i64 (IntKind.i64.wrap (Int.tdiv (IntKind.i64.wrap n111) 16))), (.slice t0 t0l 0), (.int .i64 t5), (.int .i64 (IntKind.i64.wrap (t5 + 2))), (.int .i64 n114), (.slice t0 t0l 0), (.int .i64 t5), (.int .i64 (IntKind.i64.wrap (t5 + 4))), (.int .i64 n117), (.agg #[(.int .i64 (IntKind.i64.wrap n105)), (.int .i64 (Int.tmod (IntKind.i64.wrap n108) 16)), (.int .i64 (IntKind.i64.wrap (Int.tdiv (IntKind.i64.wrap n111) 16))), (.int .i64 n114), (.int .i64 n117)]), (.int .i64 t5), (.int .i64 (IntKind.i64.wrap (t5 + 8))), (.pointer (some ⟨(H.next + 28), 0, none⟩)), (.int .i64 n131), (.bool true), (.slice t0 t0l 0), (.int .i64 (IntKind.i64.wrap (t5 + 8))), (.pointer (some ⟨i132, (i133 + ((IntKind.i64.wrap (t5 + 8)).toNat * 1)), none⟩)), (.int .u8 n134), (.bool (n134 != 0)), (.bool false), (.slice t0 t0l 0), (.int .i64 (IntKind.i64.wrap (t5 + 8))), (.int .i64 (IntKind.i64.wrap ((IntKind.i64.wrap (t5 + 8)) + 1))), (.pointer (some ⟨i135, (i136 + ((IntKind.i64.wrap ((IntKind.i64.wrap (t5 + 8)) + 1)).toNat * 1)), none⟩)), (.int .u8 n137), (.bool (n137 != 0)), (.bool (n137 != 0)), (.bool false), (.slice t0 t0l 0), (.int .i64 (IntKind.i64.wrap (t5 + 8))), (.int .i64 (IntKind.i64.wrap ((IntKind.i64.wrap (t5 + 8)) + 2))), (.pointer (some ⟨i138, (i139 + ((IntKind.i64.wrap ((IntKind.i64.wrap (t5 + 8)) + 2)).toNat * 1)), none⟩)), (.int .u8 n140), (.bool (n140 != 0)), (.bool (n140 != 0)), (.bool false), (.slice t0 t0l 0), (.int .i64 (IntKind.i64.wrap (t5 + 8))), (.int .i64 (IntKind.i64.wrap ((IntKind.i64.wrap (t5 + 8)) + 3))), (.pointer (some ⟨i141, (i142 + ((IntKind.i64.wrap ((IntKind.i64.wrap (t5 + 8)) + 3)).toNat * 1)), none⟩)), (.int .u8 n143), (.bool (n143 != 0)), (.bool true), (ys.getD 96 undef), (ys.getD 97 undef), (ys.getD 98 undef), (ys.getD 99 undef), (ys.getD 100 undef), (ys.getD 101 undef), (ys.getD 102 undef), (ys.getD 103 undef), (ys.getD 104 undef), (ys.getD 105 undef), (ys.getD 106 undef), (ys.getD 107 undef), (ys.getD 108 undef), (ys.getD 109 undef), (ys.getD 110 undef), (ys.getD 111 undef), (ys.getD 112 undef), (ys.getD 113 undef), (ys.getD 114 undef), (ys.getD 115 undef), (ys.getD 116 undef), (ys.getD 117 undef), (ys.getD 118 undef), (ys.getD 119 undef), (ys.getD 120 undef), (ys.getD 121 undef), (ys.getD 122 undef), (ys.getD 123 undef), (ys.getD 124 undef), undef] H118)
 else (
 inS (IntKind.i64.wrap (t5 + 8)) t0l ∧
 inS (IntKind.i64.wrap ((IntKind.i64.wrap (t5 + 8)) - 4)) (IntKind.i64.wrap (t5 + 8)).toNat ∧
 slK H118 t0 1 (IntKind.i64.wrap ((IntKind.i64.wrap (t5 + 8)) - 4)).toNat ((IntKind.i64.wrap (t5 + 8)).toNat - (IntKind.i64.wrap ((IntKind.i64.wrap (t5 + 8)) - 4)).toNat) fun v144 =>
 AS.asSlice v144 fun a145 i146 =>
 ∃ l147, rowOf H118 1 a145 i146 = some l147 ∧
 apd H118 1 1 none 0 i146 l147 fun a148 i149 H150 =>
 inS (IntKind.i64.wrap ((IntKind.i64.wrap (t5 + 8)) + 8)) t0l ∧
 inS (IntKind.i64.wrap ((IntKind.i64.wrap (t5 + 8)) + 4)) (IntKind.i64.wrap ((IntKind.i64.wrap (t5 + 8)) + 8)).toNat ∧
 slK H150 t0 1 (IntKind.i64.wrap ((IntKind.i64.wrap (t5 + 8)) + 4)).toNat ((IntKind.i64.wrap ((IntKind.i64.wrap (t5 + 8)) + 8)).toNat - (IntKind.i64.wrap ((IntKind.i64.wrap (t5 + 8)) + 4)).toNat) fun v151 =>
 AS.asSlice v151 fun a152 i153 =>
 ∃ l154, rowOf H150 1 a152 i153 = some l154 ∧
 apd H150 1 1 a148 i149 i153 l154 fun a155 i156 H157 =>
 CA en F.crossbarref02_signed [(.slice a155 i156 0), (.int .i64 0), (.int .i64 8)] H157 fun v158 H159 =>
 ∃ n160, v158 = (.int .i64 n160) ∧
 stc H159 (H.next + 28) 4 [(.int .i64 n160)] fun H161 =>
 ∃ n162, ∃ n163, ∃ n164, ∃ n165, ∃ n166, H161.cellsAt (H.next + 28) 0 5 = some [(.int .i64 n162), (.int .i64 n163), (.int .i64 n164), (.int .i64 n165), (.int .i64 n166)] ∧
 CA en F.crossbarref02_Check [(.agg #[(.int .i64 n162), (.int .i64 n163), (.int .i64 n164), (.int .i64 n165), (.int .i64 n166)])] H161 fun v167 H168 =>
 ∃ n169, v167 = (.int .i64 n169) ∧
 bif (n169 != 0) then (
 K1 [(.slice t0 t0l 0), undef, (.slice none 0 0), (.int .i64 n169), (.slice t4 t4l 0), (.int .i64 (IntKind.i64.wrap ((IntKind.i64.wrap (t5 + 8)) + 8))), (.int .i64 (IntKind.i64.wrap (((t0l : Nat) : Int) - t5))), (.pointer (some ⟨(H.next + 28), 0, none⟩)), (.slice a155 i156 0), (.int .i64 n169), (.int .i64 t5), (.slice t0 t0l 0), (.int .i64 ((t0l : Nat) : Int)), (.bool true), (.slice t4 t4l 0), (.int .i64 ((t4l : Nat) : Int)), (.bool false), (.slice t0 t0l 0), (.int .i64 ((t0l : Nat) : Int)), (.int .i64 t5), (.int .i64 (IntKind.i64.wrap (((t0l : Nat) : Int) - t5))), (.int .i64 (IntKind.i64.wrap (((t0l : Nat) : Int) - t5))), (.bool (decide ((IntKind.i64.wrap (((t0l : Nat) : Int) - t5)) < 8))), (.bool false), (.slice t0 t0l 0), (.int .i64 t5), (.pointer (some ⟨i1, (i2 + (t5.toNat * 1)), none⟩)), (.int .u8 n3), (.bool (n3 == 24)), (.bool false), undef, undef, (.bool false), (.bool false), (.slice t0 t0l 0), (.int .i64 t5), (.pointer (some ⟨i103, (i104 + (t5.toNat * 1)), none⟩)), (.int .u8 n105), (.int .i64 (IntKind.i64.wrap n105)), (.slice t0 t0l 0), (.int .i64 t5), (.int .i64 (IntKind.i64.wrap (t5 + 1))), (.pointer (some ⟨i106, (i107 + ((IntKind.i64.wrap (t5 + 1)).toNat * 1)), none⟩)), (.int .u8 n108), (.int .i64 (IntKind.i64.wrap n108)), (.int .i64 (Int.tmod (IntKind.i64.wrap n108) 16)), (.slice t0 t0l 0), (.int .i64 t5), (.int .i64 (IntKind.i64.wrap (t5 + 1))), (.pointer (some ⟨i109, (i110 + ((IntKind.i64.wrap (t5 + 1)).toNat * 1)), none⟩)), (.int .u8 n111), (.int .i64 (IntKind.i64.wrap n111)), (.int .i64 (IntKind.i64.wrap (Int.tdiv (IntKind.i64.wrap n111) 16))), (.slice t0 t0l 0), (.int .i64 t5), (.int .i64 (IntKind.i64.wrap (t5 + 2))), (.int .i64 n114), (.slice t0 t0l 0), (.int .i64 t5), (.int .i64 (IntKind.i64.wrap (t5 + 4))), (.int .i64 n117), (.agg #[(.int .i64 (IntKind.i64.wrap n105)), (.int .i64 (Int.tmod (IntKind.i64.wrap n108) 16)), (.int .i64 (IntKind.i64.wrap (Int.tdiv (IntKind.i64.wrap n111) 16))), (.int .i64 n114), (.int .i64 n117)]), (.int .i64 t5), (.int .i64 (IntKind.i64.wrap (t5 + 8))), (.pointer (some ⟨(H.next + 28), 0, none⟩)), (.int .i64 n131), (.bool true), (.slice t0 t0l 0), (.int .i64 (IntKind.i64.wrap (t5 + 8))), (.pointer (some ⟨i132, (i133 + ((IntKind.i64.wrap (t5 + 8)).toNat * 1)), none⟩)), (.int .u8 n134), (.bool (n134 != 0)), (.bool false), (.slice t0 t0l 0), (.int .i64 (IntKind.i64.wrap (t5 + 8))), (.int .i64 (IntKind.i64.wrap ((IntKind.i64.wrap (t5 + 8)) + 1))), (.pointer (some ⟨i135, (i136 + ((IntKind.i64.wrap ((IntKind.i64.wrap (t5 + 8)) + 1)).toNat * 1)), none⟩)), (.int .u8 n137), (.bool (n137 != 0)), (.bool (n137 != 0)), (.bool false), (.slice t0 t0l 0), (.int .i64 (IntKind.i64.wrap (t5 + 8))), (.int .i64 (IntKind.i64.wrap ((IntKind.i64.wrap (t5 + 8)) + 2))), (.pointer (some ⟨i138, (i139 + ((IntKind.i64.wrap ((IntKind.i64.wrap (t5 + 8)) + 2)).toNat * 1)), none⟩)), (.int .u8 n140), (.bool (n140 != 0)), (.bool (n140 != 0)), (.bool false), (.slice t0 t0l 0), (.int .i64 (IntKind.i64.wrap (t5 + 8))), (.int .i64 (IntKind.i64.wrap ((IntKind.i64.wrap (t5 + 8)) + 3))), (.pointer (some ⟨i141, (i142 + ((IntKind.i64.wrap ((IntKind.i64.wrap (t5 + 8)) + 3)).toNat * 1)), none⟩)), (.int .u8 n143), (.bool (n143 != 0)), (.bool false), (.slice none 0 0), (.slice t0 t0l 0), (.int .i64 (IntKind.i64.wrap (t5 + 8))), (.int .i64 (IntKind.i64.wrap ((IntKind.i64.wrap (t5 + 8)) - 4))), (.int .i64 (IntKind.i64.wrap (t5 + 8))), v144, (.slice a148 i149 0), (.slice a148 i149 0), (.slice t0 t0l 0), (.int .i64 (IntKind.i64.wrap (t5 + 8))), (.int .i64 (IntKind.i64.wrap ((IntKind.i64.wrap (t5 + 8)) + 4))), (.int .i64 (IntKind.i64.wrap (t5 + 8))), (.int .i64 (IntKind.i64.wrap ((IntKind.i64.wrap (t5 + 8)) + 8))), v151, (.slice a155 i156 0), (.slice a155 i156 0), (.int .i64 n160), (.pointer (some ⟨(H.next + 28), 4, none⟩)), (.int .i64 (IntKind.i64.wrap (t5 + 8))), (.int .i64 (IntKind.i64.wrap ((IntKind.i64.wrap (t5 + 8)) + 8))), (.agg #[(.int .i64 n162), (.int .i64 n163), (.int .i64 n164), (.int .i64 n165), (.int .i64 n166)]), (.int .i64 n169), (.int .i64 n169), (.bool true), (.int .i64 n169), (ys.getD 121 undef), (ys.getD 122 undef), (ys.getD 123 undef), (ys.getD 124 undef), undef] H168)
 else (
 ∃ n170, ∃ n171, ∃ n172, ∃ n173, ∃ n174, H168.cellsAt (H.next + 28) 0 5 = some [(.int .i64 n170), (.int .i64 n171), (.int .i64 n172), (.int .i64 n173), (.int .i64 n174)] ∧
 nwH H168 (.cells true 5 [(.int .i64 n170), (.int .i64 n171), (.int .i64 n172), (.int .i64 n173), (.int .i64 n174)]) fun i175 H176 =>
 ∃ l177, rowOf H176 5 (some ⟨i175, 0, none⟩) 1 = some l177 ∧
 apd H176 40 5 t4 t4l 1 l177 fun a178 i179 H180 =>
 ∃ k181, k181 < n ∧
 I k181 t2 t2l t3 a178 i179 (IntKind.i64.wrap ((IntKind.i64.wrap (t5 + 8)) + 8)) H180))))))
 else (
 ∃ n182, ∃ n183, ∃ n184, ∃ n185, ∃ n186, H118.cellsAt (H.next + 28) 0 5 = some [(.int .i64 n182), (.int .i64 n183), (.int .i64 n184), (.int .i64 n185), (.int .i64 n186)] ∧
 CA en F.crossbarref02_Check [(.agg #[(.int .i64 n182), (.int .i64 n183), (.int .i64 n184), (.int .i64 n185), (.int .i64 n186)])] H118 fun v187 H188 =>
 ∃ n189, v187 = (.int .i64 n189) ∧
 bif (n189 != 0) then (
 K1 [(.slice t0 t0l 0), undef, (.slice none 0 0), (.int .i64 n189), (.slice t4 t4l 0), (.int .i64 (IntKind.i64.wrap (t5 + 8))), (.int .i64 (IntKind.i64.wrap (((t0l : Nat) : Int) - t5))), (.pointer (some ⟨(H.next + 28), 0, none⟩)), (ys.getD 8 undef), (.int .i64 n189), (.int .i64 t5), (.slice t0 t0l 0), (.int .i64 ((t0l : Nat) : Int)), (.bool true), (.slice t4 t4l 0), (.int .i64 ((t4l : Nat) : Int)), (.bool false), (.slice t0 t0l 0), (.int .i64 ((t0l : Nat) : Int)), (.int .i64 t5), (.int .i64 (IntKind.i64.wrap (((t0l : Nat) : Int) - t5))), (.int .i64 (IntKind.i64.wrap (((t0l : Nat) : Int) - t5))), (.bool (decide ((IntKind.i64.wrap (((t0l : Nat) : Int) - t5)) < 8))), (.bool false), (.slice t0 t0l 0), (.int .i64 t5), (.pointer (some ⟨i1, (i2 + (t5.toNat * 1)), none⟩)), (.int .u8 n3), (.bool (n3 == 24)), (.bool false), undef, undef, (.bool false), (.bool false), (.slice t0 t0l 0), (.int .i64 t5), (.pointer (some ⟨i103, (i104 + (t5.toNat * 1)), none⟩)), (.int .u8 n105), (.int .i64 (IntKind.i64.wrap n105)), (.slice t0 t0l 0), (.int .i64 t5), (.int .i64 (IntKind.i64.wrap (t5 + 1))), (.pointer (some ⟨i106, (i107 + ((IntKind.i64.wrap (t5 + 1)).toNat * 1)), none⟩)), (.int .u8 n108), (.int .i64 (IntKind.i64.wrap n108)), (.int .i64 (Int.tmod (IntKind.i64.wrap n108) 16)), (.slice t0 t0l 0), (.int .i64 t5), (.int .i64 (IntKind.i64.wrap (t5 + 1))), (.pointer (some ⟨i109, (i110 + ((IntKind.i64.wrap (t5 + 1)).toNat * 1)), none⟩)), (.int .u8 n111), (.int .i64 (IntKind.i64.wrap n111)), (.int .i64 (IntKind.i64.wrap (Int.tdiv (IntKind.i64.wrap n111) 16))), (.slice t0 t0l 0), (.int .i64 t5), (.int .i64 (IntKind.i64.wrap (t5 + 2))), (.int .i64 n114), (.slice t0 t0l 0), (.int .i64 t5), (.int .i64 (IntKind.i64.wrap (t5 + 4))), (.int .i64 n117), (.agg #[(.int .i64 (IntKind.i64.wrap n105)), (.int .i64 (Int.tmod (IntKind.i64.wrap n108) 16)), (.int .i64 (IntKind.i64.wrap (Int.tdiv (IntKind.i64.wrap n111) 16))), (.int .i64 n114), (.int .i64 n117)]), (.int .i64 t5), (.int .i64 (IntKind.i64.wrap (t5 + 8))), (.pointer (some ⟨(H.next + 28), 0, none⟩)), (.int .i64 n131), (.bool false), (ys.getD 67 undef), (ys.getD 68 undef), (ys.getD 69 undef), (ys.getD 70 undef), (ys.getD 71 undef), (ys.getD 72 undef), (ys.getD 73 undef), (ys.getD 74 undef), (ys.getD 75 undef), (ys.getD 76 undef), (ys.getD 77 undef), (ys.getD 78 undef), (ys.getD 79 undef), (ys.getD 80 undef), (ys.getD 81 undef), (ys.getD 82 undef), (ys.getD 83 undef), (ys.getD 84 undef), (ys.getD 85 undef), (ys.getD 86 undef), (ys.getD 87 undef), (ys.getD 88 undef), (ys.getD 89 undef), (ys.getD 90 undef), (ys.getD 91 undef), (ys.getD 92 undef), (ys.getD 93 undef), (ys.getD 94 undef), (ys.getD 95 undef), (ys.getD 96 undef), (ys.getD 97 undef), (ys.getD 98 undef), (ys.getD 99 undef), (ys.getD 100 undef), (ys.getD 101 undef), (ys.getD 102 undef), (ys.getD 103 undef), (ys.getD 104 undef), (ys.getD 105 undef), (ys.getD 106 undef), (ys.getD 107 undef), (ys.getD 108 undef), (ys.getD 109 undef), (ys.getD 110 undef), (ys.getD 111 undef), (ys.getD 112 undef), (ys.getD 113 undef), (ys.getD 114 undef), (ys.getD 115 undef), (.agg #[(.int .i64 n182), (.int .i64 n183), (.int .i64 n184), (.int .i64 n185), (.int .i64 n186)]), (.int .i64 n189), (.int .i64 n189), (.bool true), (.int .i64 n189), (ys.getD 121 undef), (ys.getD 122 undef), (ys.getD 123 undef), (ys.getD 124 undef), undef] H188)
 else (
 ∃ n190, ∃ n191, ∃ n192, ∃ n193, ∃ n194, H188.cellsAt (H.next + 28) 0 5 = some [(.int .i64 n190), (.int .i64 n191), (.int .i64 n192), (.int .i64 n193), (.int .i64 n194)] ∧
 nwH H188 (.cells true 5 [(.int .i64 n190), (.int .i64 n191), (.int .i64 n192), (.int .i64 n193), (.int .i64 n194)]) fun i195 H196 =>
 ∃ l197, rowOf H196 5 (some ⟨i195, 0, none⟩) 1 = some l197 ∧
 apd H196 40 5 t4 t4l 1 l197 fun a198 i199 H200 =>
 ∃ k201, k201 < n ∧
 I k201 t2 t2l t3 a198 i199 (IntKind.i64.wrap (t5 + 8)) H200))) ∧
 ((∃ c121, ((H.bump 30).set (H.next + 28) (.cells true 0 [(.int .i64 0), (.int .i64 0), (.int .i64 0), (.int .i64 0), (.int .i64 0)])).get (H.next + 28) = some (.cells true 0 c121) ∧ sameN.sameL 8 [(.int .i64 0), (.int .i64 0), (.int .i64 0), (.int .i64 0), (.int .i64 0)] c121 = true) ∧ (∃ c120, H113.get (H.next + 28) = some (.cells true 0 c120) ∧ sameN.sameL 8 [(.int .i64 0), (.int .i64 0), (.int .i64 0), (.int .i64 0), (.int .i64 0)] c120 = true) ∧ (∃ c119, H116.get (H.next + 28) = some (.cells true 0 c119) ∧ sameN.sameL 8 [(.int .i64 0), (.int .i64 0), (.int .i64 0), (.int .i64 0), (.int .i64 0)] c119 = true) ∧ True) ∧
 (((IntKind.i64.wrap (t5 + 4)) = (IntKind.i64.wrap (t5 + 4))) ∧ ((IntKind.i64.wrap (t5 + 4)) = (IntKind.i64.wrap (t5 + 4))) ∧ True) ∧
 ((nz 16 ∧
 (IntKind.i64.wrap (Int.tdiv (IntKind.i64.wrap n111) 16)) = (IntKind.i64.wrap (Int.tdiv (IntKind.i64.wrap n111) 16))) ∧ (nz 16 ∧
 (IntKind.i64.wrap (Int.tdiv (IntKind.i64.wrap n111) 16)) = (IntKind.i64.wrap (Int.tdiv (IntKind.i64.wrap n111) 16))) ∧ (nz 16 ∧
 (IntKind.i64.wrap (Int.tdiv (IntKind.i64.wrap n111) 16)) = (IntKind.i64.wrap (Int.tdiv (IntKind.i64.wrap n111) 16))) ∧ True) ∧
 ((∃ n124, ((H.bump 30).set (H.next + 28) (.cells true 0 [(.int .i64 0), (.int .i64 0), (.int .i64 0), (.int .i64 0), (.int .i64 0)])).cell i109 (i110 + ((IntKind.i64.wrap (t5 + 1)).toNat * 1)) = some (.int .u8 n124) ∧
 n111 = n124) ∧ (∃ n123, H113.cell i109 (i110 + ((IntKind.i64.wrap (t5 + 1)).toNat * 1)) = some (.int .u8 n123) ∧
 n111 = n123) ∧ (∃ n122, H116.cell i109 (i110 + ((IntKind.i64.wrap (t5 + 1)).toNat * 1)) = some (.int .u8 n122) ∧
 n111 = n122) ∧ True) ∧
 (((IntKind.i64.wrap (t5 + 1)) = (IntKind.i64.wrap (t5 + 1))) ∧ ((IntKind.i64.wrap (t5 + 1)) = (IntKind.i64.wrap (t5 + 1))) ∧ ((IntKind.i64.wrap (t5 + 1)) = (IntKind.i64.wrap (t5 + 1))) ∧ True) ∧
 ((nz 16 ∧
 (Int.tmod (IntKind.i64.wrap n108) 16) = (Int.tmod (IntKind.i64.wrap n108) 16)) ∧ (nz 16 ∧
 (Int.tmod (IntKind.i64.wrap n108) 16) = (Int.tmod (IntKind.i64.wrap n108) 16)) ∧ (nz 16 ∧
 (Int.tmod (IntKind.i64.wrap n108) 16) = (Int.tmod (IntKind.i64.wrap n108) 16)) ∧ True) ∧
 ((∃ n127, ((H.bump 30).set (H.next + 28) (.cells true 0 [(.int .i64 0), (.int .i64 0), (.int .i64 0), (.int .i64 0), (.int .i64 0)])).cell i106 (i107 + ((IntKind.i64.wrap (t5 + 1)).toNat * 1)) = some (.int .u8 n127) ∧
 n108 = n127) ∧ (∃ n126, H113.cell i106 (i107 + ((IntKind.i64.wrap (t5 + 1)).toNat * 1)) = some (.int .u8 n126) ∧
 n108 = n126) ∧ (∃ n125, H116.cell i106 (i107 + ((IntKind.i64.wrap (t5 + 1)).toNat * 1)) = some (.int .u8 n125) ∧
 n108 = n125) ∧ True) ∧
 (((IntKind.i64.wrap (t5 + 1)) = (IntKind.i64.wrap (t5 + 1))) ∧ ((IntKind.i64.wrap (t5 + 1)) = (IntKind.i64.wrap (t5 + 1))) ∧ ((IntKind.i64.wrap (t5 + 1)) = (IntKind.i64.wrap (t5 + 1))) ∧ True) ∧
 ((∃ n130, ((H.bump 30).set (H.next + 28) (.cells true 0 [(.int .i64 0), (.int .i64 0), (.int .i64 0), (.int .i64 0), (.int .i64 0)])).cell i103 (i104 + (t5.toNat * 1)) = some (.int .u8 n130) ∧
 n105 = n130) ∧ (∃ n129, H113.cell i103 (i104 + (t5.toNat * 1)) = some (.int .u8 n129) ∧
 n105 = n129) ∧ (∃ n128, H116.cell i103 (i104 + (t5.toNat * 1)) = some (.int .u8 n128) ∧
 n105 = n128) ∧ True) ∧
 True))))
 else (
 K0 [(.slice t0 t0l 0), undef, (.slice t2 t2l 0), (.int .i64 t3), (.slice t4 t4l 0), (.int .i64 t5), (ys.getD 6 undef), (ys.getD 7 undef), (ys.getD 8 undef), (ys.getD 9 undef), (.int .i64 t5), (.slice t0 t0l 0), (.int .i64 ((t0l : Nat) : Int)), (.bool false), (ys.getD 14 undef), (ys.getD 15 undef), (ys.getD 16 undef), (ys.getD 17 undef), (ys.getD 18 undef), (ys.getD 19 undef), (ys.getD 20 undef), (ys.getD 21 undef), (ys.getD 22 undef), (ys.getD 23 undef), (ys.getD 24 undef), (ys.getD 25 undef), (ys.getD 26 undef), (ys.getD 27 undef), (ys.getD 28 undef), (ys.getD 29 undef), (ys.getD 30 undef), (ys.getD 31 undef), (ys.getD 32 undef), (ys.getD 33 undef), (ys.getD 34 undef), (ys.getD 35 undef), (ys.getD 36 undef), (ys.getD 37 undef), (ys.getD 38 undef), (ys.getD 39 undef), (ys.getD 40 undef), (ys.getD 41 undef), (ys.getD 42 undef), (ys.getD 43 undef), (ys.getD 44 undef), (ys.getD 45 undef), (ys.getD 46 undef), (ys.getD 47 undef), (ys.getD 48 undef), (ys.getD 49 undef), (ys.getD 50 undef), (ys.getD 51 undef), (ys.getD 52 undef), (ys.getD 53 undef), (ys.getD 54 undef), (ys.getD 55 undef), (ys.getD 56 undef), (ys.getD 57 undef), (ys.getD 58 undef), (ys.getD 59 undef), (ys.getD 60 undef), (ys.getD 61 undef), (ys.getD 62 undef), (ys.getD 63 undef), (ys.getD 64 undef), (ys.getD 65 undef), (ys.getD 66 undef), (ys.getD 67 undef), (ys.getD 68 undef), (ys.getD 69 undef), (ys.getD 70 undef), (ys.getD 71 undef), (ys.getD 72 undef), (ys.getD 73 undef), (ys.getD 74 undef), (ys.getD 75 undef), (ys.getD 76 undef), (ys.getD 77 undef), (ys.getD 78 undef), (ys.getD 79 undef), (ys.getD 80 undef), (ys.getD 81 undef), (ys.getD 82 undef), (ys.getD 83 undef), (ys.getD 84 undef), (ys.getD 85 undef), (ys.getD 86 undef), (ys.getD 87 undef), (ys.getD 88 undef), (ys.getD 89 undef), (ys.getD 90 undef), (ys.getD 91 undef), (ys.getD 92 undef), (ys.getD 93 undef), (ys.getD 94 undef), (ys.getD 95 undef), (ys.getD 96 undef), (ys.getD 97 undef), (ys.getD 98 undef), (ys.getD 99 undef), (ys.getD 100 undef), (ys.getD 101 undef), (ys.getD 102 undef), (ys.getD 103 undef), (ys.getD 104 undef), (ys.getD 105 undef), (ys.getD 106 undef), (ys.getD 107 undef), (ys.getD 108 undef), (ys.getD 109 undef), (ys.getD 110 undef), (ys.getD 111 undef), (ys.getD 112 undef), (ys.getD 113 undef), (ys.getD 114 undef), (ys.getD 115 undef), (ys.getD 116 undef), (ys.getD 117 undef), (ys.getD 118 undef), (ys.getD 119 undef), (ys.getD 120 undef), (ys.getD 121 undef), (ys.getD 122 undef), (ys.getD 123 undef), (ys.getD 124 undef), undef] H))) :
    LA en L_crossbarref02_Get_0 [(.slice t0 t0l 0), undef, (.slice t2 t2l 0), (.int .i64 t3), (.slice t4 t4l 0), (.int .i64 t5), t6, t7, t8, t9, t10, t11, t12, t13, t14, t15, t16, t17, t18, t19, t20, t21, t22, t23, t24, t25, t26, t27, t28, t29, t30, t31, t32, t33, t34, t35, t36, t37, t38, t39, t40, t41, t42, t43, t44, t45, t46, t47, t48, t49, t50, t51, t52, t53, t54, t55, t56, t57, t58, t59, t60, t61, t62, t63, t64, t65, t66, t67, t68, t69, t70, t71, t72, t73, t74, t75, t76, t77, t78, t79, t80, t81, t82, t83, t84, t85, t86, t87, t88, t89, t90, t91, t92, t93, t94, t95, t96, t97, t98, t99, t100, t101, t102, t103, t104, t105, t106, t107, t108, t109, t110, t111, t112, t113, t114, t115, t116, t117, t118, t119, t120, t121, t122, t123, t124, undef] H [(X.exit 0, K0), (X.ret, K1)] := by
  refine LA_rule (Z := []) (fun m xs H' => asSl (xs.getD 2 undef) fun t2 t2l => AS.asInt .i64 (xs.getD 3 undef) fun t3 => asSl (xs.getD 4 undef) fun t4 t4l => AS.asInt .i64 (xs.getD 5 undef) fun t5 => I m t2 t2l t3 t4 t4l t5 H') ?_ n H ?_
  · intro n H
    suffices hs : ∀ s10 : Value, ∀ s11 : Value, ∀ s12 : Value, ∀ s13 : Value, ∀ s14 : Value, ∀ s15 : Value, ∀ s16 : Value, ∀ s2 : Value, ∀ s3 : Value, ∀ s17 : Value, ∀ s18 : Value, ∀ s19 : Value, ∀ s20 : Value, ∀ s6 : Value, ∀ s21 : Value, ∀ s22 : Value, ∀ s23 : Value, ∀ s24 : Value, ∀ s25 : Value, ∀ s26 : Value, ∀ s27 : Value, ∀ s28 : Value, ∀ s29 : Value, ∀ s30 : Value, ∀ s31 : Value, ∀ s32 : Value, ∀ s33 : Value, ∀ s34 : Value, ∀ s35 : Value, ∀ s36 : Value, ∀ s37 : Value, ∀ s38 : Value, ∀ s39 : Value, ∀ s40 : Value, ∀ s41 : Value, ∀ s42 : Value, ∀ s43 : Value, ∀ s44 : Value, ∀ s45 : Value, ∀ s46 : Value, ∀ s47 : Value, ∀ s48 : Value, ∀ s49 : Value, ∀ s50 : Value, ∀ s51 : Value, ∀ s52 : Value, ∀ s53 : Value, ∀ s54 : Value, ∀ s55 : Value, ∀ s56 : Value, ∀ s57 : Value, ∀ s58 : Value, ∀ s59 : Value, ∀ s60 : Value, ∀ s61 : Value, ∀ s7 : Value, ∀ s62 : Value, ∀ s63 : Value, ∀ s5 : Value, ∀ s64 : Value, ∀ s65 : Value, ∀ s66 : Value, ∀ s67 : Value, ∀ s68 : Value, ∀ s69 : Value, ∀ s70 : Value, ∀ s71 : Value, ∀ s72 : Value, ∀ s73 : Value, ∀ s74 : Value, ∀ s75 : Value, ∀ s76 : Value, ∀ s77 : Value, ∀ s78 : Value, ∀ s79 : Value, ∀ s80 : Value, ∀ s81 : Value, ∀ s82 : Value, ∀ s83 : Value, ∀ s84 : Value, ∀ s85 : Value, ∀ s86 : Value, ∀ s87 : Value, ∀ s88 : Value, ∀ s89 : Value, ∀ s90 : Value, ∀ s91 : Value, ∀ s92 : Value, ∀ s93 : Value, ∀ s94 : Value, ∀ s95 : Value, ∀ s8 : Value, ∀ s96 : Value, ∀ s97 : Value, ∀ s98 : Value, ∀ s99 : Value, ∀ s100 : Value, ∀ s101 : Value, ∀ s102 : Value, ∀ s103 : Value, ∀ s104 : Value, ∀ s105 : Value, ∀ s106 : Value, ∀ s107 : Value, ∀ s108 : Value, ∀ s109 : Value, ∀ s110 : Value, ∀ s111 : Value, ∀ s112 : Value, ∀ s113 : Value, ∀ s114 : Value, ∀ s115 : Value, ∀ s116 : Value, ∀ s117 : Value, ∀ s9 : Value, ∀ s118 : Value, ∀ s119 : Value, ∀ s120 : Value, ∀ s121 : Value, ∀ s122 : Value, ∀ s123 : Value, ∀ s124 : Value, ∀ s4 : Value, ((asSl s2 fun t2 t2l => AS.asInt .i64 s3 fun t3 => asSl s4 fun t4 t4l => AS.asInt .i64 s5 fun t5 => I n t2 t2l t3 t4 t4l t5 H) → wpCode en L_crossbarref02_Get_0 [] [(.slice t0 t0l 0), undef, s2, s3, s4, s5, s6, s7, s8, s9, s10, s11, s12, s13, s14, s15, s16, s17, s18, s19, s20, s21, s22, s23, s24, s25, s26, s27, s28, s29, s30, s31, s32, s33, s34, s35, s36, s37, s38, s39, s40, s41, s42, s43, s44, s45, s46, s47, s48, s49, s50, s51, s52, s53, s54, s55, s56, s57, s58, s59, s60, s61, s62, s63, s64, s65, s66, s67, s68, s69, s70, s71, s72, s73, s74, s75, s76, s77, s78, s79, s80, s81, s82, s83, s84, s85, s86, s87, s88, s89, s90, s91, s92, s93, s94, s95, s96, s97, s98, s99, s100, s101, s102, s103, s104, s105, s106, s107, s108, s109, s110, s111, s112, s113, s114, s115, s116, s117, s118, s119, s120, s121, s122, s123, s124, undef] H (loopQ (fun m xs H' => asSl (xs.getD 2 undef) fun t2 t2l => AS.asInt .i64 (xs.getD 3 undef) fun t3 => asSl (xs.getD 4 undef) fun t4 t4l => AS.asInt .i64 (xs.getD 5 undef) fun t5 => I m t2 t2l t3 t4 t4l t5 H') n [(X.exit 0, K0), (X.ret, K1)])) by
      apply turnInto hs
      kernel_rfl
    intro s10 s11 s12 s13 s14 s15 s16 s2 s3 s17 s18 s19 s20 s6 s21 s22 s23 s24 s25 s26 s27 s28 s29 s30 s31 s32 s33 s34 s35 s36 s37 s38 s39 s40 s41 s42 s43 s44 s45 s46 s47 s48 s49 s50 s51 s52 s53 s54 s55 s56 s57 s58 s59 s60 s61 s7 s62 s63 s5 s64 s65 s66 s67 s68 s69 s70 s71 s72 s73 s74 s75 s76 s77 s78 s79 s80 s81 s82 s83 s84 s85 s86 s87 s88 s89 s90 s91 s92 s93 s94 s95 s8 s96 s97 s98 s99 s100 s101 s102 s103 s104 s105 s106 s107 s108 s109 s110 s111 s112 s113 s114 s115 s116 s117 s9 s118 s119 s120 s121 s122 s123 s124 s4 hP
    replace hP := asSl_elim hP
    obtain ⟨t2, t2l, rfl, hP⟩ := hP
    replace hP := asInt_elim hP
    obtain ⟨t3, rfl, hP⟩ := hP
    replace hP := asSl_elim hP
    obtain ⟨t4, t4l, rfl, hP⟩ := hP
    replace hP := asInt_elim hP
    obtain ⟨t5, rfl, hP⟩ := hP
    apply turnInto (hstep n t2 t2l t3 t4 t4l t5 [(.slice t0 t0l 0), undef, (.slice t2 t2l 0), (.int .i64 t3), (.slice t4 t4l 0), (.int .i64 t5), s6, s7, s8, s9, s10, s11, s12, s13, s14, s15, s16, s17, s18, s19, s20, s21, s22, s23, s24, s25, s26, s27, s28, s29, s30, s31, s32, s33, s34, s35, s36, s37, s38, s39, s40, s41, s42, s43, s44, s45, s46, s47, s48, s49, s50, s51, s52, s53, s54, s55, s56, s57, s58, s59, s60, s61, s62, s63, s64, s65, s66, s67, s68, s69, s70, s71, s72, s73, s74, s75, s76, s77, s78, s79, s80, s81, s82, s83, s84, s85, s86, s87, s88, s89, s90, s91, s92, s93, s94, s95, s96, s97, s98, s99, s100, s101, s102, s103, s104, s105, s106, s107, s108, s109, s110, s111, s112, s113, s114, s115, s116, s117, s118, s119, s120, s121, s122, s123, s124, undef] H hP)
    kernel_rfl
  · apply turnInto h0
    kernel_rfl


/-! crossbarref02_Check -/

theorem vc_crossbarref02_Check (x0_0 : Int) (x0_1 : Int) (x0_2 : Int) (x0_3 : Int) (x0_4 : Int) (H : Heap) (R : Value → Heap → Prop) :
    (
 nwH H (.cells true 0 [(.int .i64 x0_0), (.int .i64 x0_1), (.int .i64 x0_2), (.int .i64 x0_3), (.int .i64 x0_4)]) fun i1 H2 =>
 ∃ n3, H2.cell i1 0 = some (.int .i64 n3) ∧
 CA en F.crossbarref02_Find [(.int .i64 n3)] H2 fun v4 H5 =>
 ∃ b6, ∃ s7, ∃ b8, ∃ n9, ∃ n10, v4 = (.agg #[(.bool b6), (.string s7), (.bool b8), (.int .i64 n9), (.int .i64 n10)]) ∧
 nwH H5 (.cells true 0 [(.bool false), (.string ⟨#[]⟩), (.bool false), (.int .i64 0), (.int .i64 0)]) fun i11 H12 =>
 stc H12 i11 0 [(.bool b6), (.string s7), (.bool b8), (.int .i64 n9), (.int .i64 n10)] fun H13 =>
 ∃ b14, H13.cell i11 0 = some (.bool b14) ∧
 bif (!b14) then (
 R (.int .i64 7) H13)
 else (
 ∃ n15, H13.cell i1 4 = some (.int .i64 n15) ∧
 CA en F.crossbarref02_Atomic [(.int .i64 n15)] H13 fun v16 H17 =>
 ∃ b18, ∃ b19, v16 = (.tuple #[(.bool b18), (.bool b19)]) ∧
 ∃ J20 : List Value → Heap → Prop, (
 ∃ n21, H17.cell i1 0 = some (.int .i64 n21) ∧
 bif (n21 == 195) then (
 J20 [(.bool true)] H17)
 else (
 ∃ n22, H17.cell i1 0 = some (.int .i64 n22) ∧
 J20 [(.bool (n22 == 219))] H17)) ∧
 ∀ (ys23 : Fr) (H24 : Heap), ∀ b25, J20 [(.bool b25)] H24 →
 ∃ J26 : List Value → Heap → Prop, (
 ∃ n27, H24.cell i1 1 = some (.int .i64 n27) ∧
 bif (decide (n27 < 0)) then (
 J26 [(.bool true)] H24)
 else (
 ∃ n28, H24.cell i1 1 = some (.int .i64 n28) ∧
 bif (decide (n28 > 10)) then (
 J26 [(.bool true)] H24)
 else (
 ∃ n29, H24.cell i1 2 = some (.int .i64 n29) ∧
 bif (decide (n29 < 0)) then (
 J26 [(.bool true)] H24)
 else (
 ∃ n30, H24.cell i1 2 = some (.int .i64 n30) ∧
 bif (decide (n30 > 10)) then (
 J26 [(.bool true)] H24)
 else (
 ∃ b31, H24.cell i11 2 = some (.bool b31) ∧
 bif b31 then (
 ∃ n32, H24.cell i1 1 = some (.int .i64 n32) ∧
 bif (n32 == 10) then (
 J26 [(.bool true)] H24)
 else (
 bif b25 then (
 bif b19 then (
 ∃ n33, H24.cell i1 2 = some (.int .i64 n33) ∧
 J26 [(.bool (n33 == 10))] H24)
 else (
 J26 [(.bool false)] H24))
 else (
 J26 [(.bool false)] H24)))
 else (
 bif b25 then (
 bif b19 then (
 ∃ n34, H24.cell i1 2 = some (.int .i64 n34) ∧
 J26 [(.bool (n34 == 10))] H24)
 else (
 J26 [(.bool false)] H24))
 else (
 J26 [(.bool false)] H24))))))) ∧
 ∀ (ys35 : Fr) (H36 : Heap), ∀ b37, J26 [(.bool b37)] H36 →
 bif b37 then (
 R (.int .i64 8) H36)
 else (
 ∃ J38 : List Value → Heap → Prop, (
 ∃ s39, H36.cell i11 1 = some (.string s39) ∧
 CA en F.crossbarref02_has [(.string s39), (.int .u8 100)] H36 fun v40 H41 =>
 ∃ b42, v40 = (.bool b42) ∧
 bif (!b42) then (
 ∃ n43, H41.cell i1 1 = some (.int .i64 n43) ∧
 bif (n43 != 0) then (
 J38 [(.bool true)] H41)
 else (
 ∃ s44, H41.cell i11 1 = some (.string s44) ∧
 CA en F.crossbarref02_has [(.string s44), (.int .u8 115)] H41 fun v45 H46 =>
 ∃ b47, v45 = (.bool b47) ∧
 bif (!b47) then (
 ∃ n48, H46.cell i1 2 = some (.int .i64 n48) ∧
 bif (n48 != 0) then (
 J38 [(.bool true)] H46)
 else (
 ∃ s49, H46.cell i11 1 = some (.string s49) ∧
 CA en F.crossbarref02_has [(.string s49), (.int .u8 111)] H46 fun v50 H51 =>
 ∃ b52, v50 = (.bool b52) ∧
 bif (!b52) then (
 ∃ n53, H51.cell i1 3 = some (.int .i64 n53) ∧
 bif (n53 != 0) then (
 J38 [(.bool true)] H51)
 else (
 ∃ s54, H51.cell i11 1 = some (.string s54) ∧
 CA en F.crossbarref02_has [(.string s54), (.int .u8 105)] H51 fun v55 H56 =>
 ∃ b57, v55 = (.bool b57) ∧
 bif (!b57) then (
 ∃ n58, H56.cell i1 4 = some (.int .i64 n58) ∧
 bif (n58 != 0) then (
 J38 [(.bool true)] H56)
 else (
 ∃ n59, H56.cell i1 0 = some (.int .i64 n59) ∧
 bif (n59 == 24) then (
 ∃ n60, H56.cell i1 2 = some (.int .i64 n60) ∧
 J38 [(.bool (decide (n60 > 1)))] H56)
 else (
 J38 [(.bool false)] H56)))
 else (
 ∃ n61, H56.cell i1 0 = some (.int .i64 n61) ∧
 bif (n61 == 24) then (
 ∃ n62, H56.cell i1 2 = some (.int .i64 n62) ∧
 J38 [(.bool (decide (n62 > 1)))] H56)
 else (
 J38 [(.bool false)] H56))))
 else (
 ∃ s63, H51.cell i11 1 = some (.string s63) ∧
 CA en F.crossbarref02_has [(.string s63), (.int .u8 105)] H51 fun v64 H65 =>
 ∃ b66, v64 = (.bool b66) ∧
 bif (!b66) then (
 ∃ n67, H65.cell i1 4 = some (.int .i64 n67) ∧
 bif (n67 != 0) then (
 J38 [(.bool true)] H65)
 else (
 ∃ n68, H65.cell i1 0 = some (.int .i64 n68) ∧
 bif (n68 == 24) then (
 ∃ n69, H65.cell i1 2 = some (.int .i64 n69) ∧
 J38 [(.bool (decide (n69 > 1)))] H65)
 else (
 J38 [(.bool false)] H65)))
 else (
 ∃ n70, H65.cell i1 0 = some (.int .i64 n70) ∧
 bif (n70 == 24) then (
 ∃ n71, H65.cell i1 2 = some (.int .i64 n71) ∧
 J38 [(.bool (decide (n71 > 1)))] H65)
 else (
 J38 [(.bool false)] H65)))))
 else (
 ∃ s72, H46.cell i11 1 = some (.string s72) ∧
 CA en F.crossbarref02_has [(.string s72), (.int .u8 111)] H46 fun v73 H74 =>
 ∃ b75, v73 = (.bool b75) ∧
 bif (!b75) then (
 ∃ n76, H74.cell i1 3 = some (.int .i64 n76) ∧
 bif (n76 != 0) then (
 J38 [(.bool true)] H74)
 else (
 ∃ s77, H74.cell i11 1 = some (.string s77) ∧
 CA en F.crossbarref02_has [(.string s77), (.int .u8 105)] H74 fun v78 H79 =>
 ∃ b80, v78 = (.bool b80) ∧
 bif (!b80) then (
 ∃ n81, H79.cell i1 4 = some (.int .i64 n81) ∧
 bif (n81 != 0) then (
 J38 [(.bool true)] H79)
 else (
 ∃ n82, H79.cell i1 0 = some (.int .i64 n82) ∧
 bif (n82 == 24) then (
 ∃ n83, H79.cell i1 2 = some (.int .i64 n83) ∧
 J38 [(.bool (decide (n83 > 1)))] H79)
 else (
 J38 [(.bool false)] H79)))
 else (
 ∃ n84, H79.cell i1 0 = some (.int .i64 n84) ∧
 bif (n84 == 24) then (
 ∃ n85, H79.cell i1 2 = some (.int .i64 n85) ∧
 J38 [(.bool (decide (n85 > 1)))] H79)
 else (
 J38 [(.bool false)] H79))))
 else (
 ∃ s86, H74.cell i11 1 = some (.string s86) ∧
 CA en F.crossbarref02_has [(.string s86), (.int .u8 105)] H74 fun v87 H88 =>
 ∃ b89, v87 = (.bool b89) ∧
 bif (!b89) then (
 ∃ n90, H88.cell i1 4 = some (.int .i64 n90) ∧
 bif (n90 != 0) then (
 J38 [(.bool true)] H88)
 else (
 ∃ n91, H88.cell i1 0 = some (.int .i64 n91) ∧
 bif (n91 == 24) then (
 ∃ n92, H88.cell i1 2 = some (.int .i64 n92) ∧
 J38 [(.bool (decide (n92 > 1)))] H88)
 else (
 J38 [(.bool false)] H88)))
 else (
 ∃ n93, H88.cell i1 0 = some (.int .i64 n93) ∧
 bif (n93 == 24) then (
 ∃ n94, H88.cell i1 2 = some (.int .i64 n94) ∧
 J38 [(.bool (decide (n94 > 1)))] H88)
 else (
 J38 [(.bool false)] H88))))))
 else (
 ∃ s95, H41.cell i11 1 = some (.string s95) ∧
 CA en F.crossbarref02_has [(.string s95), (.int .u8 115)] H41 fun v96 H97 =>
 ∃ b98, v96 = (.bool b98) ∧
 bif (!b98) then (
 ∃ n99, H97.cell i1 2 = some (.int .i64 n99) ∧
 bif (n99 != 0) then (
 J38 [(.bool true)] H97)
 else (
 ∃ s100, H97.cell i11 1 = some (.string s100) ∧
 CA en F.crossbarref02_has [(.string s100), (.int .u8 111)] H97 fun v101 H102 =>
 ∃ b103, v101 = (.bool b103) ∧
 bif (!b103) then (
 ∃ n104, H102.cell i1 3 = some (.int .i64 n104) ∧
 bif (n104 != 0) then (
 J38 [(.bool true)] H102)
 else (
 ∃ s105, H102.cell i11 1 = some (.string s105) ∧
 CA en F.crossbarref02_has [(.string s105), (.int .u8 105)] H102 fun v106 H107 =>
 ∃ b108, v106 = (.bool b108) ∧
 bif (!b108) then (
 ∃ n109, H107.cell i1 4 = some (.int .i64 n109) ∧
 bif (n109 != 0) then (
 J38 [(.bool true)] H107)
 else (
 ∃ n110, H107.cell i1 0 = some (.int .i64 n110) ∧
 bif (n110 == 24) then (
 ∃ n111, H107.cell i1 2 = some (.int .i64 n111) ∧
 J38 [(.bool (decide (n111 > 1)))] H107)
 else (
 J38 [(.bool false)] H107)))
 else (
 ∃ n112, H107.cell i1 0 = some (.int .i64 n112) ∧
 bif (n112 == 24) then (
 ∃ n113, H107.cell i1 2 = some (.int .i64 n113) ∧
 J38 [(.bool (decide (n113 > 1)))] H107)
 else (
 J38 [(.bool false)] H107))))
 else (
 ∃ s114, H102.cell i11 1 = some (.string s114) ∧
 CA en F.crossbarref02_has [(.string s114), (.int .u8 105)] H102 fun v115 H116 =>
 ∃ b117, v115 = (.bool b117) ∧
 bif (!b117) then (
 ∃ n118, H116.cell i1 4 = some (.int .i64 n118) ∧
 bif (n118 != 0) then (
 J38 [(.bool true)] H116)
 else (
 ∃ n119, H116.cell i1 0 = some (.int .i64 n119) ∧
 bif (n119 == 24) then (
 ∃ n120, H116.cell i1 2 = some (.int .i64 n120) ∧
 J38 [(.bool (decide (n120 > 1)))] H116)
 else (
 J38 [(.bool false)] H116)))
 else (
 ∃ n121, H116.cell i1 0 = some (.int .i64 n121) ∧
 bif (n121 == 24) then (
 ∃ n122, H116.cell i1 2 = some (.int .i64 n122) ∧
 J38 [(.bool (decide (n122 > 1)))] H116)
 else (
 J38 [(.bool false)] H116)))))
 else (
 ∃ s123, H97.cell i11 1 = some (.string s123) ∧
 CA en F.crossbarref02_has [(.string s123), (.int .u8 111)] H97 fun v124 H125 =>
 ∃ b126, v124 = (.bool b126) ∧
 bif (!b126) then (
 ∃ n127, H125.cell i1 3 = some (.int .i64 n127) ∧
 bif (n127 != 0) then (
 J38 [(.bool true)] H125)
 else (
 ∃ s128, H125.cell i11 1 = some (.string s128) ∧
 CA en F.crossbarref02_has [(.string s128), (.int .u8 105)] H125 fun v129 H130 =>
 ∃ b131, v129 = (.bool b131) ∧
 bif (!b131) then (
 ∃ n132, H130.cell i1 4 = some (.int .i64 n132) ∧
 bif (n132 != 0) then (
 J38 [(.bool true)] H130)
 else (
 ∃ n133, H130.cell i1 0 = some (.int .i64 n133) ∧
 bif (n133 == 24) then (
 ∃ n134, H130.cell i1 2 = some (.int .i64 n134) ∧
 J38 [(.bool (decide (n134 > 1)))] H130)
 else (
 J38 [(.bool false)] H130)))
 else (
 ∃ n135, H130.cell i1 0 = some (.int .i64 n135) ∧
 bif (n135 == 24) then (
 ∃ n136, H130.cell i1 2 = some (.int .i64 n136) ∧
 J38 [(.bool (decide (n136 > 1)))] H130)
 else (
 J38 [(.bool false)] H130))))
 else (
 ∃ s137, H125.cell i11 1 = some (.string s137) ∧
 CA en F.crossbarref02_has [(.string s137), (.int .u8 105)] H125 fun v138 H139 =>
 ∃ b140, v138 = (.bool b140) ∧
 bif (!b140) then (
 ∃ n141, H139.cell i1 4 = some (.int .i64 n141) ∧
 bif (n141 != 0) then (
 J38 [(.bool true)] H139)
 else (
 ∃ n142, H139.cell i1 0 = some (.int .i64 n142) ∧
 bif (n142 == 24) then (
 ∃ n143, H139.cell i1 2 = some (.int .i64 n143) ∧
 J38 [(.bool (decide (n143 > 1)))] H139)
 else (
 J38 [(.bool false)] H139)))
 else (
 ∃ n144, H139.cell i1 0 = some (.int .i64 n144) ∧
 bif (n144 == 24) then (
 ∃ n145, H139.cell i1 2 = some (.int .i64 n145) ∧
 J38 [(.bool (decide (n145 > 1)))] H139)
 else (
 J38 [(.bool false)] H139)))))) ∧
 ∀ (ys146 : Fr) (H147 : Heap), ∀ b148, J38 [(.bool b148)] H147 →
 bif b148 then (
 R (.int .i64 9) H147)
 else (
 ∃ J149 : List Value → Heap → Prop, (
 ∃ n150, H147.cell i1 3 = some (.int .i64 n150) ∧
 bif (decide (n150 < (-32768))) then (
 J149 [(.bool true)] H147)
 else (
 ∃ n151, H147.cell i1 3 = some (.int .i64 n151) ∧
 bif (decide (n151 > 32767)) then (
 J149 [(.bool true)] H147)
 else (
 ∃ n152, ∃ n153, ∃ n154, ∃ n155, ∃ n156, H147.cellsAt i1 0 5 = some [(.int .i64 n152), (.int .i64 n153), (.int .i64 n154), (.int .i64 n155), (.int .i64 n156)] ∧
 ∃ b157, ∃ s158, ∃ b159, ∃ n160, ∃ n161, H147.cellsAt i11 0 5 = some [(.bool b157), (.string s158), (.bool b159), (.int .i64 n160), (.int .i64 n161)] ∧
 CA en F.crossbarref02_ranged [(.agg #[(.int .i64 n152), (.int .i64 n153), (.int .i64 n154), (.int .i64 n155), (.int .i64 n156)]), (.agg #[(.bool b157), (.string s158), (.bool b159), (.int .i64 n160), (.int .i64 n161)])] H147 fun v162 H163 =>
 ∃ b164, v162 = (.bool b164) ∧
 J149 [(.bool (!b164))] H163))) ∧
 ∀ (ys165 : Fr) (H166 : Heap), ∀ b167, J149 [(.bool b167)] H166 →
 bif b167 then (
 R (.int .i64 10) H166)
 else (
 R (.int .i64 0) H166))))) →
    CA en F.crossbarref02_Check [(.agg #[(.int .i64 x0_0), (.int .i64 x0_1), (.int .i64 x0_2), (.int .i64 x0_3), (.int .i64 x0_4)])] H R := by
  intro h
  refine wpFnC_ok (C := [none, none, none, none, none, none, some [(6, (.bool false))], none, some [(64, (.bool false))], none, none, some [(116, (.bool false))], none, none, some [(130, (.bool false))], none, none]) (Z := []) (fn := Go.Proofs.Tryd.f48) ?_ ?_ ?_
  · kernel_rfl
  · kernel_rfl
  · apply turnInto h
    kernel_rfl


/-! crossbarref02_laid -/
noncomputable def L_crossbarref02_laid_0 : Code := loopAt Go.Proofs.Tryd.f49 0

theorem vc_crossbarref02_laid (x0 : Int) (x1 : Int) (H : Heap) (R : Value → Heap → Prop) :
    (
 LA en L_crossbarref02_laid_0 [(.int .i64 x0), (.int .i64 x1), undef, undef, (.slice none 0 0), (.slice none 0 0), (.int .u64 (IntKind.u64.wrap x0)), (.int .i64 0), (.int .i64 x0), (.int .u64 (IntKind.u64.wrap x0)), undef, undef, undef, undef, undef, undef, undef, undef, undef, undef, undef, undef, undef, undef] H [(X.exit 0, fun (y1 : Fr) (H2 : Heap) =>
 asSl (y1.getD 5 undef) fun a3 i4 =>
 R (.slice a3 i4 0) H2)]) →
    CA en F.crossbarref02_laid [(.int .i64 x0), (.int .i64 x1)] H R := by
  intro h
  refine wpFn_ok (Z := [[(5, (.slice none 0 0))]]) (fn := Go.Proofs.Tryd.f49) ?_ ?_ ?_
  · kernel_rfl
  · kernel_rfl
  · apply turnInto h
    kernel_rfl

theorem use_crossbarref02_laid_0 {t0 : Int} {t1 : Int} {t8 : Int} {t9 : Int} {K0 : Fr → Heap → Prop} {t5 : Option Addr} {t5l : Nat} {t6 : Int} {t7 : Int} {t10 : Value} {t11 : Value} {t12 : Value} {t13 : Value} {t14 : Value} {t15 : Value} {t16 : Value} {t17 : Value} {t18 : Value} {t19 : Value} {t20 : Value} {t21 : Value} {t22 : Value} {H : Heap} (I : Nat → Option Addr → Nat → Int → Int → Heap → Prop) (n : Nat) (h0 : I n t5 t5l t6 t7 H)
    (hstep : ∀ (n : Nat) (t5 : Option Addr) (t5l : Nat) (t6 : Int) (t7 : Int) (ys : Fr) (H : Heap), I n t5 t5l t6 t7 H →
    (
 bif (decide (t7 < t1)) then (
 nz 256 ∧
 nwH H (.cells true 1 [(.int .u8 (IntKind.u8.wrap (Int.tmod t6 256)))]) fun i1 H2 =>
 ∃ l3, rowOf H2 1 (some ⟨i1, 0, none⟩) 1 = some l3 ∧
 apd H2 1 1 t5 t5l 1 l3 fun a4 i5 H6 =>
 nz 256 ∧
 ∃ k7, k7 < n ∧
 I k7 a4 i5 (IntKind.u64.wrap (Int.tdiv t6 256)) (IntKind.i64.wrap (t7 + 1)) H6)
 else (
 K0 [(.int .i64 t0), (.int .i64 t1), undef, undef, (.slice none 0 0), (.slice t5 t5l 0), (.int .u64 t6), (.int .i64 t7), (.int .i64 t8), (.int .u64 t9), (.int .i64 t7), (.int .i64 t1), (.bool false), (ys.getD 13 undef), (ys.getD 14 undef), (ys.getD 15 undef), (ys.getD 16 undef), (ys.getD 17 undef), (ys.getD 18 undef), (ys.getD 19 undef), (ys.getD 20 undef), (ys.getD 21 undef), (ys.getD 22 undef), undef] H))) :
    LA en L_crossbarref02_laid_0 [(.int .i64 t0), (.int .i64 t1), undef, undef, (.slice none 0 0), (.slice t5 t5l 0), (.int .u64 t6), (.int .i64 t7), (.int .i64 t8), (.int .u64 t9), t10, t11, t12, t13, t14, t15, t16, t17, t18, t19, t20, t21, t22, undef] H [(X.exit 0, K0)] := by
  refine LA_rule (Z := []) (fun m xs H' => asSl (xs.getD 5 undef) fun t5 t5l => AS.asInt .u64 (xs.getD 6 undef) fun t6 => AS.asInt .i64 (xs.getD 7 undef) fun t7 => I m t5 t5l t6 t7 H') ?_ n H ?_
  · intro n H
    suffices hs : ∀ s10 : Value, ∀ s11 : Value, ∀ s12 : Value, ∀ s15 : Value, ∀ s16 : Value, ∀ s17 : Value, ∀ s18 : Value, ∀ s19 : Value, ∀ s20 : Value, ∀ s5 : Value, ∀ s21 : Value, ∀ s22 : Value, ∀ s6 : Value, ∀ s13 : Value, ∀ s14 : Value, ∀ s7 : Value, ((asSl s5 fun t5 t5l => AS.asInt .u64 s6 fun t6 => AS.asInt .i64 s7 fun t7 => I n t5 t5l t6 t7 H) → wpCode en L_crossbarref02_laid_0 [] [(.int .i64 t0), (.int .i64 t1), undef, undef, (.slice none 0 0), s5, s6, s7, (.int .i64 t8), (.int .u64 t9), s10, s11, s12, s13, s14, s15, s16, s17, s18, s19, s20, s21, s22, undef] H (loopQ (fun m xs H' => asSl (xs.getD 5 undef) fun t5 t5l => AS.asInt .u64 (xs.getD 6 undef) fun t6 => AS.asInt .i64 (xs.getD 7 undef) fun t7 => I m t5 t5l t6 t7 H') n [(X.exit 0, K0)])) by
      apply turnInto hs
      kernel_rfl
    intro s10 s11 s12 s15 s16 s17 s18 s19 s20 s5 s21 s22 s6 s13 s14 s7 hP
    replace hP := asSl_elim hP
    obtain ⟨t5, t5l, rfl, hP⟩ := hP
    replace hP := asInt_elim hP
    obtain ⟨t6, rfl, hP⟩ := hP
    replace hP := asInt_elim hP
    obtain ⟨t7, rfl, hP⟩ := hP
    apply turnInto (hstep n t5 t5l t6 t7 [(.int .i64 t0), (.int .i64 t1), undef, undef, (.slice none 0 0), (.slice t5 t5l 0), (.int .u64 t6), (.int .i64 t7), (.int .i64 t8), (.int .u64 t9), s10, s11, s12, s13, s14, s15, s16, s17, s18, s19, s20, s21, s22, undef] H hP)
    kernel_rfl
  · apply turnInto h0
    kernel_rfl


/-! crossbarref02_signed -/

theorem vc_crossbarref02_signed (x0 : Option Addr) (x0l : Nat) (x1 : Int) (x2 : Int) (H : Heap) (R : Value → Heap → Prop) :
    (
 CA en F.crossbarref01_Get [(.slice x0 x0l 0), (.int .i64 x1), (.int .i64 x2)] H fun v1 H2 =>
 ∃ n3, ∃ b4, v1 = (.tuple #[(.int .u64 n3), (.bool b4)]) ∧
 bif (decide (x2 < 8)) then (
 nn (IntKind.u64.wrap (IntKind.i64.wrap ((IntKind.i64.wrap (8 * x2)) - 1))) ∧
 bif (decide ((IntKind.i64.wrap n3) ≥ (IntKind.i64.wrap (1 * 2 ^ (min (IntKind.u64.wrap (IntKind.i64.wrap ((IntKind.i64.wrap (8 * x2)) - 1))).toNat 64))))) then (
 nn (IntKind.u64.wrap (IntKind.i64.wrap (8 * x2))) ∧
 R (.int .i64 (IntKind.i64.wrap ((IntKind.i64.wrap n3) - (IntKind.i64.wrap (1 * 2 ^ (min (IntKind.u64.wrap (IntKind.i64.wrap (8 * x2))).toNat 64)))))) H2)
 else (
 R (.int .i64 (IntKind.i64.wrap n3)) H2))
 else (
 R (.int .i64 (IntKind.i64.wrap n3)) H2)) →
    CA en F.crossbarref02_signed [(.slice x0 x0l 0), (.int .i64 x1), (.int .i64 x2)] H R := by
  intro h
  refine wpFn_ok (Z := []) (fn := Go.Proofs.Tryd.f52) ?_ ?_ ?_
  · kernel_rfl
  · kernel_rfl
  · apply turnInto h
    kernel_rfl


/-! crossbarref02_Find -/

theorem vc_crossbarref02_Find (x0 : Int) (H : Heap) (R : Value → Heap → Prop) :
    (
 nwH H (.cells true 0 [(.bool false), (.string ⟨#[]⟩), (.bool false), (.int .i64 0), (.int .i64 0)]) fun i1 H2 =>
 bif (decide (x0 < 0)) then (
 stc H2 i1 0 [(.bool false), (.string ⟨#[]⟩), (.bool false), (.int .i64 0), (.int .i64 0)] fun H3 =>
 ∃ b4, ∃ s5, ∃ b6, ∃ n7, ∃ n8, H3.cellsAt i1 0 5 = some [(.bool b4), (.string s5), (.bool b6), (.int .i64 n7), (.int .i64 n8)] ∧
 R (.agg #[(.bool b4), (.string s5), (.bool b6), (.int .i64 n7), (.int .i64 n8)]) H3)
 else (
 bif (decide (x0 > 255)) then (
 stc H2 i1 0 [(.bool false), (.string ⟨#[]⟩), (.bool false), (.int .i64 0), (.int .i64 0)] fun H9 =>
 ∃ b10, ∃ s11, ∃ b12, ∃ n13, ∃ n14, H9.cellsAt i1 0 5 = some [(.bool b10), (.string s11), (.bool b12), (.int .i64 n13), (.int .i64 n14)] ∧
 R (.agg #[(.bool b10), (.string s11), (.bool b12), (.int .i64 n13), (.int .i64 n14)]) H9)
 else (
 nwH H2 (.cells true 0 [(.bool false), (.string ⟨#[]⟩), (.bool false), (.int .i64 0), (.int .i64 0)]) fun i15 H16 =>
 stc H16 i15 0 [(.bool false), (.string ⟨#[]⟩), (.bool false), (.int .i64 (-2147483648)), (.int .i64 2147483647)] fun H17 =>
 nz 32 ∧
 nz 8 ∧
 bif ((Int.tmod x0 8) == 4) then (
 CA en F.crossbarref02_alu [(.int .i64 x0)] H17 fun v18 H19 =>
 ∃ b20, ∃ s21, ∃ b22, ∃ n23, ∃ n24, v18 = (.agg #[(.bool b20), (.string s21), (.bool b22), (.int .i64 n23), (.int .i64 n24)]) ∧
 stc H19 i1 0 [(.bool b20), (.string s21), (.bool b22), (.int .i64 n23), (.int .i64 n24)] fun H25 =>
 ∃ b26, ∃ s27, ∃ b28, ∃ n29, ∃ n30, H25.cellsAt i1 0 5 = some [(.bool b26), (.string s27), (.bool b28), (.int .i64 n29), (.int .i64 n30)] ∧
 R (.agg #[(.bool b26), (.string s27), (.bool b28), (.int .i64 n29), (.int .i64 n30)]) H25)
 else (
 bif ((Int.tmod x0 8) == 7) then (
 CA en F.crossbarref02_alu [(.int .i64 x0)] H17 fun v31 H32 =>
 ∃ b33, ∃ s34, ∃ b35, ∃ n36, ∃ n37, v31 = (.agg #[(.bool b33), (.string s34), (.bool b35), (.int .i64 n36), (.int .i64 n37)]) ∧
 stc H32 i1 0 [(.bool b33), (.string s34), (.bool b35), (.int .i64 n36), (.int .i64 n37)] fun H38 =>
 ∃ b39, ∃ s40, ∃ b41, ∃ n42, ∃ n43, H38.cellsAt i1 0 5 = some [(.bool b39), (.string s40), (.bool b41), (.int .i64 n42), (.int .i64 n43)] ∧
 R (.agg #[(.bool b39), (.string s40), (.bool b41), (.int .i64 n42), (.int .i64 n43)]) H38)
 else (
 bif ((Int.tmod x0 8) == 5) then (
 CA en F.crossbarref02_jmp [(.int .i64 x0)] H17 fun v44 H45 =>
 ∃ b46, ∃ s47, ∃ b48, ∃ n49, ∃ n50, v44 = (.agg #[(.bool b46), (.string s47), (.bool b48), (.int .i64 n49), (.int .i64 n50)]) ∧
 stc H45 i1 0 [(.bool b46), (.string s47), (.bool b48), (.int .i64 n49), (.int .i64 n50)] fun H51 =>
 ∃ b52, ∃ s53, ∃ b54, ∃ n55, ∃ n56, H51.cellsAt i1 0 5 = some [(.bool b52), (.string s53), (.bool b54), (.int .i64 n55), (.int .i64 n56)] ∧
 R (.agg #[(.bool b52), (.string s53), (.bool b54), (.int .i64 n55), (.int .i64 n56)]) H51)
 else (
 bif ((Int.tmod x0 8) == 6) then (
 CA en F.crossbarref02_jmp [(.int .i64 x0)] H17 fun v57 H58 =>
 ∃ b59, ∃ s60, ∃ b61, ∃ n62, ∃ n63, v57 = (.agg #[(.bool b59), (.string s60), (.bool b61), (.int .i64 n62), (.int .i64 n63)]) ∧
 stc H58 i1 0 [(.bool b59), (.string s60), (.bool b61), (.int .i64 n62), (.int .i64 n63)] fun H64 =>
 ∃ b65, ∃ s66, ∃ b67, ∃ n68, ∃ n69, H64.cellsAt i1 0 5 = some [(.bool b65), (.string s66), (.bool b67), (.int .i64 n68), (.int .i64 n69)] ∧
 R (.agg #[(.bool b65), (.string s66), (.bool b67), (.int .i64 n68), (.int .i64 n69)]) H64)
 else (
 bif ((Int.tmod x0 8) == 0) then (
 stc H17 i15 0 [(.bool (x0 == 24))] fun H70 =>
 stc H70 i15 1 [(.string ⟨#[100, 115, 105]⟩)] fun H71 =>
 stc H71 i15 2 [(.bool true)] fun H72 =>
 stc H72 i15 3 [(.int .i64 (-9223372036854775808))] fun H73 =>
 stc H73 i15 4 [(.int .i64 9223372036854775807)] fun H74 =>
 ∃ b75, ∃ s76, ∃ b77, ∃ n78, ∃ n79, H74.cellsAt i15 0 5 = some [(.bool b75), (.string s76), (.bool b77), (.int .i64 n78), (.int .i64 n79)] ∧
 stc H74 i1 0 [(.bool b75), (.string s76), (.bool b77), (.int .i64 n78), (.int .i64 n79)] fun H80 =>
 ∃ b81, ∃ s82, ∃ b83, ∃ n84, ∃ n85, H80.cellsAt i1 0 5 = some [(.bool b81), (.string s82), (.bool b83), (.int .i64 n84), (.int .i64 n85)] ∧
 R (.agg #[(.bool b81), (.string s82), (.bool b83), (.int .i64 n84), (.int .i64 n85)]) H80)
 else (
 bif ((Int.tmod x0 8) == 1) then (
 stc H17 i15 0 [(.bool ((IntKind.i64.wrap (Int.tdiv x0 32)) == 3))] fun H86 =>
 stc H86 i15 1 [(.string ⟨#[100, 115, 111]⟩)] fun H87 =>
 stc H87 i15 2 [(.bool true)] fun H88 =>
 ∃ b89, ∃ s90, ∃ b91, ∃ n92, ∃ n93, H88.cellsAt i15 0 5 = some [(.bool b89), (.string s90), (.bool b91), (.int .i64 n92), (.int .i64 n93)] ∧
 stc H88 i1 0 [(.bool b89), (.string s90), (.bool b91), (.int .i64 n92), (.int .i64 n93)] fun H94 =>
 ∃ b95, ∃ s96, ∃ b97, ∃ n98, ∃ n99, H94.cellsAt i1 0 5 = some [(.bool b95), (.string s96), (.bool b97), (.int .i64 n98), (.int .i64 n99)] ∧
 R (.agg #[(.bool b95), (.string s96), (.bool b97), (.int .i64 n98), (.int .i64 n99)]) H94)
 else (
 bif ((Int.tmod x0 8) == 2) then (
 stc H17 i15 0 [(.bool ((IntKind.i64.wrap (Int.tdiv x0 32)) == 3))] fun H100 =>
 stc H100 i15 1 [(.string ⟨#[100, 111, 105]⟩)] fun H101 =>
 ∃ b102, ∃ s103, ∃ b104, ∃ n105, ∃ n106, H101.cellsAt i15 0 5 = some [(.bool b102), (.string s103), (.bool b104), (.int .i64 n105), (.int .i64 n106)] ∧
 stc H101 i1 0 [(.bool b102), (.string s103), (.bool b104), (.int .i64 n105), (.int .i64 n106)] fun H107 =>
 ∃ b108, ∃ s109, ∃ b110, ∃ n111, ∃ n112, H107.cellsAt i1 0 5 = some [(.bool b108), (.string s109), (.bool b110), (.int .i64 n111), (.int .i64 n112)] ∧
 R (.agg #[(.bool b108), (.string s109), (.bool b110), (.int .i64 n111), (.int .i64 n112)]) H107)
 else (
 bif ((Int.tmod x0 8) == 3) then (
 bif ((IntKind.i64.wrap (Int.tdiv x0 32)) == 3) then (
 stc H17 i15 0 [(.bool true)] fun H113 =>
 stc H113 i15 1 [(.string ⟨#[100, 115, 111]⟩)] fun H114 =>
 bif ((IntKind.i64.wrap (Int.tdiv x0 32)) == 6) then (
 stc H114 i15 1 [(.string ⟨#[100, 115, 111, 105]⟩)] fun H115 =>
 ∃ b116, ∃ s117, ∃ b118, ∃ n119, ∃ n120, H115.cellsAt i15 0 5 = some [(.bool b116), (.string s117), (.bool b118), (.int .i64 n119), (.int .i64 n120)] ∧
 stc H115 i1 0 [(.bool b116), (.string s117), (.bool b118), (.int .i64 n119), (.int .i64 n120)] fun H121 =>
 ∃ b122, ∃ s123, ∃ b124, ∃ n125, ∃ n126, H121.cellsAt i1 0 5 = some [(.bool b122), (.string s123), (.bool b124), (.int .i64 n125), (.int .i64 n126)] ∧
 R (.agg #[(.bool b122), (.string s123), (.bool b124), (.int .i64 n125), (.int .i64 n126)]) H121)
 else (
 ∃ b127, ∃ s128, ∃ b129, ∃ n130, ∃ n131, H114.cellsAt i15 0 5 = some [(.bool b127), (.string s128), (.bool b129), (.int .i64 n130), (.int .i64 n131)] ∧
 stc H114 i1 0 [(.bool b127), (.string s128), (.bool b129), (.int .i64 n130), (.int .i64 n131)] fun H132 =>
 ∃ b133, ∃ s134, ∃ b135, ∃ n136, ∃ n137, H132.cellsAt i1 0 5 = some [(.bool b133), (.string s134), (.bool b135), (.int .i64 n136), (.int .i64 n137)] ∧
 R (.agg #[(.bool b133), (.string s134), (.bool b135), (.int .i64 n136), (.int .i64 n137)]) H132))
 else (
 bif (x0 == 195) then (
 stc H17 i15 0 [(.bool true)] fun H138 =>
 stc H138 i15 1 [(.string ⟨#[100, 115, 111]⟩)] fun H139 =>
 bif ((IntKind.i64.wrap (Int.tdiv x0 32)) == 6) then (
 stc H139 i15 1 [(.string ⟨#[100, 115, 111, 105]⟩)] fun H140 =>
 ∃ b141, ∃ s142, ∃ b143, ∃ n144, ∃ n145, H140.cellsAt i15 0 5 = some [(.bool b141), (.string s142), (.bool b143), (.int .i64 n144), (.int .i64 n145)] ∧
 stc H140 i1 0 [(.bool b141), (.string s142), (.bool b143), (.int .i64 n144), (.int .i64 n145)] fun H146 =>
 ∃ b147, ∃ s148, ∃ b149, ∃ n150, ∃ n151, H146.cellsAt i1 0 5 = some [(.bool b147), (.string s148), (.bool b149), (.int .i64 n150), (.int .i64 n151)] ∧
 R (.agg #[(.bool b147), (.string s148), (.bool b149), (.int .i64 n150), (.int .i64 n151)]) H146)
 else (
 ∃ b152, ∃ s153, ∃ b154, ∃ n155, ∃ n156, H139.cellsAt i15 0 5 = some [(.bool b152), (.string s153), (.bool b154), (.int .i64 n155), (.int .i64 n156)] ∧
 stc H139 i1 0 [(.bool b152), (.string s153), (.bool b154), (.int .i64 n155), (.int .i64 n156)] fun H157 =>
 ∃ b158, ∃ s159, ∃ b160, ∃ n161, ∃ n162, H157.cellsAt i1 0 5 = some [(.bool b158), (.string s159), (.bool b160), (.int .i64 n161), (.int .i64 n162)] ∧
 R (.agg #[(.bool b158), (.string s159), (.bool b160), (.int .i64 n161), (.int .i64 n162)]) H157))
 else (
 stc H17 i15 0 [(.bool (x0 == 219))] fun H163 =>
 stc H163 i15 1 [(.string ⟨#[100, 115, 111]⟩)] fun H164 =>
 bif ((IntKind.i64.wrap (Int.tdiv x0 32)) == 6) then (
 stc H164 i15 1 [(.string ⟨#[100, 115, 111, 105]⟩)] fun H165 =>
 ∃ b166, ∃ s167, ∃ b168, ∃ n169, ∃ n170, H165.cellsAt i15 0 5 = some [(.bool b166), (.string s167), (.bool b168), (.int .i64 n169), (.int .i64 n170)] ∧
 stc H165 i1 0 [(.bool b166), (.string s167), (.bool b168), (.int .i64 n169), (.int .i64 n170)] fun H171 =>
 ∃ b172, ∃ s173, ∃ b174, ∃ n175, ∃ n176, H171.cellsAt i1 0 5 = some [(.bool b172), (.string s173), (.bool b174), (.int .i64 n175), (.int .i64 n176)] ∧
 R (.agg #[(.bool b172), (.string s173), (.bool b174), (.int .i64 n175), (.int .i64 n176)]) H171)
 else (
 ∃ b177, ∃ s178, ∃ b179, ∃ n180, ∃ n181, H164.cellsAt i15 0 5 = some [(.bool b177), (.string s178), (.bool b179), (.int .i64 n180), (.int .i64 n181)] ∧
 stc H164 i1 0 [(.bool b177), (.string s178), (.bool b179), (.int .i64 n180), (.int .i64 n181)] fun H182 =>
 ∃ b183, ∃ s184, ∃ b185, ∃ n186, ∃ n187, H182.cellsAt i1 0 5 = some [(.bool b183), (.string s184), (.bool b185), (.int .i64 n186), (.int .i64 n187)] ∧
 R (.agg #[(.bool b183), (.string s184), (.bool b185), (.int .i64 n186), (.int .i64 n187)]) H182))))
 else (
 ∃ b188, ∃ s189, ∃ b190, ∃ n191, ∃ n192, H17.cellsAt i15 0 5 = some [(.bool b188), (.string s189), (.bool b190), (.int .i64 n191), (.int .i64 n192)] ∧
 stc H17 i1 0 [(.bool b188), (.string s189), (.bool b190), (.int .i64 n191), (.int .i64 n192)] fun H193 =>
 ∃ b194, ∃ s195, ∃ b196, ∃ n197, ∃ n198, H193.cellsAt i1 0 5 = some [(.bool b194), (.string s195), (.bool b196), (.int .i64 n197), (.int .i64 n198)] ∧
 R (.agg #[(.bool b194), (.string s195), (.bool b196), (.int .i64 n197), (.int .i64 n198)]) H193))))))))))) →
    CA en F.crossbarref02_Find [(.int .i64 x0)] H R := by
  intro h
  refine wpFn_ok (Z := []) (fn := Go.Proofs.Tryd.f71) ?_ ?_ ?_
  · kernel_rfl
  · kernel_rfl
  · apply turnInto h
    kernel_rfl


/-! crossbarref02_Atomic -/

theorem vc_crossbarref02_Atomic (x0 : Int) (H : Heap) (R : Value → Heap → Prop) :
    (
 bif (x0 == 0) then (
 R (.tuple #[(.bool true), (.bool false)]) H)
 else (
 bif (x0 == 64) then (
 R (.tuple #[(.bool true), (.bool false)]) H)
 else (
 bif (x0 == 80) then (
 R (.tuple #[(.bool true), (.bool false)]) H)
 else (
 bif (x0 == 160) then (
 R (.tuple #[(.bool true), (.bool false)]) H)
 else (
 bif (x0 == 1) then (
 R (.tuple #[(.bool true), (.bool true)]) H)
 else (
 bif (x0 == 65) then (
 R (.tuple #[(.bool true), (.bool true)]) H)
 else (
 bif (x0 == 81) then (
 R (.tuple #[(.bool true), (.bool true)]) H)
 else (
 bif (x0 == 161) then (
 R (.tuple #[(.bool true), (.bool true)]) H)
 else (
 bif (x0 == 225) then (
 R (.tuple #[(.bool true), (.bool true)]) H)
 else (
 bif (x0 == 241) then (
 R (.tuple #[(.bool true), (.bool true)]) H)
 else (
 R (.tuple #[(.bool false), (.bool false)]) H))))))))))) →
    CA en F.crossbarref02_Atomic [(.int .i64 x0)] H R := by
  intro h
  refine wpFn_ok (Z := []) (fn := Go.Proofs.Tryd.f72) ?_ ?_ ?_
  · kernel_rfl
  · kernel_rfl
  · apply turnInto h
    kernel_rfl


/-! crossbarref02_has -/
noncomputable def L_crossbarref02_has_0 : Code := loopAt Go.Proofs.Tryd.f73 0

theorem vc_crossbarref02_has (x0 : ByteArray) (x1 : Int) (H : Heap) (R : Value → Heap → Prop) :
    (
 LA en L_crossbarref02_has_0 [(.string x0), (.int .u8 x1), undef, undef, (.bool false), (.int .i64 0), undef, undef, undef, undef, undef, undef, undef, undef, undef, undef, undef] H [(X.exit 0, fun (y1 : Fr) (H2 : Heap) =>
 AS.asBool (y1.getD 4 undef) fun b3 =>
 R (.bool false) H2),
 (X.ret, fun (y4 : Fr) (H5 : Heap) =>
 AS.asBool (y4.getD 4 undef) fun b6 =>
 R (.bool b6) H5)]) →
    CA en F.crossbarref02_has [(.string x0), (.int .u8 x1)] H R := by
  intro h
  refine wpFn_ok (Z := [[(4, (.bool false))]]) (fn := Go.Proofs.Tryd.f73) ?_ ?_ ?_
  · kernel_rfl
  · kernel_rfl
  · apply turnInto h
    kernel_rfl

theorem use_crossbarref02_has_0 {t0 : ByteArray} {t1 : Int} {K0 : Fr → Heap → Prop} {K1 : Fr → Heap → Prop} {t4 : Bool} {t5 : Int} {t6 : Value} {t7 : Value} {t8 : Value} {t9 : Value} {t10 : Value} {t11 : Value} {t12 : Value} {t13 : Value} {t14 : Value} {t15 : Value} {t16 : Value} {H : Heap} (I : Nat → Bool → Int → Heap → Prop) (n : Nat) (h0 : I n t4 t5 H)
    (hstep : ∀ (n : Nat) (t4 : Bool) (t5 : Int) (ys : Fr) (H : Heap), I n t4 t5 H →
    (
 bif (decide (t5 < (((t0 : ByteArray).size : Nat) : Int))) then (
 asSome (byteA t0 t5) fun v1 =>
 ∃ n2, v1 = (.int .u8 n2) ∧
 bif (n2 == t1) then (
 K1 [(.string t0), (.int .u8 t1), undef, undef, (.bool true), (.int .i64 t5), (.int .i64 t5), (.string t0), (.int .i64 (((t0 : ByteArray).size : Nat) : Int)), (.bool true), (ys.getD 10 undef), (ys.getD 11 undef), (.string t0), (.int .i64 t5), (.int .u8 n2), (.int .u8 t1), (.bool true)] H)
 else (
 ∃ k3, k3 < n ∧
 I k3 t4 (IntKind.i64.wrap (t5 + 1)) H))
 else (
 K0 [(.string t0), (.int .u8 t1), undef, undef, (.bool t4), (.int .i64 t5), (.int .i64 t5), (.string t0), (.int .i64 (((t0 : ByteArray).size : Nat) : Int)), (.bool false), (ys.getD 10 undef), (ys.getD 11 undef), (ys.getD 12 undef), (ys.getD 13 undef), (ys.getD 14 undef), (ys.getD 15 undef), (ys.getD 16 undef)] H))) :
    LA en L_crossbarref02_has_0 [(.string t0), (.int .u8 t1), undef, undef, (.bool t4), (.int .i64 t5), t6, t7, t8, t9, t10, t11, t12, t13, t14, t15, t16] H [(X.exit 0, K0), (X.ret, K1)] := by
  refine LA_rule (Z := []) (fun m xs H' => AS.asBool (xs.getD 4 undef) fun t4 => AS.asInt .i64 (xs.getD 5 undef) fun t5 => I m t4 t5 H') ?_ n H ?_
  · intro n H
    suffices hs : ∀ s6 : Value, ∀ s7 : Value, ∀ s8 : Value, ∀ s9 : Value, ∀ s12 : Value, ∀ s13 : Value, ∀ s14 : Value, ∀ s15 : Value, ∀ s16 : Value, ∀ s4 : Value, ∀ s10 : Value, ∀ s11 : Value, ∀ s5 : Value, ((AS.asBool s4 fun t4 => AS.asInt .i64 s5 fun t5 => I n t4 t5 H) → wpCode en L_crossbarref02_has_0 [] [(.string t0), (.int .u8 t1), undef, undef, s4, s5, s6, s7, s8, s9, s10, s11, s12, s13, s14, s15, s16] H (loopQ (fun m xs H' => AS.asBool (xs.getD 4 undef) fun t4 => AS.asInt .i64 (xs.getD 5 undef) fun t5 => I m t4 t5 H') n [(X.exit 0, K0), (X.ret, K1)])) by
      apply turnInto hs
      kernel_rfl
    intro s6 s7 s8 s9 s12 s13 s14 s15 s16 s4 s10 s11 s5 hP
    replace hP := asBool_elim hP
    obtain ⟨t4, rfl, hP⟩ := hP
    replace hP := asInt_elim hP
    obtain ⟨t5, rfl, hP⟩ := hP
    apply turnInto (hstep n t4 t5 [(.string t0), (.int .u8 t1), undef, undef, (.bool t4), (.int .i64 t5), s6, s7, s8, s9, s10, s11, s12, s13, s14, s15, s16] H hP)
    kernel_rfl
  · apply turnInto h0
    kernel_rfl


/-! crossbarref02_ranged -/

theorem vc_crossbarref02_ranged (x0_0 : Int) (x0_1 : Int) (x0_2 : Int) (x0_3 : Int) (x0_4 : Int) (x1_0 : Bool) (x1_1 : ByteArray) (x1_2 : Bool) (x1_3 : Int) (x1_4 : Int) (H : Heap) (R : Value → Heap → Prop) :
    (
 nwH H (.cells true 0 [(.int .i64 x0_0), (.int .i64 x0_1), (.int .i64 x0_2), (.int .i64 x0_3), (.int .i64 x0_4)]) fun i1 H2 =>
 nwH H2 (.cells true 0 [(.bool x1_0), (.string x1_1), (.bool x1_2), (.int .i64 x1_3), (.int .i64 x1_4)]) fun i3 H4 =>
 ∃ n5, H4.cell i1 4 = some (.int .i64 n5) ∧
 ∃ n6, H4.cell i3 3 = some (.int .i64 n6) ∧
 bif (decide (n5 < n6)) then (
 R (.bool false) H4)
 else (
 ∃ n7, H4.cell i1 4 = some (.int .i64 n7) ∧
 ∃ n8, H4.cell i3 4 = some (.int .i64 n8) ∧
 bif (decide (n7 > n8)) then (
 R (.bool false) H4)
 else (
 ∃ n9, H4.cell i1 0 = some (.int .i64 n9) ∧
 bif (n9 == 195) then (
 ∃ n10, H4.cell i1 4 = some (.int .i64 n10) ∧
 CA en F.crossbarref02_Atomic [(.int .i64 n10)] H4 fun v11 H12 =>
 ∃ b13, ∃ b14, v11 = (.tuple #[(.bool b13), (.bool b14)]) ∧
 R (.bool b13) H12)
 else (
 ∃ n15, H4.cell i1 0 = some (.int .i64 n15) ∧
 bif (n15 == 219) then (
 ∃ n16, H4.cell i1 4 = some (.int .i64 n16) ∧
 CA en F.crossbarref02_Atomic [(.int .i64 n16)] H4 fun v17 H18 =>
 ∃ b19, ∃ b20, v17 = (.tuple #[(.bool b19), (.bool b20)]) ∧
 R (.bool b19) H18)
 else (
 ∃ n21, H4.cell i1 0 = some (.int .i64 n21) ∧
 bif (n21 == 212) then (
 ∃ n22, H4.cell i1 4 = some (.int .i64 n22) ∧
 bif (n22 == 16) then (
 R (.bool true) H4)
 else (
 ∃ n23, H4.cell i1 4 = some (.int .i64 n23) ∧
 bif (n23 == 32) then (
 R (.bool true) H4)
 else (
 ∃ n24, H4.cell i1 4 = some (.int .i64 n24) ∧
 R (.bool (n24 == 64)) H4)))
 else (
 ∃ n25, H4.cell i1 0 = some (.int .i64 n25) ∧
 bif (n25 == 220) then (
 ∃ n26, H4.cell i1 4 = some (.int .i64 n26) ∧
 bif (n26 == 16) then (
 R (.bool true) H4)
 else (
 ∃ n27, H4.cell i1 4 = some (.int .i64 n27) ∧
 bif (n27 == 32) then (
 R (.bool true) H4)
 else (
 ∃ n28, H4.cell i1 4 = some (.int .i64 n28) ∧
 R (.bool (n28 == 64)) H4)))
 else (
 ∃ n29, H4.cell i1 0 = some (.int .i64 n29) ∧
 bif (n29 != 24) then (
 R (.bool true) H4)
 else (
 ∃ n30, H4.cell i1 2 = some (.int .i64 n30) ∧
 bif (n30 == 0) then (
 R (.bool true) H4)
 else (
 ∃ n31, H4.cell i1 4 = some (.int .i64 n31) ∧
 bif (decide (n31 ≥ 0)) then (
 ∃ n32, H4.cell i1 4 = some (.int .i64 n32) ∧
 R (.bool (decide (n32 ≤ 2147483647))) H4)
 else (
 R (.bool false) H4)))))))))) →
    CA en F.crossbarref02_ranged [(.agg #[(.int .i64 x0_0), (.int .i64 x0_1), (.int .i64 x0_2), (.int .i64 x0_3), (.int .i64 x0_4)]), (.agg #[(.bool x1_0), (.string x1_1), (.bool x1_2), (.int .i64 x1_3), (.int .i64 x1_4)])] H R := by
  intro h
  refine wpFn_ok (Z := []) (fn := Go.Proofs.Tryd.f74) ?_ ?_ ?_
  · kernel_rfl
  · kernel_rfl
  · apply turnInto h
    kernel_rfl


/-! crossbarref02_alu -/

theorem vc_crossbarref02_alu (x0 : Int) (H : Heap) (R : Value → Heap → Prop) :
    (
 nwH H (.cells true 0 [(.bool false), (.string ⟨#[]⟩), (.bool false), (.int .i64 0), (.int .i64 0)]) fun i1 H2 =>
 nz 16 ∧
 nz 8 ∧
 nz 2 ∧
 nwH H2 (.cells true 0 [(.bool false), (.string ⟨#[]⟩), (.bool false), (.int .i64 0), (.int .i64 0)]) fun i3 H4 =>
 stc H4 i3 0 [(.bool (decide ((IntKind.i64.wrap (Int.tdiv x0 16)) ≤ 12))), (.string ⟨#[100, 105]⟩), (.bool true), (.int .i64 (-2147483648)), (.int .i64 2147483647)] fun H5 =>
 bif ((IntKind.i64.wrap (Int.tdiv x0 16)) == 13) then (
 nz 8 ∧
 stc H5 i3 0 [(.bool ((Int.tmod x0 8) == 4))] fun H6 =>
 ∃ b7, ∃ s8, ∃ b9, ∃ n10, ∃ n11, H6.cellsAt i3 0 5 = some [(.bool b7), (.string s8), (.bool b9), (.int .i64 n10), (.int .i64 n11)] ∧
 stc H6 i1 0 [(.bool b7), (.string s8), (.bool b9), (.int .i64 n10), (.int .i64 n11)] fun H12 =>
 ∃ b13, ∃ s14, ∃ b15, ∃ n16, ∃ n17, H12.cellsAt i1 0 5 = some [(.bool b13), (.string s14), (.bool b15), (.int .i64 n16), (.int .i64 n17)] ∧
 R (.agg #[(.bool b13), (.string s14), (.bool b15), (.int .i64 n16), (.int .i64 n17)]) H12)
 else (
 bif ((IntKind.i64.wrap (Int.tdiv x0 16)) == 8) then (
 stc H5 i3 0 [(.bool (!((Int.tmod (IntKind.i64.wrap (Int.tdiv x0 8)) 2) == 1)))] fun H18 =>
 stc H18 i3 1 [(.string ⟨#[100]⟩)] fun H19 =>
 ∃ b20, ∃ s21, ∃ b22, ∃ n23, ∃ n24, H19.cellsAt i3 0 5 = some [(.bool b20), (.string s21), (.bool b22), (.int .i64 n23), (.int .i64 n24)] ∧
 stc H19 i1 0 [(.bool b20), (.string s21), (.bool b22), (.int .i64 n23), (.int .i64 n24)] fun H25 =>
 ∃ b26, ∃ s27, ∃ b28, ∃ n29, ∃ n30, H25.cellsAt i1 0 5 = some [(.bool b26), (.string s27), (.bool b28), (.int .i64 n29), (.int .i64 n30)] ∧
 R (.agg #[(.bool b26), (.string s27), (.bool b28), (.int .i64 n29), (.int .i64 n30)]) H25)
 else (
 bif ((Int.tmod (IntKind.i64.wrap (Int.tdiv x0 8)) 2) == 1) then (
 stc H5 i3 1 [(.string ⟨#[100, 115]⟩)] fun H31 =>
 ∃ b32, ∃ s33, ∃ b34, ∃ n35, ∃ n36, H31.cellsAt i3 0 5 = some [(.bool b32), (.string s33), (.bool b34), (.int .i64 n35), (.int .i64 n36)] ∧
 stc H31 i1 0 [(.bool b32), (.string s33), (.bool b34), (.int .i64 n35), (.int .i64 n36)] fun H37 =>
 ∃ b38, ∃ s39, ∃ b40, ∃ n41, ∃ n42, H37.cellsAt i1 0 5 = some [(.bool b38), (.string s39), (.bool b40), (.int .i64 n41), (.int .i64 n42)] ∧
 R (.agg #[(.bool b38), (.string s39), (.bool b40), (.int .i64 n41), (.int .i64 n42)]) H37)
 else (
 bif ((IntKind.i64.wrap (Int.tdiv x0 16)) == 6) then (
 stc H5 i3 3 [(.int .i64 0)] fun H43 =>
 stc H43 i3 4 [(.int .i64 31)] fun H44 =>
 nz 8 ∧
 bif ((Int.tmod x0 8) == 7) then (
 stc H44 i3 4 [(.int .i64 63)] fun H45 =>
 ∃ b46, ∃ s47, ∃ b48, ∃ n49, ∃ n50, H45.cellsAt i3 0 5 = some [(.bool b46), (.string s47), (.bool b48), (.int .i64 n49), (.int .i64 n50)] ∧
 stc H45 i1 0 [(.bool b46), (.string s47), (.bool b48), (.int .i64 n49), (.int .i64 n50)] fun H51 =>
 ∃ b52, ∃ s53, ∃ b54, ∃ n55, ∃ n56, H51.cellsAt i1 0 5 = some [(.bool b52), (.string s53), (.bool b54), (.int .i64 n55), (.int .i64 n56)] ∧
 R (.agg #[(.bool b52), (.string s53), (.bool b54), (.int .i64 n55), (.int .i64 n56)]) H51)
 else (
 ∃ b57, ∃ s58, ∃ b59, ∃ n60, ∃ n61, H44.cellsAt i3 0 5 = some [(.bool b57), (.string s58), (.bool b59), (.int .i64 n60), (.int .i64 n61)] ∧
 stc H44 i1 0 [(.bool b57), (.string s58), (.bool b59), (.int .i64 n60), (.int .i64 n61)] fun H62 =>
 ∃ b63, ∃ s64, ∃ b65, ∃ n66, ∃ n67, H62.cellsAt i1 0 5 = some [(.bool b63), (.string s64), (.bool b65), (.int .i64 n66), (.int .i64 n67)] ∧
 R (.agg #[(.bool b63), (.string s64), (.bool b65), (.int .i64 n66), (.int .i64 n67)]) H62))
 else (
 bif ((IntKind.i64.wrap (Int.tdiv x0 16)) == 7) then (
 stc H5 i3 3 [(.int .i64 0)] fun H68 =>
 stc H68 i3 4 [(.int .i64 31)] fun H69 =>
 nz 8 ∧
 bif ((Int.tmod x0 8) == 7) then (
 stc H69 i3 4 [(.int .i64 63)] fun H70 =>
 ∃ b71, ∃ s72, ∃ b73, ∃ n74, ∃ n75, H70.cellsAt i3 0 5 = some [(.bool b71), (.string s72), (.bool b73), (.int .i64 n74), (.int .i64 n75)] ∧
 stc H70 i1 0 [(.bool b71), (.string s72), (.bool b73), (.int .i64 n74), (.int .i64 n75)] fun H76 =>
 ∃ b77, ∃ s78, ∃ b79, ∃ n80, ∃ n81, H76.cellsAt i1 0 5 = some [(.bool b77), (.string s78), (.bool b79), (.int .i64 n80), (.int .i64 n81)] ∧
 R (.agg #[(.bool b77), (.string s78), (.bool b79), (.int .i64 n80), (.int .i64 n81)]) H76)
 else (
 ∃ b82, ∃ s83, ∃ b84, ∃ n85, ∃ n86, H69.cellsAt i3 0 5 = some [(.bool b82), (.string s83), (.bool b84), (.int .i64 n85), (.int .i64 n86)] ∧
 stc H69 i1 0 [(.bool b82), (.string s83), (.bool b84), (.int .i64 n85), (.int .i64 n86)] fun H87 =>
 ∃ b88, ∃ s89, ∃ b90, ∃ n91, ∃ n92, H87.cellsAt i1 0 5 = some [(.bool b88), (.string s89), (.bool b90), (.int .i64 n91), (.int .i64 n92)] ∧
 R (.agg #[(.bool b88), (.string s89), (.bool b90), (.int .i64 n91), (.int .i64 n92)]) H87))
 else (
 bif ((IntKind.i64.wrap (Int.tdiv x0 16)) == 12) then (
 stc H5 i3 3 [(.int .i64 0)] fun H93 =>
 stc H93 i3 4 [(.int .i64 31)] fun H94 =>
 nz 8 ∧
 bif ((Int.tmod x0 8) == 7) then (
 stc H94 i3 4 [(.int .i64 63)] fun H95 =>
 ∃ b96, ∃ s97, ∃ b98, ∃ n99, ∃ n100, H95.cellsAt i3 0 5 = some [(.bool b96), (.string s97), (.bool b98), (.int .i64 n99), (.int .i64 n100)] ∧
 stc H95 i1 0 [(.bool b96), (.string s97), (.bool b98), (.int .i64 n99), (.int .i64 n100)] fun H101 =>
 ∃ b102, ∃ s103, ∃ b104, ∃ n105, ∃ n106, H101.cellsAt i1 0 5 = some [(.bool b102), (.string s103), (.bool b104), (.int .i64 n105), (.int .i64 n106)] ∧
 R (.agg #[(.bool b102), (.string s103), (.bool b104), (.int .i64 n105), (.int .i64 n106)]) H101)
 else (
 ∃ b107, ∃ s108, ∃ b109, ∃ n110, ∃ n111, H94.cellsAt i3 0 5 = some [(.bool b107), (.string s108), (.bool b109), (.int .i64 n110), (.int .i64 n111)] ∧
 stc H94 i1 0 [(.bool b107), (.string s108), (.bool b109), (.int .i64 n110), (.int .i64 n111)] fun H112 =>
 ∃ b113, ∃ s114, ∃ b115, ∃ n116, ∃ n117, H112.cellsAt i1 0 5 = some [(.bool b113), (.string s114), (.bool b115), (.int .i64 n116), (.int .i64 n117)] ∧
 R (.agg #[(.bool b113), (.string s114), (.bool b115), (.int .i64 n116), (.int .i64 n117)]) H112))
 else (
 ∃ b118, ∃ s119, ∃ b120, ∃ n121, ∃ n122, H5.cellsAt i3 0 5 = some [(.bool b118), (.string s119), (.bool b120), (.int .i64 n121), (.int .i64 n122)] ∧
 stc H5 i1 0 [(.bool b118), (.string s119), (.bool b120), (.int .i64 n121), (.int .i64 n122)] fun H123 =>
 ∃ b124, ∃ s125, ∃ b126, ∃ n127, ∃ n128, H123.cellsAt i1 0 5 = some [(.bool b124), (.string s125), (.bool b126), (.int .i64 n127), (.int .i64 n128)] ∧
 R (.agg #[(.bool b124), (.string s125), (.bool b126), (.int .i64 n127), (.int .i64 n128)]) H123))))))) →
    CA en F.crossbarref02_alu [(.int .i64 x0)] H R := by
  intro h
  refine wpFn_ok (Z := []) (fn := Go.Proofs.Tryd.f88) ?_ ?_ ?_
  · kernel_rfl
  · kernel_rfl
  · apply turnInto h
    kernel_rfl


/-! crossbarref02_jmp -/

theorem vc_crossbarref02_jmp (x0 : Int) (H : Heap) (R : Value → Heap → Prop) :
    (
 nwH H (.cells true 0 [(.bool false), (.string ⟨#[]⟩), (.bool false), (.int .i64 0), (.int .i64 0)]) fun i1 H2 =>
 nwH H2 (.cells true 0 [(.bool false), (.string ⟨#[]⟩), (.bool false), (.int .i64 0), (.int .i64 0)]) fun i3 H4 =>
 stc H4 i3 0 [(.bool false), (.string ⟨#[]⟩), (.bool false), (.int .i64 (-2147483648)), (.int .i64 2147483647)] fun H5 =>
 bif (x0 == 5) then (
 stc H5 i3 0 [(.bool true)] fun H6 =>
 stc H6 i3 1 [(.string ⟨#[111]⟩)] fun H7 =>
 ∃ b8, ∃ s9, ∃ b10, ∃ n11, ∃ n12, H7.cellsAt i3 0 5 = some [(.bool b8), (.string s9), (.bool b10), (.int .i64 n11), (.int .i64 n12)] ∧
 stc H7 i1 0 [(.bool b8), (.string s9), (.bool b10), (.int .i64 n11), (.int .i64 n12)] fun H13 =>
 ∃ b14, ∃ s15, ∃ b16, ∃ n17, ∃ n18, H13.cellsAt i1 0 5 = some [(.bool b14), (.string s15), (.bool b16), (.int .i64 n17), (.int .i64 n18)] ∧
 R (.agg #[(.bool b14), (.string s15), (.bool b16), (.int .i64 n17), (.int .i64 n18)]) H13)
 else (
 bif (x0 == 133) then (
 stc H5 i3 0 [(.bool true)] fun H19 =>
 stc H19 i3 1 [(.string ⟨#[105]⟩)] fun H20 =>
 ∃ b21, ∃ s22, ∃ b23, ∃ n24, ∃ n25, H20.cellsAt i3 0 5 = some [(.bool b21), (.string s22), (.bool b23), (.int .i64 n24), (.int .i64 n25)] ∧
 stc H20 i1 0 [(.bool b21), (.string s22), (.bool b23), (.int .i64 n24), (.int .i64 n25)] fun H26 =>
 ∃ b27, ∃ s28, ∃ b29, ∃ n30, ∃ n31, H26.cellsAt i1 0 5 = some [(.bool b27), (.string s28), (.bool b29), (.int .i64 n30), (.int .i64 n31)] ∧
 R (.agg #[(.bool b27), (.string s28), (.bool b29), (.int .i64 n30), (.int .i64 n31)]) H26)
 else (
 bif (x0 == 149) then (
 stc H5 i3 0 [(.bool true)] fun H32 =>
 ∃ b33, ∃ s34, ∃ b35, ∃ n36, ∃ n37, H32.cellsAt i3 0 5 = some [(.bool b33), (.string s34), (.bool b35), (.int .i64 n36), (.int .i64 n37)] ∧
 stc H32 i1 0 [(.bool b33), (.string s34), (.bool b35), (.int .i64 n36), (.int .i64 n37)] fun H38 =>
 ∃ b39, ∃ s40, ∃ b41, ∃ n42, ∃ n43, H38.cellsAt i1 0 5 = some [(.bool b39), (.string s40), (.bool b41), (.int .i64 n42), (.int .i64 n43)] ∧
 R (.agg #[(.bool b39), (.string s40), (.bool b41), (.int .i64 n42), (.int .i64 n43)]) H38)
 else (
 nz 16 ∧
 bif (decide ((IntKind.i64.wrap (Int.tdiv x0 16)) ≥ 1)) then (
 bif (decide ((IntKind.i64.wrap (Int.tdiv x0 16)) ≤ 7)) then (
 stc H5 i3 0 [(.bool true)] fun H44 =>
 stc H44 i3 1 [(.string ⟨#[100, 111, 105]⟩)] fun H45 =>
 nz 8 ∧
 nz 2 ∧
 bif ((Int.tmod (IntKind.i64.wrap (Int.tdiv x0 8)) 2) == 1) then (
 stc H45 i3 1 [(.string ⟨#[100, 115, 111]⟩)] fun H46 =>
 ∃ b47, ∃ s48, ∃ b49, ∃ n50, ∃ n51, H46.cellsAt i3 0 5 = some [(.bool b47), (.string s48), (.bool b49), (.int .i64 n50), (.int .i64 n51)] ∧
 stc H46 i1 0 [(.bool b47), (.string s48), (.bool b49), (.int .i64 n50), (.int .i64 n51)] fun H52 =>
 ∃ b53, ∃ s54, ∃ b55, ∃ n56, ∃ n57, H52.cellsAt i1 0 5 = some [(.bool b53), (.string s54), (.bool b55), (.int .i64 n56), (.int .i64 n57)] ∧
 R (.agg #[(.bool b53), (.string s54), (.bool b55), (.int .i64 n56), (.int .i64 n57)]) H52)
 else (
 ∃ b58, ∃ s59, ∃ b60, ∃ n61, ∃ n62, H45.cellsAt i3 0 5 = some [(.bool b58), (.string s59), (.bool b60), (.int .i64 n61), (.int .i64 n62)] ∧
 stc H45 i1 0 [(.bool b58), (.string s59), (.bool b60), (.int .i64 n61), (.int .i64 n62)] fun H63 =>
 ∃ b64, ∃ s65, ∃ b66, ∃ n67, ∃ n68, H63.cellsAt i1 0 5 = some [(.bool b64), (.string s65), (.bool b66), (.int .i64 n67), (.int .i64 n68)] ∧
 R (.agg #[(.bool b64), (.string s65), (.bool b66), (.int .i64 n67), (.int .i64 n68)]) H63))
 else (
 bif (decide ((IntKind.i64.wrap (Int.tdiv x0 16)) ≥ 10)) then (
 stc H5 i3 0 [(.bool (decide ((IntKind.i64.wrap (Int.tdiv x0 16)) ≤ 13)))] fun H69 =>
 stc H69 i3 1 [(.string ⟨#[100, 111, 105]⟩)] fun H70 =>
 nz 8 ∧
 nz 2 ∧
 bif ((Int.tmod (IntKind.i64.wrap (Int.tdiv x0 8)) 2) == 1) then (
 stc H70 i3 1 [(.string ⟨#[100, 115, 111]⟩)] fun H71 =>
 ∃ b72, ∃ s73, ∃ b74, ∃ n75, ∃ n76, H71.cellsAt i3 0 5 = some [(.bool b72), (.string s73), (.bool b74), (.int .i64 n75), (.int .i64 n76)] ∧
 stc H71 i1 0 [(.bool b72), (.string s73), (.bool b74), (.int .i64 n75), (.int .i64 n76)] fun H77 =>
 ∃ b78, ∃ s79, ∃ b80, ∃ n81, ∃ n82, H77.cellsAt i1 0 5 = some [(.bool b78), (.string s79), (.bool b80), (.int .i64 n81), (.int .i64 n82)] ∧
 R (.agg #[(.bool b78), (.string s79), (.bool b80), (.int .i64 n81), (.int .i64 n82)]) H77)
 else (
 ∃ b83, ∃ s84, ∃ b85, ∃ n86, ∃ n87, H70.cellsAt i3 0 5 = some [(.bool b83), (.string s84), (.bool b85), (.int .i64 n86), (.int .i64 n87)] ∧
 stc H70 i1 0 [(.bool b83), (.string s84), (.bool b85), (.int .i64 n86), (.int .i64 n87)] fun H88 =>
 ∃ b89, ∃ s90, ∃ b91, ∃ n92, ∃ n93, H88.cellsAt i1 0 5 = some [(.bool b89), (.string s90), (.bool b91), (.int .i64 n92), (.int .i64 n93)] ∧
 R (.agg #[(.bool b89), (.string s90), (.bool b91), (.int .i64 n92), (.int .i64 n93)]) H88))
 else (
 stc H5 i3 0 [(.bool false)] fun H94 =>
 stc H94 i3 1 [(.string ⟨#[100, 111, 105]⟩)] fun H95 =>
 nz 8 ∧
 nz 2 ∧
 bif ((Int.tmod (IntKind.i64.wrap (Int.tdiv x0 8)) 2) == 1) then (
 stc H95 i3 1 [(.string ⟨#[100, 115, 111]⟩)] fun H96 =>
 ∃ b97, ∃ s98, ∃ b99, ∃ n100, ∃ n101, H96.cellsAt i3 0 5 = some [(.bool b97), (.string s98), (.bool b99), (.int .i64 n100), (.int .i64 n101)] ∧
 stc H96 i1 0 [(.bool b97), (.string s98), (.bool b99), (.int .i64 n100), (.int .i64 n101)] fun H102 =>
 ∃ b103, ∃ s104, ∃ b105, ∃ n106, ∃ n107, H102.cellsAt i1 0 5 = some [(.bool b103), (.string s104), (.bool b105), (.int .i64 n106), (.int .i64 n107)] ∧
 R (.agg #[(.bool b103), (.string s104), (.bool b105), (.int .i64 n106), (.int .i64 n107)]) H102)
 else (
 ∃ b108, ∃ s109, ∃ b110, ∃ n111, ∃ n112, H95.cellsAt i3 0 5 = some [(.bool b108), (.string s109), (.bool b110), (.int .i64 n111), (.int .i64 n112)] ∧
 stc H95 i1 0 [(.bool b108), (.string s109), (.bool b110), (.int .i64 n111), (.int .i64 n112)] fun H113 =>
 ∃ b114, ∃ s115, ∃ b116, ∃ n117, ∃ n118, H113.cellsAt i1 0 5 = some [(.bool b114), (.string s115), (.bool b116), (.int .i64 n117), (.int .i64 n118)] ∧
 R (.agg #[(.bool b114), (.string s115), (.bool b116), (.int .i64 n117), (.int .i64 n118)]) H113))))
 else (
 bif (decide ((IntKind.i64.wrap (Int.tdiv x0 16)) ≥ 10)) then (
 stc H5 i3 0 [(.bool (decide ((IntKind.i64.wrap (Int.tdiv x0 16)) ≤ 13)))] fun H119 =>
 stc H119 i3 1 [(.string ⟨#[100, 111, 105]⟩)] fun H120 =>
 nz 8 ∧
 nz 2 ∧
 bif ((Int.tmod (IntKind.i64.wrap (Int.tdiv x0 8)) 2) == 1) then (
 stc H120 i3 1 [(.string ⟨#[100, 115, 111]⟩)] fun H121 =>
 ∃ b122, ∃ s123, ∃ b124, ∃ n125, ∃ n126, H121.cellsAt i3 0 5 = some [(.bool b122), (.string s123), (.bool b124), (.int .i64 n125), (.int .i64 n126)] ∧
 stc H121 i1 0 [(.bool b122), (.string s123), (.bool b124), (.int .i64 n125), (.int .i64 n126)] fun H127 =>
 ∃ b128, ∃ s129, ∃ b130, ∃ n131, ∃ n132, H127.cellsAt i1 0 5 = some [(.bool b128), (.string s129), (.bool b130), (.int .i64 n131), (.int .i64 n132)] ∧
 R (.agg #[(.bool b128), (.string s129), (.bool b130), (.int .i64 n131), (.int .i64 n132)]) H127)
 else (
 ∃ b133, ∃ s134, ∃ b135, ∃ n136, ∃ n137, H120.cellsAt i3 0 5 = some [(.bool b133), (.string s134), (.bool b135), (.int .i64 n136), (.int .i64 n137)] ∧
 stc H120 i1 0 [(.bool b133), (.string s134), (.bool b135), (.int .i64 n136), (.int .i64 n137)] fun H138 =>
 ∃ b139, ∃ s140, ∃ b141, ∃ n142, ∃ n143, H138.cellsAt i1 0 5 = some [(.bool b139), (.string s140), (.bool b141), (.int .i64 n142), (.int .i64 n143)] ∧
 R (.agg #[(.bool b139), (.string s140), (.bool b141), (.int .i64 n142), (.int .i64 n143)]) H138))
 else (
 stc H5 i3 0 [(.bool false)] fun H144 =>
 stc H144 i3 1 [(.string ⟨#[100, 111, 105]⟩)] fun H145 =>
 nz 8 ∧
 nz 2 ∧
 bif ((Int.tmod (IntKind.i64.wrap (Int.tdiv x0 8)) 2) == 1) then (
 stc H145 i3 1 [(.string ⟨#[100, 115, 111]⟩)] fun H146 =>
 ∃ b147, ∃ s148, ∃ b149, ∃ n150, ∃ n151, H146.cellsAt i3 0 5 = some [(.bool b147), (.string s148), (.bool b149), (.int .i64 n150), (.int .i64 n151)] ∧
 stc H146 i1 0 [(.bool b147), (.string s148), (.bool b149), (.int .i64 n150), (.int .i64 n151)] fun H152 =>
 ∃ b153, ∃ s154, ∃ b155, ∃ n156, ∃ n157, H152.cellsAt i1 0 5 = some [(.bool b153), (.string s154), (.bool b155), (.int .i64 n156), (.int .i64 n157)] ∧
 R (.agg #[(.bool b153), (.string s154), (.bool b155), (.int .i64 n156), (.int .i64 n157)]) H152)
 else (
 ∃ b158, ∃ s159, ∃ b160, ∃ n161, ∃ n162, H145.cellsAt i3 0 5 = some [(.bool b158), (.string s159), (.bool b160), (.int .i64 n161), (.int .i64 n162)] ∧
 stc H145 i1 0 [(.bool b158), (.string s159), (.bool b160), (.int .i64 n161), (.int .i64 n162)] fun H163 =>
 ∃ b164, ∃ s165, ∃ b166, ∃ n167, ∃ n168, H163.cellsAt i1 0 5 = some [(.bool b164), (.string s165), (.bool b166), (.int .i64 n167), (.int .i64 n168)] ∧
 R (.agg #[(.bool b164), (.string s165), (.bool b166), (.int .i64 n167), (.int .i64 n168)]) H163))))))) →
    CA en F.crossbarref02_jmp [(.int .i64 x0)] H R := by
  intro h
  refine wpFn_ok (Z := []) (fn := Go.Proofs.Tryd.f89) ?_ ?_ ?_
  · kernel_rfl
  · kernel_rfl
  · apply turnInto h
    kernel_rfl


/-! crossbarref01_Get -/
noncomputable def L_crossbarref01_Get_0 : Code := loopAt Go.Proofs.Tryd.f77 0

theorem vc_crossbarref01_Get (x0 : Option Addr) (x0l : Nat) (x1 : Int) (x2 : Int) (H : Heap) (R : Value → Heap → Prop) :
    (
 CA en F.crossbarref01_there [(.slice x0 x0l 0), (.int .i64 x1), (.int .i64 x2)] H fun v1 H2 =>
 ∃ b3, v1 = (.bool b3) ∧
 bif (!b3) then (
 R (.tuple #[(.int .u64 0), (.bool false)]) H2)
 else (
 LA en L_crossbarref01_Get_0 [(.slice x0 x0l 0), (.int .i64 x1), (.int .i64 x2), undef, undef, undef, (.int .u64 0), (.bool false), (.int .u64 0), (.int .i64 (IntKind.i64.wrap (x2 - 1))), (.slice x0 x0l 0), (.int .i64 x1), (.int .i64 x2), (.bool b3), (.bool false), (.int .i64 x2), (.int .i64 (IntKind.i64.wrap (x2 - 1))), undef, undef, undef, undef, undef, undef, undef, undef, undef, undef, undef, undef, undef, undef, undef] H2 [(X.exit 0, fun (y4 : Fr) (H5 : Heap) =>
 AS.asInt .u64 (y4.getD 8 undef) fun n6 =>
 R (.tuple #[(.int .u64 n6), (.bool true)]) H5)])) →
    CA en F.crossbarref01_Get [(.slice x0 x0l 0), (.int .i64 x1), (.int .i64 x2)] H R := by
  intro h
  refine wpFn_ok (Z := [[(8, (.int .u64 0))]]) (fn := Go.Proofs.Tryd.f77) ?_ ?_ ?_
  · kernel_rfl
  · kernel_rfl
  · apply turnInto h
    kernel_rfl

theorem use_crossbarref01_Get_0 {t0 : Option Addr} {t0l : Nat} {t1 : Int} {t2 : Int} {t10 : Option Addr} {t10l : Nat} {t11 : Int} {t12 : Int} {t13 : Bool} {t15 : Int} {t16 : Int} {K0 : Fr → Heap → Prop} {t8 : Int} {t9 : Int} {t17 : Value} {t18 : Value} {t19 : Value} {t20 : Value} {t21 : Value} {t22 : Value} {t23 : Value} {t24 : Value} {t25 : Value} {t26 : Value} {t27 : Value} {t28 : Value} {t29 : Value} {t30 : Value} {H : Heap} (I : Nat → Int → Int → Heap → Prop) (n : Nat) (h0 : I n t8 t9 H)
    (hstep : ∀ (n : Nat) (t8 : Int) (t9 : Int) (ys : Fr) (H : Heap), I n t8 t9 H →
    (
 bif (decide (t9 ≥ 0)) then (
 inB (IntKind.i64.wrap (t1 + t9)) t0l ∧
 asRow t0 fun i1 i2 =>
 ∃ n3, H.cell i1 (i2 + ((IntKind.i64.wrap (t1 + t9)).toNat * 1)) = some (.int .u8 n3) ∧
 ∃ k4, k4 < n ∧
 I k4 (IntKind.u64.wrap ((IntKind.u64.wrap (256 * t8)) + (IntKind.u64.wrap n3))) (IntKind.i64.wrap (t9 - 1)) H)
 else (
 K0 [(.slice t0 t0l 0), (.int .i64 t1), (.int .i64 t2), undef, undef, undef, (.int .u64 0), (.bool false), (.int .u64 t8), (.int .i64 t9), (.slice t10 t10l 0), (.int .i64 t11), (.int .i64 t12), (.bool t13), (.bool false), (.int .i64 t15), (.int .i64 t16), (.int .i64 t9), (.bool false), (ys.getD 19 undef), (ys.getD 20 undef), (ys.getD 21 undef), (ys.getD 22 undef), (ys.getD 23 undef), (ys.getD 24 undef), (ys.getD 25 undef), (ys.getD 26 undef), (ys.getD 27 undef), (ys.getD 28 undef), (ys.getD 29 undef), (ys.getD 30 undef), undef] H))) :
    LA en L_crossbarref01_Get_0 [(.slice t0 t0l 0), (.int .i64 t1), (.int .i64 t2), undef, undef, undef, (.int .u64 0), (.bool false), (.int .u64 t8), (.int .i64 t9), (.slice t10 t10l 0), (.int .i64 t11), (.int .i64 t12), (.bool t13), (.bool false), (.int .i64 t15), (.int .i64 t16), t17, t18, t19, t20, t21, t22, t23, t24, t25, t26, t27, t28, t29, t30, undef] H [(X.exit 0, K0)] := by
  refine LA_rule (Z := []) (fun m xs H' => AS.asInt .u64 (xs.getD 8 undef) fun t8 => AS.asInt .i64 (xs.getD 9 undef) fun t9 => I m t8 t9 H') ?_ n H ?_
  · intro n H
    suffices hs : ∀ s17 : Value, ∀ s18 : Value, ∀ s21 : Value, ∀ s22 : Value, ∀ s23 : Value, ∀ s24 : Value, ∀ s25 : Value, ∀ s26 : Value, ∀ s27 : Value, ∀ s28 : Value, ∀ s29 : Value, ∀ s30 : Value, ∀ s8 : Value, ∀ s19 : Value, ∀ s20 : Value, ∀ s9 : Value, ((AS.asInt .u64 s8 fun t8 => AS.asInt .i64 s9 fun t9 => I n t8 t9 H) → wpCode en L_crossbarref01_Get_0 [] [(.slice t0 t0l 0), (.int .i64 t1), (.int .i64 t2), undef, undef, undef, (.int .u64 0), (.bool false), s8, s9, (.slice t10 t10l 0), (.int .i64 t11), (.int .i64 t12), (.bool t13), (.bool false), (.int .i64 t15), (.int .i64 t16), s17, s18, s19, s20, s21, s22, s23, s24, s25, s26, s27, s28, s29, s30, undef] H (loopQ (fun m xs H' => AS.asInt .u64 (xs.getD 8 undef) fun t8 => AS.asInt .i64 (xs.getD 9 undef) fun t9 => I m t8 t9 H') n [(X.exit 0, K0)])) by
      apply turnInto hs
      kernel_rfl
    intro s17 s18 s21 s22 s23 s24 s25 s26 s27 s28 s29 s30 s8 s19 s20 s9 hP
    replace hP := asInt_elim hP
    obtain ⟨t8, rfl, hP⟩ := hP
    replace hP := asInt_elim hP
    obtain ⟨t9, rfl, hP⟩ := hP
    apply turnInto (hstep n t8 t9 [(.slice t0 t0l 0), (.int .i64 t1), (.int .i64 t2), undef, undef, undef, (.int .u64 0), (.bool false), (.int .u64 t8), (.int .i64 t9), (.slice t10 t10l 0), (.int .i64 t11), (.int .i64 t12), (.bool t13), (.bool false), (.int .i64 t15), (.int .i64 t16), s17, s18, s19, s20, s21, s22, s23, s24, s25, s26, s27, s28, s29, s30, undef] H hP)
    kernel_rfl
  · apply turnInto h0
    kernel_rfl


/-! crossbarref01_there -/

theorem vc_crossbarref01_there (x0 : Option Addr) (x0l : Nat) (x1 : Int) (x2 : Int) (H : Heap) (R : Value → Heap → Prop) :
    (
 bif (x2 == 1) then (
 bif (decide (x1 ≥ 0)) then (
 bif (decide (x1 ≤ ((x0l : Nat) : Int))) then (
 R (.bool (decide (x2 ≤ (IntKind.i64.wrap (((x0l : Nat) : Int) - x1))))) H)
 else (
 R (.bool false) H))
 else (
 R (.bool false) H))
 else (
 bif (x2 == 2) then (
 bif (decide (x1 ≥ 0)) then (
 bif (decide (x1 ≤ ((x0l : Nat) : Int))) then (
 R (.bool (decide (x2 ≤ (IntKind.i64.wrap (((x0l : Nat) : Int) - x1))))) H)
 else (
 R (.bool false) H))
 else (
 R (.bool false) H))
 else (
 bif (x2 == 4) then (
 bif (decide (x1 ≥ 0)) then (
 bif (decide (x1 ≤ ((x0l : Nat) : Int))) then (
 R (.bool (decide (x2 ≤ (IntKind.i64.wrap (((x0l : Nat) : Int) - x1))))) H)
 else (
 R (.bool false) H))
 else (
 R (.bool false) H))
 else (
 bif (x2 == 8) then (
 bif (decide (x1 ≥ 0)) then (
 bif (decide (x1 ≤ ((x0l : Nat) : Int))) then (
 R (.bool (decide (x2 ≤ (IntKind.i64.wrap (((x0l : Nat) : Int) - x1))))) H)
 else (
 R (.bool false) H))
 else (
 R (.bool false) H))
 else (
 R (.bool false) H))))) →
    CA en F.crossbarref01_there [(.slice x0 x0l 0), (.int .i64 x1), (.int .i64 x2)] H R := by
  intro h
  refine wpFn_ok (Z := []) (fn := Go.Proofs.Tryd.f90) ?_ ?_ ?_
  · kernel_rfl
  · kernel_rfl
  · apply turnInto h
    kernel_rfl


/-! crossbarkit_LentInsns -/
noncomputable def L_crossbarkit_LentInsns_0 : Code := loopAt Go.Proofs.Tryd.f13 0

theorem vc_crossbarkit_LentInsns (x0 : Option Addr) (x0l : Nat) (H : Heap) (R : Value → Heap → Prop) :
    (
 CA en F.crossbarkit_CopyInsns [(.slice x0 x0l 0)] H fun v1 H2 =>
 ∃ a3 i4, v1 = (.slice a3 i4 0) ∧
 LA en L_crossbarkit_LentInsns_0 [(.slice x0 x0l 0), undef, (.slice none 0 0), (.slice a3 i4 0), (.int .i64 0), (.slice x0 x0l 0), (.slice a3 i4 0), undef, undef, undef, undef, undef, undef, undef, undef, undef, undef] H2 [(X.exit 0, fun (y5 : Fr) (H6 : Heap) =>
 asSl (y5.getD 3 undef) fun a7 i8 =>
 R (.slice a7 i8 0) H6)]) →
    CA en F.crossbarkit_LentInsns [(.slice x0 x0l 0)] H R := by
  intro h
  refine wpFn_ok (Z := [[(3, (.slice none 0 0))]]) (fn := Go.Proofs.Tryd.f13) ?_ ?_ ?_
  · kernel_rfl
  · kernel_rfl
  · apply turnInto h
    kernel_rfl

theorem use_crossbarkit_LentInsns_0 {t0 : Option Addr} {t0l : Nat} {t5 : Option Addr} {t5l : Nat} {t6 : Option Addr} {t6l : Nat} {K0 : Fr → Heap → Prop} {t3 : Option Addr} {t3l : Nat} {t4 : Int} {t7 : Value} {t8 : Value} {t9 : Value} {t10 : Value} {t11 : Value} {t12 : Value} {t13 : Value} {t14 : Value} {t15 : Value} {H : Heap} (I : Nat → Option Addr → Nat → Int → Heap → Prop) (n : Nat) (h0 : I n t3 t3l t4 H)
    (hstep : ∀ (n : Nat) (t3 : Option Addr) (t3l : Nat) (t4 : Int) (ys : Fr) (H : Heap), I n t3 t3l t4 H →
    (
 bif (decide (t4 < 5)) then (
 CA en F.crossbarkit_markInsns [(.int .i64 t4)] H fun v1 H2 =>
 ∃ n3, ∃ n4, ∃ n5, ∃ n6, ∃ n7, v1 = (.agg #[(.int .i64 n3), (.int .i64 n4), (.int .i64 n5), (.int .i64 n6), (.int .i64 n7)]) ∧
 nwH H2 (.cells true 5 [(.int .i64 n3), (.int .i64 n4), (.int .i64 n5), (.int .i64 n6), (.int .i64 n7)]) fun i8 H9 =>
 ∃ l10, rowOf H9 5 (some ⟨i8, 0, none⟩) 1 = some l10 ∧
 apd H9 40 5 t3 t3l 1 l10 fun a11 i12 H13 =>
 ∃ k14, k14 < n ∧
 I k14 a11 i12 (IntKind.i64.wrap (t4 + 1)) H13)
 else (
 K0 [(.slice t0 t0l 0), undef, (.slice none 0 0), (.slice t3 t3l 0), (.int .i64 t4), (.slice t5 t5l 0), (.slice t6 t6l 0), (.int .i64 t4), (.bool false), (ys.getD 9 undef), (ys.getD 10 undef), (ys.getD 11 undef), (ys.getD 12 undef), (ys.getD 13 undef), (ys.getD 14 undef), (ys.getD 15 undef), undef] H))) :
    LA en L_crossbarkit_LentInsns_0 [(.slice t0 t0l 0), undef, (.slice none 0 0), (.slice t3 t3l 0), (.int .i64 t4), (.slice t5 t5l 0), (.slice t6 t6l 0), t7, t8, t9, t10, t11, t12, t13, t14, t15, undef] H [(X.exit 0, K0)] := by
  refine LA_rule (Z := []) (fun m xs H' => asSl (xs.getD 3 undef) fun t3 t3l => AS.asInt .i64 (xs.getD 4 undef) fun t4 => I m t3 t3l t4 H') ?_ n H ?_
  · intro n H
    suffices hs : ∀ s7 : Value, ∀ s8 : Value, ∀ s11 : Value, ∀ s12 : Value, ∀ s13 : Value, ∀ s14 : Value, ∀ s15 : Value, ∀ s3 : Value, ∀ s9 : Value, ∀ s10 : Value, ∀ s4 : Value, ((asSl s3 fun t3 t3l => AS.asInt .i64 s4 fun t4 => I n t3 t3l t4 H) → wpCode en L_crossbarkit_LentInsns_0 [] [(.slice t0 t0l 0), undef, (.slice none 0 0), s3, s4, (.slice t5 t5l 0), (.slice t6 t6l 0), s7, s8, s9, s10, s11, s12, s13, s14, s15, undef] H (loopQ (fun m xs H' => asSl (xs.getD 3 undef) fun t3 t3l => AS.asInt .i64 (xs.getD 4 undef) fun t4 => I m t3 t3l t4 H') n [(X.exit 0, K0)])) by
      apply turnInto hs
      kernel_rfl
    intro s7 s8 s11 s12 s13 s14 s15 s3 s9 s10 s4 hP
    replace hP := asSl_elim hP
    obtain ⟨t3, t3l, rfl, hP⟩ := hP
    replace hP := asInt_elim hP
    obtain ⟨t4, rfl, hP⟩ := hP
    apply turnInto (hstep n t3 t3l t4 [(.slice t0 t0l 0), undef, (.slice none 0 0), (.slice t3 t3l 0), (.int .i64 t4), (.slice t5 t5l 0), (.slice t6 t6l 0), s7, s8, s9, s10, s11, s12, s13, s14, s15, undef] H hP)
    kernel_rfl
  · apply turnInto h0
    kernel_rfl


/-! crossbarkit_LentBytes -/
noncomputable def L_crossbarkit_LentBytes_0 : Code := loopAt Go.Proofs.Tryd.f19 0

theorem vc_crossbarkit_LentBytes (x0 : Option Addr) (x0l : Nat) (H : Heap) (R : Value → Heap → Prop) :
    (
 CA en F.crossbarkit_CopyBytes [(.slice x0 x0l 0)] H fun v1 H2 =>
 ∃ a3 i4, v1 = (.slice a3 i4 0) ∧
 LA en L_crossbarkit_LentBytes_0 [(.slice x0 x0l 0), undef, (.slice none 0 0), (.slice a3 i4 0), (.int .i64 0), (.slice x0 x0l 0), (.slice a3 i4 0), undef, undef, undef, undef, undef, undef, undef, undef, undef, undef] H2 [(X.exit 0, fun (y5 : Fr) (H6 : Heap) =>
 asSl (y5.getD 3 undef) fun a7 i8 =>
 R (.slice a7 i8 0) H6)]) →
    CA en F.crossbarkit_LentBytes [(.slice x0 x0l 0)] H R := by
  intro h
  refine wpFn_ok (Z := [[(3, (.slice none 0 0))]]) (fn := Go.Proofs.Tryd.f19) ?_ ?_ ?_
  · kernel_rfl
  · kernel_rfl
  · apply turnInto h
    kernel_rfl

theorem use_crossbarkit_LentBytes_0 {t0 : Option Addr} {t0l : Nat} {t5 : Option Addr} {t5l : Nat} {t6 : Option Addr} {t6l : Nat} {K0 : Fr → Heap → Prop} {t3 : Option Addr} {t3l : Nat} {t4 : Int} {t7 : Value} {t8 : Value} {t9 : Value} {t10 : Value} {t11 : Value} {t12 : Value} {t13 : Value} {t14 : Value} {t15 : Value} {H : Heap} (I : Nat → Option Addr → Nat → Int → Heap → Prop) (n : Nat) (h0 : I n t3 t3l t4 H)
    (hstep : ∀ (n : Nat) (t3 : Option Addr) (t3l : Nat) (t4 : Int) (ys : Fr) (H : Heap), I n t3 t3l t4 H →
    (
 bif (decide (t4 < 5)) then (
 CA en F.crossbarkit_markBytes [(.int .i64 t4)] H fun v1 H2 =>
 ∃ n3, v1 = (.int .u8 n3) ∧
 nwH H2 (.cells true 1 [(.int .u8 n3)]) fun i4 H5 =>
 ∃ l6, rowOf H5 1 (some ⟨i4, 0, none⟩) 1 = some l6 ∧
 apd H5 1 1 t3 t3l 1 l6 fun a7 i8 H9 =>
 ∃ k10, k10 < n ∧
 I k10 a7 i8 (IntKind.i64.wrap (t4 + 1)) H9)
 else (
 K0 [(.slice t0 t0l 0), undef, (.slice none 0 0), (.slice t3 t3l 0), (.int .i64 t4), (.slice t5 t5l 0), (.slice t6 t6l 0), (.int .i64 t4), (.bool false), (ys.getD 9 undef), (ys.getD 10 undef), (ys.getD 11 undef), (ys.getD 12 undef), (ys.getD 13 undef), (ys.getD 14 undef), (ys.getD 15 undef), undef] H))) :
    LA en L_crossbarkit_LentBytes_0 [(.slice t0 t0l 0), undef, (.slice none 0 0), (.slice t3 t3l 0), (.int .i64 t4), (.slice t5 t5l 0), (.slice t6 t6l 0), t7, t8, t9, t10, t11, t12, t13, t14, t15, undef] H [(X.exit 0, K0)] := by
  refine LA_rule (Z := []) (fun m xs H' => asSl (xs.getD 3 undef) fun t3 t3l => AS.asInt .i64 (xs.getD 4 undef) fun t4 => I m t3 t3l t4 H') ?_ n H ?_
  · intro n H
    suffices hs : ∀ s7 : Value, ∀ s8 : Value, ∀ s11 : Value, ∀ s12 : Value, ∀ s13 : Value, ∀ s14 : Value, ∀ s15 : Value, ∀ s3 : Value, ∀ s9 : Value, ∀ s10 : Value, ∀ s4 : Value, ((asSl s3 fun t3 t3l => AS.asInt .i64 s4 fun t4 => I n t3 t3l t4 H) → wpCode en L_crossbarkit_LentBytes_0 [] [(.slice t0 t0l 0), undef, (.slice none 0 0), s3, s4, (.slice t5 t5l 0), (.slice t6 t6l 0), s7, s8, s9, s10, s11, s12, s13, s14, s15, undef] H (loopQ (fun m xs H' => asSl (xs.getD 3 undef) fun t3 t3l => AS.asInt .i64 (xs.getD 4 undef) fun t4 => I m t3 t3l t4 H') n [(X.exit 0, K0)])) by
      apply turnInto hs
      kernel_rfl
    intro s7 s8 s11 s12 s13 s14 s15 s3 s9 s10 s4 hP
    replace hP := asSl_elim hP
    obtain ⟨t3, t3l, rfl, hP⟩ := hP
    replace hP := asInt_elim hP
    obtain ⟨t4, rfl, hP⟩ := hP
    apply turnInto (hstep n t3 t3l t4 [(.slice t0 t0l 0), undef, (.slice none 0 0), (.slice t3 t3l 0), (.int .i64 t4), (.slice t5 t5l 0), (.slice t6 t6l 0), s7, s8, s9, s10, s11, s12, s13, s14, s15, undef] H hP)
    kernel_rfl
  · apply turnInto h0
    kernel_rfl


/-! crossbarkit_KeptInsns -/
noncomputable def L_crossbarkit_KeptInsns_0 : Code := loopAt Go.Proofs.Tryd.f17 0

theorem vc_crossbarkit_KeptInsns (x0 : Option Addr) (x0l : Nat) (x1 : Option Addr) (x1l : Nat) (H : Heap) (R : Value → Heap → Prop) :
    (
 bif (((x0l : Nat) : Int) != (IntKind.i64.wrap (((x1l : Nat) : Int) + 5))) then (
 R (.bool false) H)
 else (
 inS ((x1l : Nat) : Int) x0l ∧
 slK H x0 5 0 ((x1l : Nat) : Int).toNat fun v1 =>
 CA en F.crossbarkit_SameInsns [v1, (.slice x1 x1l 0)] H fun v2 H3 =>
 ∃ b4, v2 = (.bool b4) ∧
 bif (!b4) then (
 R (.bool false) H3)
 else (
 LA en L_crossbarkit_KeptInsns_0 [(.slice x0 x0l 0), (.slice x1 x1l 0), undef, undef, (.bool false), (.slice none 0 0), (.int .i64 0), (.slice x0 x0l 0), (.int .i64 ((x0l : Nat) : Int)), (.slice x1 x1l 0), (.int .i64 ((x1l : Nat) : Int)), (.int .i64 (IntKind.i64.wrap (((x1l : Nat) : Int) + 5))), (.bool (((x0l : Nat) : Int) != (IntKind.i64.wrap (((x1l : Nat) : Int) + 5)))), (.bool false), (.slice x0 x0l 0), (.slice x1 x1l 0), (.int .i64 ((x1l : Nat) : Int)), v1, (.slice x1 x1l 0), (.bool b4), (.bool (!b4)), (.bool false), undef, undef, undef, undef, undef, undef, undef, undef, undef, undef, undef, undef, undef, undef, undef] H3 [(X.exit 0, fun (y5 : Fr) (H6 : Heap) =>
 asSl (y5.getD 5 undef) fun a7 i8 =>
 inS ((x1l : Nat) : Int) x0l ∧
 slK H6 x0 5 ((x1l : Nat) : Int).toNat (x0l - ((x1l : Nat) : Int).toNat) fun v9 =>
 CA en F.crossbarkit_SameInsns [v9, (.slice a7 i8 0)] H6 fun v10 H11 =>
 ∃ b12, v10 = (.bool b12) ∧
 R (.bool b12) H11)]))) →
    CA en F.crossbarkit_KeptInsns [(.slice x0 x0l 0), (.slice x1 x1l 0)] H R := by
  intro h
  refine wpFn_ok (Z := [[(5, (.slice none 0 0))]]) (fn := Go.Proofs.Tryd.f17) ?_ ?_ ?_
  · kernel_rfl
  · kernel_rfl
  · apply turnInto h
    kernel_rfl

theorem use_crossbarkit_KeptInsns_0 {t0 : Option Addr} {t0l : Nat} {t1 : Option Addr} {t1l : Nat} {t7 : Option Addr} {t7l : Nat} {t8 : Int} {t9 : Option Addr} {t9l : Nat} {t10 : Int} {t11 : Int} {t12 : Bool} {t14 : Option Addr} {t14l : Nat} {t15 : Option Addr} {t15l : Nat} {t16 : Int} {t17 : Value} {t18 : Option Addr} {t18l : Nat} {t19 : Bool} {t20 : Bool} {K0 : Fr → Heap → Prop} {t5 : Option Addr} {t5l : Nat} {t6 : Int} {t22 : Value} {t23 : Value} {t24 : Value} {t25 : Value} {t26 : Value} {t27 : Value} {t28 : Value} {t29 : Value} {t30 : Value} {H : Heap} (I : Nat → Option Addr → Nat → Int → Heap → Prop) (n : Nat) (h0 : I n t5 t5l t6 H)
    (hstep : ∀ (n : Nat) (t5 : Option Addr) (t5l : Nat) (t6 : Int) (ys : Fr) (H : Heap), I n t5 t5l t6 H →
    (
 bif (decide (t6 < 5)) then (
 CA en F.crossbarkit_markInsns [(.int .i64 t6)] H fun v1 H2 =>
 ∃ n3, ∃ n4, ∃ n5, ∃ n6, ∃ n7, v1 = (.agg #[(.int .i64 n3), (.int .i64 n4), (.int .i64 n5), (.int .i64 n6), (.int .i64 n7)]) ∧
 nwH H2 (.cells true 5 [(.int .i64 n3), (.int .i64 n4), (.int .i64 n5), (.int .i64 n6), (.int .i64 n7)]) fun i8 H9 =>
 ∃ l10, rowOf H9 5 (some ⟨i8, 0, none⟩) 1 = some l10 ∧
 apd H9 40 5 t5 t5l 1 l10 fun a11 i12 H13 =>
 ∃ k14, k14 < n ∧
 I k14 a11 i12 (IntKind.i64.wrap (t6 + 1)) H13)
 else (
 K0 [(.slice t0 t0l 0), (.slice t1 t1l 0), undef, undef, (.bool false), (.slice t5 t5l 0), (.int .i64 t6), (.slice t7 t7l 0), (.int .i64 t8), (.slice t9 t9l 0), (.int .i64 t10), (.int .i64 t11), (.bool t12), (.bool false), (.slice t14 t14l 0), (.slice t15 t15l 0), (.int .i64 t16), t17, (.slice t18 t18l 0), (.bool t19), (.bool t20), (.bool false), (.int .i64 t6), (.bool false), (ys.getD 24 undef), (ys.getD 25 undef), (ys.getD 26 undef), (ys.getD 27 undef), (ys.getD 28 undef), (ys.getD 29 undef), (ys.getD 30 undef), undef, undef, undef, undef, undef, undef] H))) :
    LA en L_crossbarkit_KeptInsns_0 [(.slice t0 t0l 0), (.slice t1 t1l 0), undef, undef, (.bool false), (.slice t5 t5l 0), (.int .i64 t6), (.slice t7 t7l 0), (.int .i64 t8), (.slice t9 t9l 0), (.int .i64 t10), (.int .i64 t11), (.bool t12), (.bool false), (.slice t14 t14l 0), (.slice t15 t15l 0), (.int .i64 t16), t17, (.slice t18 t18l 0), (.bool t19), (.bool t20), (.bool false), t22, t23, t24, t25, t26, t27, t28, t29, t30, undef, undef, undef, undef, undef, undef] H [(X.exit 0, K0)] := by
  refine LA_rule (Z := []) (fun m xs H' => asSl (xs.getD 5 undef) fun t5 t5l => AS.asInt .i64 (xs.getD 6 undef) fun t6 => I m t5 t5l t6 H') ?_ n H ?_
  · intro n H
    suffices hs : ∀ s22 : Value, ∀ s23 : Value, ∀ s26 : Value, ∀ s27 : Value, ∀ s28 : Value, ∀ s29 : Value, ∀ s30 : Value, ∀ s5 : Value, ∀ s24 : Value, ∀ s25 : Value, ∀ s6 : Value, ((asSl s5 fun t5 t5l => AS.asInt .i64 s6 fun t6 => I n t5 t5l t6 H) → wpCode en L_crossbarkit_KeptInsns_0 [] [(.slice t0 t0l 0), (.slice t1 t1l 0), undef, undef, (.bool false), s5, s6, (.slice t7 t7l 0), (.int .i64 t8), (.slice t9 t9l 0), (.int .i64 t10), (.int .i64 t11), (.bool t12), (.bool false), (.slice t14 t14l 0), (.slice t15 t15l 0), (.int .i64 t16), t17, (.slice t18 t18l 0), (.bool t19), (.bool t20), (.bool false), s22, s23, s24, s25, s26, s27, s28, s29, s30, undef, undef, undef, undef, undef, undef] H (loopQ (fun m xs H' => asSl (xs.getD 5 undef) fun t5 t5l => AS.asInt .i64 (xs.getD 6 undef) fun t6 => I m t5 t5l t6 H') n [(X.exit 0, K0)])) by
      apply turnInto hs
      kernel_rfl
    intro s22 s23 s26 s27 s28 s29 s30 s5 s24 s25 s6 hP
    replace hP := asSl_elim hP
    obtain ⟨t5, t5l, rfl, hP⟩ := hP
    replace hP := asInt_elim hP
    obtain ⟨t6, rfl, hP⟩ := hP
    apply turnInto (hstep n t5 t5l t6 [(.slice t0 t0l 0), (.slice t1 t1l 0), undef, undef, (.bool false), (.slice t5 t5l 0), (.int .i64 t6), (.slice t7 t7l 0), (.int .i64 t8), (.slice t9 t9l 0), (.int .i64 t10), (.int .i64 t11), (.bool t12), (.bool false), (.slice t14 t14l 0), (.slice t15 t15l 0), (.int .i64 t16), t17, (.slice t18 t18l 0), (.bool t19), (.bool t20), (.bool false), s22, s23, s24, s25, s26, s27, s28, s29, s30, undef, undef, undef, undef, undef, undef] H hP)
    kernel_rfl
  · apply turnInto h0
    kernel_rfl


/-! crossbarkit_KeptBytes -/
noncomputable def L_crossbarkit_KeptBytes_0 : Code := loopAt Go.Proofs.Tryd.f23 0

theorem vc_crossbarkit_KeptBytes (x0 : Option Addr) (x0l : Nat) (x1 : Option Addr) (x1l : Nat) (H : Heap) (R : Value → Heap → Prop) :
    (
 bif (((x0l : Nat) : Int) != (IntKind.i64.wrap (((x1l : Nat) : Int) + 5))) then (
 R (.bool false) H)
 else (
 inS ((x1l : Nat) : Int) x0l ∧
 slK H x0 1 0 ((x1l : Nat) : Int).toNat fun v1 =>
 CA en F.crossbarkit_SameBytes [v1, (.slice x1 x1l 0)] H fun v2 H3 =>
 ∃ b4, v2 = (.bool b4) ∧
 bif (!b4) then (
 R (.bool false) H3)
 else (
 LA en L_crossbarkit_KeptBytes_0 [(.slice x0 x0l 0), (.slice x1 x1l 0), undef, undef, (.bool false), (.slice none 0 0), (.int .i64 0), (.slice x0 x0l 0), (.int .i64 ((x0l : Nat) : Int)), (.slice x1 x1l 0), (.int .i64 ((x1l : Nat) : Int)), (.int .i64 (IntKind.i64.wrap (((x1l : Nat) : Int) + 5))), (.bool (((x0l : Nat) : Int) != (IntKind.i64.wrap (((x1l : Nat) : Int) + 5)))), (.bool false), (.slice x0 x0l 0), (.slice x1 x1l 0), (.int .i64 ((x1l : Nat) : Int)), v1, (.slice x1 x1l 0), (.bool b4), (.bool (!b4)), (.bool false), undef, undef, undef, undef, undef, undef, undef, undef, undef, undef, undef, undef, undef, undef, undef] H3 [(X.exit 0, fun (y5 : Fr) (H6 : Heap) =>
 asSl (y5.getD 5 undef) fun a7 i8 =>
 inS ((x1l : Nat) : Int) x0l ∧
 slK H6 x0 1 ((x1l : Nat) : Int).toNat (x0l - ((x1l : Nat) : Int).toNat) fun v9 =>
 CA en F.crossbarkit_SameBytes [v9, (.slice a7 i8 0)] H6 fun v10 H11 =>
 ∃ b12, v10 = (.bool b12) ∧
 R (.bool b12) H11)]))) →
    CA en F.crossbarkit_KeptBytes [(.slice x0 x0l 0), (.slice x1 x1l 0)] H R := by
  intro h
  refine wpFn_ok (Z := [[(5, (.slice none 0 0))]]) (fn := Go.Proofs.Tryd.f23) ?_ ?_ ?_
  · kernel_rfl
  · kernel_rfl
  · apply turnInto h
    kernel_rfl

theorem use_crossbarkit_KeptBytes_0 {t0 : Option Addr} {t0l : Nat} {t1 : Option Addr} {t1l : Nat} {t7 : Option Addr} {t7l : Nat} {t8 : Int} {t9 : Option Addr} {t9l : Nat} {t10 : Int} {t11 : Int} {t12 : Bool} {t14 : Option Addr} {t14l : Nat} {t15 : Option Addr} {t15l : Nat} {t16 : Int} {t17 : Value} {t18 : Option Addr} {t18l : Nat} {t19 : Bool} {t20 : Bool} {K0 : Fr → Heap → Prop} {t5 : Option Addr} {t5l : Nat} {t6 : Int} {t22 : Value} {t23 : Value} {t24 : Value} {t25 : Value} {t26 : Value} {t27 : Value} {t28 : Value} {t29 : Value} {t30 : Value} {H : Heap} (I : Nat → Option Addr → Nat → Int → Heap → Prop) (n : Nat) (h0 : I n t5 t5l t6 H)
    (hstep : ∀ (n : Nat) (t5 : Option Addr) (t5l : Nat) (t6 : Int) (ys : Fr) (H : Heap), I n t5 t5l t6 H →
    (
 bif (decide (t6 < 5)) then (
 CA en F.crossbarkit_markBytes [(.int .i64 t6)] H fun v1 H2 =>
 ∃ n3, v1 = (.int .u8 n3) ∧
 nwH H2 (.cells true 1 [(.int .u8 n3)]) fun i4 H5 =>
 ∃ l6, rowOf H5 1 (some ⟨i4, 0, none⟩) 1 = some l6 ∧
 apd H5 1 1 t5 t5l 1 l6 fun a7 i8 H9 =>
 ∃ k10, k10 < n ∧
 I k10 a7 i8 (IntKind.i64.wrap (t6 + 1)) H9)
 else (
 K0 [(.slice t0 t0l 0), (.slice t1 t1l 0), undef, undef, (.bool false), (.slice t5 t5l 0), (.int .i64 t6), (.slice t7 t7l 0), (.int .i64 t8), (.slice t9 t9l 0), (.int .i64 t10), (.int .i64 t11), (.bool t12), (.bool false), (.slice t14 t14l 0), (.slice t15 t15l 0), (.int .i64 t16), t17, (.slice t18 t18l 0), (.bool t19), (.bool t20), (.bool false), (.int .i64 t6), (.bool false), (ys.getD 24 undef), (ys.getD 25 undef), (ys.getD 26 undef), (ys.getD 27 undef), (ys.getD 28 undef), (ys.getD 29 undef), (ys.getD 30 undef), undef, undef, undef, undef, undef, undef] H))) :
    LA en L_crossbarkit_KeptBytes_0 [(.slice t0 t0l 0), (.slice t1 t1l 0), undef, undef, (.bool false), (.slice t5 t5l 0), (.int .i64 t6), (.slice t7 t7l 0), (.int .i64 t8), (.slice t9 t9l 0), (.int .i64 t10), (.int .i64 t11), (.bool t12), (.bool false), (.slice t14 t14l 0), (.slice t15 t15l 0), (.int .i64 t16), t17, (.slice t18 t18l 0), (.bool t19), (.bool t20), (.bool false), t22, t23, t24, t25, t26, t27, t28, t29, t30, undef, undef, undef, undef, undef, undef] H [(X.exit 0, K0)] := by
  refine LA_rule (Z := []) (fun m xs H' => asSl (xs.getD 5 undef) fun t5 t5l => AS.asInt .i64 (xs.getD 6 undef) fun t6 => I m t5 t5l t6 H') ?_ n H ?_
  · intro n H
    suffices hs : ∀ s22 : Value, ∀ s23 : Value, ∀ s26 : Value, ∀ s27 : Value, ∀ s28 : Value, ∀ s29 : Value, ∀ s30 : Value, ∀ s5 : Value, ∀ s24 : Value, ∀ s25 : Value, ∀ s6 : Value, ((asSl s5 fun t5 t5l => AS.asInt .i64 s6 fun t6 => I n t5 t5l t6 H) → wpCode en L_crossbarkit_KeptBytes_0 [] [(.slice t0 t0l 0), (.slice t1 t1l 0), undef, undef, (.bool false), s5, s6, (.slice t7 t7l 0), (.int .i64 t8), (.slice t9 t9l 0), (.int .i64 t10), (.int .i64 t11), (.bool t12), (.bool false), (.slice t14 t14l 0), (.slice t15 t15l 0), (.int .i64 t16), t17, (.slice t18 t18l 0), (.bool t19), (.bool t20), (.bool false), s22, s23, s24, s25, s26, s27, s28, s29, s30, undef, undef, undef, undef, undef, undef] H (loopQ (fun m xs H' => asSl (xs.getD 5 undef) fun t5 t5l => AS.asInt .i64 (xs.getD 6 undef) fun t6 => I m t5 t5l t6 H') n [(X.exit 0, K0)])) by
      apply turnInto hs
      kernel_rfl
    intro s22 s23 s26 s27 s28 s29 s30 s5 s24 s25 s6 hP
    replace hP := asSl_elim hP
    obtain ⟨t5, t5l, rfl, hP⟩ := hP
    replace hP := asInt_elim hP
    obtain ⟨t6, rfl, hP⟩ := hP
    apply turnInto (hstep n t5 t5l t6 [(.slice t0 t0l 0), (.slice t1 t1l 0), undef, undef, (.bool false), (.slice t5 t5l 0), (.int .i64 t6), (.slice t7 t7l 0), (.int .i64 t8), (.slice t9 t9l 0), (.int .i64 t10), (.int .i64 t11), (.bool t12), (.bool false), (.slice t14 t14l 0), (.slice t15 t15l 0), (.int .i64 t16), t17, (.slice t18 t18l 0), (.bool t19), (.bool t20), (.bool false), s22, s23, s24, s25, s26, s27, s28, s29, s30, undef, undef, undef, undef, undef, undef] H hP)
    kernel_rfl
  · apply turnInto h0
    kernel_rfl


/-! crossbarkit_SpoilBytes -/
noncomputable def L_crossbarkit_SpoilBytes_0 : Code := loopAt Go.Proofs.Tryd.f18 0

theorem vc_crossbarkit_SpoilBytes (x0 : Option Addr) (x0l : Nat) (H : Heap) (R : Value → Heap → Prop) :
    (
 LA en L_crossbarkit_SpoilBytes_0 [(.slice x0 x0l 0), undef, (.int .i64 0), undef, undef, undef, undef, undef, undef, undef, undef, undef, undef, undef, undef] H [(X.exit 0, fun (y1 : Fr) (H2 : Heap) =>
 R undef H2)]) →
    CA en F.crossbarkit_SpoilBytes [(.slice x0 x0l 0)] H R := by
  intro h
  refine wpFn_ok (Z := [[]]) (fn := Go.Proofs.Tryd.f18) ?_ ?_ ?_
  · kernel_rfl
  · kernel_rfl
  · apply turnInto h
    kernel_rfl

theorem use_crossbarkit_SpoilBytes_0 {t0 : Option Addr} {t0l : Nat} {K0 : Fr → Heap → Prop} {t2 : Int} {t3 : Value} {t4 : Value} {t5 : Value} {t6 : Value} {t7 : Value} {t8 : Value} {t9 : Value} {t10 : Value} {t11 : Value} {t12 : Value} {t13 : Value} {t14 : Value} {H : Heap} (I : Nat → Int → Heap → Prop) (n : Nat) (h0 : I n t2 H)
    (hstep : ∀ (n : Nat) (t2 : Int) (ys : Fr) (H : Heap), I n t2 H →
    (
 bif (decide (t2 < ((t0l : Nat) : Int))) then (
 CA en F.crossbarkit_markBytes [(.int .i64 (IntKind.i64.wrap (t2 + 7)))] H fun v1 H2 =>
 ∃ n3, v1 = (.int .u8 n3) ∧
 inB t2 t0l ∧
 asRow t0 fun i4 i5 =>
 stc H2 i4 (i5 + (t2.toNat * 1)) [(.int .u8 n3)] fun H6 =>
 ∃ k7, k7 < n ∧
 I k7 (IntKind.i64.wrap (t2 + 1)) H6)
 else (
 K0 [(.slice t0 t0l 0), undef, (.int .i64 t2), (.int .i64 t2), (.slice t0 t0l 0), (.int .i64 ((t0l : Nat) : Int)), (.bool false), (ys.getD 7 undef), (ys.getD 8 undef), (ys.getD 9 undef), (ys.getD 10 undef), (ys.getD 11 undef), (ys.getD 12 undef), (ys.getD 13 undef), (ys.getD 14 undef)] H))) :
    LA en L_crossbarkit_SpoilBytes_0 [(.slice t0 t0l 0), undef, (.int .i64 t2), t3, t4, t5, t6, t7, t8, t9, t10, t11, t12, t13, t14] H [(X.exit 0, K0)] := by
  refine LA_rule (Z := []) (fun m xs H' => AS.asInt .i64 (xs.getD 2 undef) fun t2 => I m t2 H') ?_ n H ?_
  · intro n H
    suffices hs : ∀ s3 : Value, ∀ s4 : Value, ∀ s5 : Value, ∀ s6 : Value, ∀ s9 : Value, ∀ s10 : Value, ∀ s11 : Value, ∀ s12 : Value, ∀ s13 : Value, ∀ s14 : Value, ∀ s7 : Value, ∀ s8 : Value, ∀ s2 : Value, ((AS.asInt .i64 s2 fun t2 => I n t2 H) → wpCode en L_crossbarkit_SpoilBytes_0 [] [(.slice t0 t0l 0), undef, s2, s3, s4, s5, s6, s7, s8, s9, s10, s11, s12, s13, s14] H (loopQ (fun m xs H' => AS.asInt .i64 (xs.getD 2 undef) fun t2 => I m t2 H') n [(X.exit 0, K0)])) by
      apply turnInto hs
      kernel_rfl
    intro s3 s4 s5 s6 s9 s10 s11 s12 s13 s14 s7 s8 s2 hP
    replace hP := asInt_elim hP
    obtain ⟨t2, rfl, hP⟩ := hP
    apply turnInto (hstep n t2 [(.slice t0 t0l 0), undef, (.int .i64 t2), s3, s4, s5, s6, s7, s8, s9, s10, s11, s12, s13, s14] H hP)
    kernel_rfl
  · apply turnInto h0
    kernel_rfl


/-! crossbarkit_SpoilInsns -/
noncomputable def L_crossbarkit_SpoilInsns_0 : Code := loopAt Go.Proofs.Tryd.f24 0

theorem vc_crossbarkit_SpoilInsns (x0 : Option Addr) (x0l : Nat) (H : Heap) (R : Value → Heap → Prop) :
    (
 LA en L_crossbarkit_SpoilInsns_0 [(.slice x0 x0l 0), undef, (.int .i64 0), undef, undef, undef, undef, undef, undef, undef, undef, undef, undef, undef, undef] H [(X.exit 0, fun (y1 : Fr) (H2 : Heap) =>
 R undef H2)]) →
    CA en F.crossbarkit_SpoilInsns [(.slice x0 x0l 0)] H R := by
  intro h
  refine wpFn_ok (Z := [[]]) (fn := Go.Proofs.Tryd.f24) ?_ ?_ ?_
  · kernel_rfl
  · kernel_rfl
  · apply turnInto h
    kernel_rfl

theorem use_crossbarkit_SpoilInsns_0 {t0 : Option Addr} {t0l : Nat} {K0 : Fr → Heap → Prop} {t2 : Int} {t3 : Value} {t4 : Value} {t5 : Value} {t6 : Value} {t7 : Value} {t8 : Value} {t9 : Value} {t10 : Value} {t11 : Value} {t12 : Value} {t13 : Value} {t14 : Value} {H : Heap} (I : Nat → Int → Heap → Prop) (n : Nat) (h0 : I n t2 H)
    (hstep : ∀ (n : Nat) (t2 : Int) (ys : Fr) (H : Heap), I n t2 H →
    (
 bif (decide (t2 < ((t0l : Nat) : Int))) then (
 CA en F.crossbarkit_markInsns [(.int .i64 (IntKind.i64.wrap (t2 + 7)))] H fun v1 H2 =>
 ∃ n3, ∃ n4, ∃ n5, ∃ n6, ∃ n7, v1 = (.agg #[(.int .i64 n3), (.int .i64 n4), (.int .i64 n5), (.int .i64 n6), (.int .i64 n7)]) ∧
 inB t2 t0l ∧
 asRow t0 fun i8 i9 =>
 stc H2 i8 (i9 + (t2.toNat * 5)) [(.int .i64 n3), (.int .i64 n4), (.int .i64 n5), (.int .i64 n6), (.int .i64 n7)] fun H10 =>
 ∃ k11, k11 < n ∧
 I k11 (IntKind.i64.wrap (t2 + 1)) H10)
 else (
 K0 [(.slice t0 t0l 0), undef, (.int .i64 t2), (.int .i64 t2), (.slice t0 t0l 0), (.int .i64 ((t0l : Nat) : Int)), (.bool false), (ys.getD 7 undef), (ys.getD 8 undef), (ys.getD 9 undef), (ys.getD 10 undef), (ys.getD 11 undef), (ys.getD 12 undef), (ys.getD 13 undef), (ys.getD 14 undef)] H))) :
    LA en L_crossbarkit_SpoilInsns_0 [(.slice t0 t0l 0), undef, (.int .i64 t2), t3, t4, t5, t6, t7, t8, t9, t10, t11, t12, t13, t14] H [(X.exit 0, K0)] := by
  refine LA_rule (Z := []) (fun m xs H' => AS.asInt .i64 (xs.getD 2 undef) fun t2 => I m t2 H') ?_ n H ?_
  · intro n H
    suffices hs : ∀ s3 : Value, ∀ s4 : Value, ∀ s5 : Value, ∀ s6 : Value, ∀ s9 : Value, ∀ s10 : Value, ∀ s11 : Value, ∀ s12 : Value, ∀ s13 : Value, ∀ s14 : Value, ∀ s7 : Value, ∀ s8 : Value, ∀ s2 : Value, ((AS.asInt .i64 s2 fun t2 => I n t2 H) → wpCode en L_crossbarkit_SpoilInsns_0 [] [(.slice t0 t0l 0), undef, s2, s3, s4, s5, s6, s7, s8, s9, s10, s11, s12, s13, s14] H (loopQ (fun m xs H' => AS.asInt .i64 (xs.getD 2 undef) fun t2 => I m t2 H') n [(X.exit 0, K0)])) by
      apply turnInto hs
      kernel_rfl
    intro s3 s4 s5 s6 s9 s10 s11 s12 s13 s14 s7 s8 s2 hP
    replace hP := asInt_elim hP
    obtain ⟨t2, rfl, hP⟩ := hP
    apply turnInto (hstep n t2 [(.slice t0 t0l 0), undef, (.int .i64 t2), s3, s4, s5, s6, s7, s8, s9, s10, s11, s12, s13, s14] H hP)
    kernel_rfl
  · apply turnInto h0
    kernel_rfl


/-! crossbarkit_SpoilInts -/
noncomputable def L_crossbarkit_SpoilInts_0 : Code := loopAt Go.Proofs.Tryd.f42 0

theorem vc_crossbarkit_SpoilInts (x0 : Option Addr) (x0l : Nat) (H : Heap) (R : Value → Heap → Prop) :
    (
 LA en L_crossbarkit_SpoilInts_0 [(.slice x0 x0l 0), undef, (.int .i64 0), undef, undef, undef, undef, undef, undef, undef, undef, undef, undef, undef, undef] H [(X.exit 0, fun (y1 : Fr) (H2 : Heap) =>
 R undef H2)]) →
    CA en F.crossbarkit_SpoilInts [(.slice x0 x0l 0)] H R := by
  intro h
  refine wpFn_ok (Z := [[]]) (fn := Go.Proofs.Tryd.f42) ?_ ?_ ?_
  · kernel_rfl
  · kernel_rfl
  · apply turnInto h
    kernel_rfl

theorem use_crossbarkit_SpoilInts_0 {t0 : Option Addr} {t0l : Nat} {K0 : Fr → Heap → Prop} {t2 : Int} {t3 : Value} {t4 : Value} {t5 : Value} {t6 : Value} {t7 : Value} {t8 : Value} {t9 : Value} {t10 : Value} {t11 : Value} {t12 : Value} {t13 : Value} {t14 : Value} {H : Heap} (I : Nat → Int → Heap → Prop) (n : Nat) (h0 : I n t2 H)
    (hstep : ∀ (n : Nat) (t2 : Int) (ys : Fr) (H : Heap), I n t2 H →
    (
 bif (decide (t2 < ((t0l : Nat) : Int))) then (
 CA en F.crossbarkit_markInts [(.int .i64 (IntKind.i64.wrap (t2 + 7)))] H fun v1 H2 =>
 ∃ n3, v1 = (.int .i64 n3) ∧
 inB t2 t0l ∧
 asRow t0 fun i4 i5 =>
 stc H2 i4 (i5 + (t2.toNat * 1)) [(.int .i64 n3)] fun H6 =>
 ∃ k7, k7 < n ∧
 I k7 (IntKind.i64.wrap (t2 + 1)) H6)
 else (
 K0 [(.slice t0 t0l 0), undef, (.int .i64 t2), (.int .i64 t2), (.slice t0 t0l 0), (.int .i64 ((t0l : Nat) : Int)), (.bool false), (ys.getD 7 undef), (ys.getD 8 undef), (ys.getD 9 undef), (ys.getD 10 undef), (ys.getD 11 undef), (ys.getD 12 undef), (ys.getD 13 undef), (ys.getD 14 undef)] H))) :
    LA en L_crossbarkit_SpoilInts_0 [(.slice t0 t0l 0), undef, (.int .i64 t2), t3, t4, t5, t6, t7, t8, t9, t10, t11, t12, t13, t14] H [(X.exit 0, K0)] := by
  refine LA_rule (Z := []) (fun m xs H' => AS.asInt .i64 (xs.getD 2 undef) fun t2 => I m t2 H') ?_ n H ?_
  · intro n H
    suffices hs : ∀ s3 : Value, ∀ s4 : Value, ∀ s5 : Value, ∀ s6 : Value, ∀ s9 : Value, ∀ s10 : Value, ∀ s11 : Value, ∀ s12 : Value, ∀ s13 : Value, ∀ s14 : Value, ∀ s7 : Value, ∀ s8 : Value, ∀ s2 : Value, ((AS.asInt .i64 s2 fun t2 => I n t2 H) → wpCode en L_crossbarkit_SpoilInts_0 [] [(.slice t0 t0l 0), undef, s2, s3, s4, s5, s6, s7, s8, s9, s10, s11, s12, s13, s14] H (loopQ (fun m xs H' => AS.asInt .i64 (xs.getD 2 undef) fun t2 => I m t2 H') n [(X.exit 0, K0)])) by
      apply turnInto hs
      kernel_rfl
    intro s3 s4 s5 s6 s9 s10 s11 s12 s13 s14 s7 s8 s2 hP
    replace hP := asInt_elim hP
    obtain ⟨t2, rfl, hP⟩ := hP
    apply turnInto (hstep n t2 [(.slice t0 t0l 0), undef, (.int .i64 t2), s3, s4, s5, s6, s7, s8, s9, s10, s11, s12, s13, s14] H hP)
    kernel_rfl
  · apply turnInto h0
    kernel_rfl


/-! crossbarkit_markInsns -/

theorem vc_crossbarkit_markInsns (x0 : Int) (H : Heap) (R : Value → Heap → Prop) :
    (
 nwH H (.cells true 0 [(.int .i64 0), (.int .i64 0), (.int .i64 0), (.int .i64 0), (.int .i64 0)]) fun i1 H2 =>
 stc H2 i1 0 [(.int .i64 (IntKind.i64.wrap ((-9) - x0))), (.int .i64 0), (.int .i64 0), (.int .i64 0), (.int .i64 0)] fun H3 =>
 ∃ n4, ∃ n5, ∃ n6, ∃ n7, ∃ n8, H3.cellsAt i1 0 5 = some [(.int .i64 n4), (.int .i64 n5), (.int .i64 n6), (.int .i64 n7), (.int .i64 n8)] ∧
 R (.agg #[(.int .i64 n4), (.int .i64 n5), (.int .i64 n6), (.int .i64 n7), (.int .i64 n8)]) H3) →
    CA en F.crossbarkit_markInsns [(.int .i64 x0)] H R := by
  intro h
  refine wpFn_ok (Z := []) (fn := Go.Proofs.Tryd.f46) ?_ ?_ ?_
  · kernel_rfl
  · kernel_rfl
  · apply turnInto h
    kernel_rfl


/-! crossbarkit_markBytes -/

theorem vc_crossbarkit_markBytes (x0 : Int) (H : Heap) (R : Value → Heap → Prop) :
    (
 R (.int .u8 (IntKind.u8.wrap (IntKind.i64.wrap (201 + (IntKind.i64.wrap (7 * x0)))))) H) →
    CA en F.crossbarkit_markBytes [(.int .i64 x0)] H R := by
  intro h
  refine wpFn_ok (Z := []) (fn := Go.Proofs.Tryd.f50) ?_ ?_ ?_
  · kernel_rfl
  · kernel_rfl
  · apply turnInto h
    kernel_rfl


/-! crossbarkit_markInts -/

theorem vc_crossbarkit_markInts (x0 : Int) (H : Heap) (R : Value → Heap → Prop) :
    (
 R (.int .i64 (IntKind.i64.wrap (7001 + (IntKind.i64.wrap (13 * x0))))) H) →
    CA en F.crossbarkit_markInts [(.int .i64 x0)] H R := by
  intro h
  refine wpFn_ok (Z := []) (fn := Go.Proofs.Tryd.f69) ?_ ?_ ?_
  · kernel_rfl
  · kernel_rfl
  · apply turnInto h
    kernel_rfl

end Go.Proofs.YtmgkngdbphkmmaaDoor
