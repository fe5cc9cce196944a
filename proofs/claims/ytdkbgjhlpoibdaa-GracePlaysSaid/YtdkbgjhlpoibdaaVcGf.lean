/-
  What functions of this seat's program need (printed by a program, checked by the kernel).
-/
import Derived.Test.YtdkbgjhlpoibdaaNames
import Derived.Test.YtdkbgjhlpoibdaaAs41
namespace Go.Proofs.Ytdkbgjhlpoibdaa
open Go Go.AS Go.RowKit
set_option linter.unusedVariables false
set_option maxRecDepth 100000

/-! crossbarref09_New -/
noncomputable def L_crossbarref09_New_0 : Code := loopAt Go.Proofs.Try.f22 0
noncomputable def L_crossbarref09_New_1 : Code := loopAt Go.Proofs.Try.f22 1

theorem vc_crossbarref09_New (x0 : Int) (x1 : Int) (H : Heap) (R : Value → Heap → Prop) :
    (
 nwH H (.cells true 0 [(.slice none 0 0), (.slice none 0 0), (.slice none 0 0)]) fun i1 H2 =>
 LA en L_crossbarref09_New_0 [(.int .i64 x0), (.int .i64 x1), undef, undef, (.pointer none), (.pointer (some ⟨i1, 0, none⟩)), (.int .i64 0), undef, (.agg #[(.slice none 0 0), (.slice none 0 0), (.slice none 0 0)]), (.pointer (some ⟨i1, 0, none⟩)), undef, undef, undef, undef, undef, undef, undef, undef, undef, undef, undef, undef, undef, undef, undef, undef, undef, undef, undef, undef, undef, undef, undef, undef, undef, undef, undef, undef, undef] H2 [(X.exit 0, fun (y3 : Fr) (H4 : Heap) =>
 LA en L_crossbarref09_New_1 [(.int .i64 x0), (.int .i64 x1), undef, undef, (.pointer none), (.pointer (some ⟨i1, 0, none⟩)), (y3.getD 6 undef), (.int .i64 0), (.agg #[(.slice none 0 0), (.slice none 0 0), (.slice none 0 0)]), (.pointer (some ⟨i1, 0, none⟩)), (y3.getD 10 undef), (y3.getD 11 undef), (y3.getD 12 undef), (y3.getD 13 undef), (y3.getD 14 undef), (y3.getD 15 undef), (y3.getD 16 undef), (y3.getD 17 undef), (y3.getD 18 undef), (y3.getD 19 undef), (y3.getD 20 undef), (y3.getD 21 undef), (y3.getD 22 undef), (y3.getD 23 undef), undef, undef, undef, undef, undef, undef, undef, undef, undef, undef, undef, undef, undef, undef, undef] H4 [(X.exit 2, fun (y5 : Fr) (H6 : Heap) =>
 R (.pointer (some ⟨i1, 0, none⟩)) H6)])]) →
    CA en F.crossbarref09_New [(.int .i64 x0), (.int .i64 x1)] H R := by
  intro h
  refine wpFn_ok (Z := [[], []]) (fn := Go.Proofs.Try.f22) ?_ ?_ ?_
  · kernel_rfl
  · kernel_rfl
  · apply turnInto h
    kernel_rfl

theorem use_crossbarref09_New_0 {t0 : Int} {t1 : Int} {t5 : Nat} {t9 : Nat} {K0 : Fr → Heap → Prop} {t6 : Int} {t10 : Value} {t11 : Value} {t12 : Value} {t13 : Value} {t14 : Value} {t15 : Value} {t16 : Value} {t17 : Value} {t18 : Value} {t19 : Value} {t20 : Value} {t21 : Value} {t22 : Value} {t23 : Value} {H : Heap} (I : Nat → Int → Heap → Prop) (n : Nat) (h0 : I n t6 H)
    (hstep : ∀ (n : Nat) (t6 : Int) (ys : Fr) (H : Heap), I n t6 H →
    (
 bif (decide (t6 < t0)) then (
 ∃ a1 i2, H.cell t5 0 = some (.slice a1 i2 0) ∧
 nwH H (.cells true 1 [(.bool false)]) fun i3 H4 =>
 ∃ l5, rowOf H4 1 (some ⟨i3, 0, none⟩) 1 = some l5 ∧
 apd H4 1 1 a1 i2 1 l5 fun a6 i7 H8 =>
 stc H8 t5 0 [(.slice a6 i7 0)] fun H9 =>
 ∃ k10, k10 < n ∧
 I k10 (IntKind.i64.wrap (t6 + 1)) H9)
 else (
 K0 [(.int .i64 t0), (.int .i64 t1), undef, undef, (.pointer none), (.pointer (some ⟨t5, 0, none⟩)), (.int .i64 t6), undef, (.agg #[(.slice none 0 0), (.slice none 0 0), (.slice none 0 0)]), (.pointer (some ⟨t9, 0, none⟩)), (.int .i64 t6), (.int .i64 t0), (.bool false), (ys.getD 13 undef), (ys.getD 14 undef), (ys.getD 15 undef), (ys.getD 16 undef), (ys.getD 17 undef), (ys.getD 18 undef), (ys.getD 19 undef), (ys.getD 20 undef), (ys.getD 21 undef), (ys.getD 22 undef), (ys.getD 23 undef), undef, undef, undef, undef, undef, undef, undef, undef, undef, undef, undef, undef, undef, undef, undef] H))) :
    LA en L_crossbarref09_New_0 [(.int .i64 t0), (.int .i64 t1), undef, undef, (.pointer none), (.pointer (some ⟨t5, 0, none⟩)), (.int .i64 t6), undef, (.agg #[(.slice none 0 0), (.slice none 0 0), (.slice none 0 0)]), (.pointer (some ⟨t9, 0, none⟩)), t10, t11, t12, t13, t14, t15, t16, t17, t18, t19, t20, t21, t22, t23, undef, undef, undef, undef, undef, undef, undef, undef, undef, undef, undef, undef, undef, undef, undef] H [(X.exit 0, K0)] := by
  refine LA_rule (Z := []) (fun m xs H' => AS.asInt .i64 (xs.getD 6 undef) fun t6 => I m t6 H') ?_ n H ?_
  · intro n H
    suffices hs : ∀ s10 : Value, ∀ s11 : Value, ∀ s12 : Value, ∀ s15 : Value, ∀ s16 : Value, ∀ s17 : Value, ∀ s18 : Value, ∀ s19 : Value, ∀ s20 : Value, ∀ s21 : Value, ∀ s22 : Value, ∀ s23 : Value, ∀ s13 : Value, ∀ s14 : Value, ∀ s6 : Value, ((AS.asInt .i64 s6 fun t6 => I n t6 H) → wpCode en L_crossbarref09_New_0 [] [(.int .i64 t0), (.int .i64 t1), undef, undef, (.pointer none), (.pointer (some ⟨t5, 0, none⟩)), s6, undef, (.agg #[(.slice none 0 0), (.slice none 0 0), (.slice none 0 0)]), (.pointer (some ⟨t9, 0, none⟩)), s10, s11, s12, s13, s14, s15, s16, s17, s18, s19, s20, s21, s22, s23, undef, undef, undef, undef, undef, undef, undef, undef, undef, undef, undef, undef, undef, undef, undef] H (loopQ (fun m xs H' => AS.asInt .i64 (xs.getD 6 undef) fun t6 => I m t6 H') n [(X.exit 0, K0)])) by
      apply turnInto hs
      kernel_rfl
    intro s10 s11 s12 s15 s16 s17 s18 s19 s20 s21 s22 s23 s13 s14 s6 hP
    replace hP := asInt_elim hP
    obtain ⟨t6, rfl, hP⟩ := hP
    apply turnInto (hstep n t6 [(.int .i64 t0), (.int .i64 t1), undef, undef, (.pointer none), (.pointer (some ⟨t5, 0, none⟩)), (.int .i64 t6), undef, (.agg #[(.slice none 0 0), (.slice none 0 0), (.slice none 0 0)]), (.pointer (some ⟨t9, 0, none⟩)), s10, s11, s12, s13, s14, s15, s16, s17, s18, s19, s20, s21, s22, s23, undef, undef, undef, undef, undef, undef, undef, undef, undef, undef, undef, undef, undef, undef, undef] H hP)
    kernel_rfl
  · apply turnInto h0
    kernel_rfl

theorem use_crossbarref09_New_1 {t0 : Int} {t1 : Int} {t5 : Nat} {t6 : Value} {t9 : Nat} {t10 : Value} {t11 : Value} {t12 : Value} {t13 : Value} {t14 : Value} {t15 : Value} {t16 : Value} {t17 : Value} {t18 : Value} {t19 : Value} {t20 : Value} {t21 : Value} {t22 : Value} {t23 : Value} {K0 : Fr → Heap → Prop} {t7 : Int} {t24 : Value} {t25 : Value} {t26 : Value} {t27 : Value} {t28 : Value} {t29 : Value} {t30 : Value} {t31 : Value} {t32 : Value} {t33 : Value} {t34 : Value} {t35 : Value} {t36 : Value} {t37 : Value} {H : Heap} (I : Nat → Int → Heap → Prop) (n : Nat) (h0 : I n t7 H)
    (hstep : ∀ (n : Nat) (t7 : Int) (ys : Fr) (H : Heap), I n t7 H →
    (
 bif (decide (t7 < t1)) then (
 ∃ a1 i2, H.cell t5 2 = some (.slice a1 i2 0) ∧
 nwH H (.cells true 1 [(.bool true)]) fun i3 H4 =>
 ∃ l5, rowOf H4 1 (some ⟨i3, 0, none⟩) 1 = some l5 ∧
 apd H4 1 1 a1 i2 1 l5 fun a6 i7 H8 =>
 stc H8 t5 2 [(.slice a6 i7 0)] fun H9 =>
 ∃ k10, k10 < n ∧
 I k10 (IntKind.i64.wrap (t7 + 1)) H9)
 else (
 K0 [(.int .i64 t0), (.int .i64 t1), undef, undef, (.pointer none), (.pointer (some ⟨t5, 0, none⟩)), t6, (.int .i64 t7), (.agg #[(.slice none 0 0), (.slice none 0 0), (.slice none 0 0)]), (.pointer (some ⟨t9, 0, none⟩)), t10, t11, t12, t13, t14, t15, t16, t17, t18, t19, t20, t21, t22, t23, (.int .i64 t7), (.int .i64 t1), (.bool false), (ys.getD 27 undef), (ys.getD 28 undef), (ys.getD 29 undef), (ys.getD 30 undef), (ys.getD 31 undef), (ys.getD 32 undef), (ys.getD 33 undef), (ys.getD 34 undef), (ys.getD 35 undef), (ys.getD 36 undef), (ys.getD 37 undef), undef] H))) :
    LA en L_crossbarref09_New_1 [(.int .i64 t0), (.int .i64 t1), undef, undef, (.pointer none), (.pointer (some ⟨t5, 0, none⟩)), t6, (.int .i64 t7), (.agg #[(.slice none 0 0), (.slice none 0 0), (.slice none 0 0)]), (.pointer (some ⟨t9, 0, none⟩)), t10, t11, t12, t13, t14, t15, t16, t17, t18, t19, t20, t21, t22, t23, t24, t25, t26, t27, t28, t29, t30, t31, t32, t33, t34, t35, t36, t37, undef] H [(X.exit 2, K0)] := by
  refine LA_rule (Z := []) (fun m xs H' => AS.asInt .i64 (xs.getD 7 undef) fun t7 => I m t7 H') ?_ n H ?_
  · intro n H
    suffices hs : ∀ s24 : Value, ∀ s25 : Value, ∀ s26 : Value, ∀ s29 : Value, ∀ s30 : Value, ∀ s31 : Value, ∀ s32 : Value, ∀ s33 : Value, ∀ s34 : Value, ∀ s35 : Value, ∀ s36 : Value, ∀ s37 : Value, ∀ s27 : Value, ∀ s28 : Value, ∀ s7 : Value, ((AS.asInt .i64 s7 fun t7 => I n t7 H) → wpCode en L_crossbarref09_New_1 [] [(.int .i64 t0), (.int .i64 t1), undef, undef, (.pointer none), (.pointer (some ⟨t5, 0, none⟩)), t6, s7, (.agg #[(.slice none 0 0), (.slice none 0 0), (.slice none 0 0)]), (.pointer (some ⟨t9, 0, none⟩)), t10, t11, t12, t13, t14, t15, t16, t17, t18, t19, t20, t21, t22, t23, s24, s25, s26, s27, s28, s29, s30, s31, s32, s33, s34, s35, s36, s37, undef] H (loopQ (fun m xs H' => AS.asInt .i64 (xs.getD 7 undef) fun t7 => I m t7 H') n [(X.exit 2, K0)])) by
      apply turnInto hs
      kernel_rfl
    intro s24 s25 s26 s29 s30 s31 s32 s33 s34 s35 s36 s37 s27 s28 s7 hP
    replace hP := asInt_elim hP
    obtain ⟨t7, rfl, hP⟩ := hP
    apply turnInto (hstep n t7 [(.int .i64 t0), (.int .i64 t1), undef, undef, (.pointer none), (.pointer (some ⟨t5, 0, none⟩)), t6, (.int .i64 t7), (.agg #[(.slice none 0 0), (.slice none 0 0), (.slice none 0 0)]), (.pointer (some ⟨t9, 0, none⟩)), t10, t11, t12, t13, t14, t15, t16, t17, t18, t19, t20, t21, t22, t23, s24, s25, s26, s27, s28, s29, s30, s31, s32, s33, s34, s35, s36, s37, undef] H hP)
    kernel_rfl
  · apply turnInto h0
    kernel_rfl


/-! crossbarref09_Grace_Enter -/

theorem vc_crossbarref09_Grace_Enter (x0 : Option Addr) (x1 : Int) (H : Heap) (R : Value → Heap → Prop) :
    (
 bif (decide (x1 < 0)) then (
 R (.bool false) H)
 else (
 AS.asAddr (.pointer x0) fun i1 i2 =>
 ∃ a3 i4, H.cell i1 i2 = some (.slice a3 i4 0) ∧
 bif (decide (x1 ≥ ((i4 : Nat) : Int))) then (
 R (.bool false) H)
 else (
 AS.asAddr (.pointer x0) fun i5 i6 =>
 ∃ a7 i8, H.cell i5 i6 = some (.slice a7 i8 0) ∧
 inB x1 i8 ∧
 asRow a7 fun i9 i10 =>
 ∃ b11, H.cell i9 (i10 + (x1.toNat * 1)) = some (.bool b11) ∧
 bif b11 then (
 R (.bool false) H)
 else (
 AS.asAddr (.pointer x0) fun i12 i13 =>
 ∃ a14 i15, H.cell i12 i13 = some (.slice a14 i15 0) ∧
 inB x1 i15 ∧
 asRow a14 fun i16 i17 =>
 stc H i16 (i17 + (x1.toNat * 1)) [(.bool true)] fun H18 =>
 R (.bool true) H18)))) →
    CA en F.crossbarref09_Grace_Enter [(.pointer x0), (.int .i64 x1)] H R := by
  intro h
  refine wpFn_ok (Z := []) (fn := Go.Proofs.Try.f23) ?_ ?_ ?_
  · kernel_rfl
  · kernel_rfl
  · apply turnInto h
    kernel_rfl


/-! crossbarref09_Grace_Leave -/
noncomputable def L_crossbarref09_Grace_Leave_0 : Code := loopAt Go.Proofs.Try.f24 0

theorem vc_crossbarref09_Grace_Leave (x0 : Option Addr) (x1 : Int) (H : Heap) (R : Value → Heap → Prop) :
    (
 CA en F.crossbarref09_Grace_Inside [(.pointer x0), (.int .i64 x1)] H fun v1 H2 =>
 ∃ b3, v1 = (.bool b3) ∧
 bif (!b3) then (
 R (.slice none 0 0) H2)
 else (
 AS.asAddr (.pointer x0) fun i4 i5 =>
 ∃ a6 i7, H2.cell i4 i5 = some (.slice a6 i7 0) ∧
 inB x1 i7 ∧
 asRow a6 fun i8 i9 =>
 stc H2 i8 (i9 + (x1.toNat * 1)) [(.bool false)] fun H10 =>
 LA en L_crossbarref09_Grace_Leave_0 [(.pointer x0), (.int .i64 x1), undef, undef, (.slice none 0 0), (.int .i64 0), (.pointer x0), (.int .i64 x1), (.bool b3), (.bool false), (.pointer x0), (.pointer (some ⟨i4, i5, none⟩)), (.pointer (some ⟨i4, i5, none⟩)), (.slice a6 i7 0), (.int .i64 x1), (.pointer (some ⟨i8, (i9 + (x1.toNat * 1)), none⟩)), undef, undef, undef, undef, undef, undef, undef, undef, undef, undef, undef, undef, undef, undef, undef, undef, undef, undef, undef, undef, undef] H10 [(X.exit 0, fun (y11 : Fr) (H12 : Heap) =>
 CA en F.crossbarref09_Grace_swept [(.pointer x0)] H12 fun v13 H14 =>
 ∃ a15 i16, v13 = (.slice a15 i16 0) ∧
 R (.slice a15 i16 0) H14)])) →
    CA en F.crossbarref09_Grace_Leave [(.pointer x0), (.int .i64 x1)] H R := by
  intro h
  refine wpFn_ok (Z := [[]]) (fn := Go.Proofs.Try.f24) ?_ ?_ ?_
  · kernel_rfl
  · kernel_rfl
  · apply turnInto h
    kernel_rfl

theorem use_crossbarref09_Grace_Leave_0 {t0 : Option Addr} {t1 : Int} {t6 : Option Addr} {t7 : Int} {t8 : Bool} {t10 : Option Addr} {t11 : Nat} {t11o : Nat} {t12 : Nat} {t12o : Nat} {t13 : Option Addr} {t13l : Nat} {t14 : Int} {t15 : Nat} {t15o : Nat} {K0 : Fr → Heap → Prop} {t5 : Int} {t16 : Value} {t17 : Value} {t18 : Value} {t19 : Value} {t20 : Value} {t21 : Value} {t22 : Value} {t23 : Value} {t24 : Value} {t25 : Value} {t26 : Value} {t27 : Value} {t28 : Value} {t29 : Value} {t30 : Value} {t31 : Value} {t32 : Value} {t33 : Value} {t34 : Value} {H : Heap} (I : Nat → Int → Heap → Prop) (n : Nat) (h0 : I n t5 H)
    (hstep : ∀ (n : Nat) (t5 : Int) (ys : Fr) (H : Heap), I n t5 H →
    (
 AS.asAddr (.pointer t0) fun i1 i2 =>
 ∃ a3 i4, H.cell i1 (i2 + 1) = some (.slice a3 i4 0) ∧
 bif (decide (t5 < ((i4 : Nat) : Int))) then (
 AS.asAddr (.pointer t0) fun i5 i6 =>
 ∃ a7 i8, H.cell i5 (i6 + 1) = some (.slice a7 i8 0) ∧
 inB t5 i8 ∧
 asRow a7 fun i9 i10 =>
 ∃ a11 i12, H.cell i9 ((i10 + (t5.toNat * 2)) + 1) = some (.slice a11 i12 0) ∧
 inB t1 i12 ∧
 asRow a11 fun i13 i14 =>
 stc H i13 (i14 + (t1.toNat * 1)) [(.bool false)] fun H15 =>
 ∃ k16, k16 < n ∧
 I k16 (IntKind.i64.wrap (t5 + 1)) H15)
 else (
 K0 [(.pointer t0), (.int .i64 t1), undef, undef, (.slice none 0 0), (.int .i64 t5), (.pointer t6), (.int .i64 t7), (.bool t8), (.bool false), (.pointer t10), (.pointer (some ⟨t11, t11o, none⟩)), (.pointer (some ⟨t12, t12o, none⟩)), (.slice t13 t13l 0), (.int .i64 t14), (.pointer (some ⟨t15, t15o, none⟩)), (.int .i64 t5), (.pointer t0), (.pointer (some ⟨i1, i2, none⟩)), (.pointer (some ⟨i1, (i2 + 1), none⟩)), (.slice a3 i4 0), (.int .i64 ((i4 : Nat) : Int)), (.bool false), (ys.getD 23 undef), (ys.getD 24 undef), (ys.getD 25 undef), (ys.getD 26 undef), (ys.getD 27 undef), (ys.getD 28 undef), (ys.getD 29 undef), (ys.getD 30 undef), (ys.getD 31 undef), (ys.getD 32 undef), (ys.getD 33 undef), (ys.getD 34 undef), undef, undef] H))) :
    LA en L_crossbarref09_Grace_Leave_0 [(.pointer t0), (.int .i64 t1), undef, undef, (.slice none 0 0), (.int .i64 t5), (.pointer t6), (.int .i64 t7), (.bool t8), (.bool false), (.pointer t10), (.pointer (some ⟨t11, t11o, none⟩)), (.pointer (some ⟨t12, t12o, none⟩)), (.slice t13 t13l 0), (.int .i64 t14), (.pointer (some ⟨t15, t15o, none⟩)), t16, t17, t18, t19, t20, t21, t22, t23, t24, t25, t26, t27, t28, t29, t30, t31, t32, t33, t34, undef, undef] H [(X.exit 0, K0)] := by
  refine LA_rule (Z := []) (fun m xs H' => AS.asInt .i64 (xs.getD 5 undef) fun t5 => I m t5 H') ?_ n H ?_
  · intro n H
    suffices hs : ∀ s16 : Value, ∀ s17 : Value, ∀ s18 : Value, ∀ s19 : Value, ∀ s20 : Value, ∀ s21 : Value, ∀ s22 : Value, ∀ s25 : Value, ∀ s26 : Value, ∀ s27 : Value, ∀ s28 : Value, ∀ s29 : Value, ∀ s30 : Value, ∀ s31 : Value, ∀ s32 : Value, ∀ s33 : Value, ∀ s34 : Value, ∀ s23 : Value, ∀ s24 : Value, ∀ s5 : Value, ((AS.asInt .i64 s5 fun t5 => I n t5 H) → wpCode en L_crossbarref09_Grace_Leave_0 [] [(.pointer t0), (.int .i64 t1), undef, undef, (.slice none 0 0), s5, (.pointer t6), (.int .i64 t7), (.bool t8), (.bool false), (.pointer t10), (.pointer (some ⟨t11, t11o, none⟩)), (.pointer (some ⟨t12, t12o, none⟩)), (.slice t13 t13l 0), (.int .i64 t14), (.pointer (some ⟨t15, t15o, none⟩)), s16, s17, s18, s19, s20, s21, s22, s23, s24, s25, s26, s27, s28, s29, s30, s31, s32, s33, s34, undef, undef] H (loopQ (fun m xs H' => AS.asInt .i64 (xs.getD 5 undef) fun t5 => I m t5 H') n [(X.exit 0, K0)])) by
      apply turnInto hs
      kernel_rfl
    intro s16 s17 s18 s19 s20 s21 s22 s25 s26 s27 s28 s29 s30 s31 s32 s33 s34 s23 s24 s5 hP
    replace hP := asInt_elim hP
    obtain ⟨t5, rfl, hP⟩ := hP
    apply turnInto (hstep n t5 [(.pointer t0), (.int .i64 t1), undef, undef, (.slice none 0 0), (.int .i64 t5), (.pointer t6), (.int .i64 t7), (.bool t8), (.bool false), (.pointer t10), (.pointer (some ⟨t11, t11o, none⟩)), (.pointer (some ⟨t12, t12o, none⟩)), (.slice t13 t13l 0), (.int .i64 t14), (.pointer (some ⟨t15, t15o, none⟩)), s16, s17, s18, s19, s20, s21, s22, s23, s24, s25, s26, s27, s28, s29, s30, s31, s32, s33, s34, undef, undef] H hP)
    kernel_rfl
  · apply turnInto h0
    kernel_rfl


/-! crossbarref09_Grace_Defer -/
noncomputable def L_crossbarref09_Grace_Defer_0 : Code := loopAt Go.Proofs.Try.f26 0
noncomputable def L_crossbarref09_Grace_Defer_1 : Code := loopAt Go.Proofs.Try.f26 1

theorem vc_crossbarref09_Grace_Defer (x0 : Option Addr) (x1 : Int) (H : Heap) (R : Value → Heap → Prop) :
    (
 bif (decide (x1 < 1)) then (
 R (.slice none 0 0) H)
 else (
 AS.asAddr (.pointer x0) fun i1 i2 =>
 ∃ a3 i4, H.cell i1 (i2 + 2) = some (.slice a3 i4 0) ∧
 bif (decide (x1 > ((i4 : Nat) : Int))) then (
 R (.slice none 0 0) H)
 else (
 AS.asAddr (.pointer x0) fun i5 i6 =>
 ∃ a7 i8, H.cell i5 (i6 + 2) = some (.slice a7 i8 0) ∧
 inB (IntKind.i64.wrap (x1 - 1)) i8 ∧
 asRow a7 fun i9 i10 =>
 ∃ b11, H.cell i9 (i10 + ((IntKind.i64.wrap (x1 - 1)).toNat * 1)) = some (.bool b11) ∧
 bif (!b11) then (
 R (.slice none 0 0) H)
 else (
 LA en L_crossbarref09_Grace_Defer_0 [(.pointer x0), (.int .i64 x1), undef, undef, (.slice none 0 0), (.int .i64 0), undef, undef, (.int .i64 x1), (.bool (decide (x1 < 1))), (.bool false), (.int .i64 x1), (.pointer x0), (.pointer (some ⟨i1, i2, none⟩)), (.pointer (some ⟨i1, (i2 + 2), none⟩)), (.slice a3 i4 0), (.int .i64 ((i4 : Nat) : Int)), (.bool (decide (x1 > ((i4 : Nat) : Int)))), (.bool (decide (x1 > ((i4 : Nat) : Int)))), (.bool false), (.pointer x0), (.pointer (some ⟨i5, i6, none⟩)), (.pointer (some ⟨i5, (i6 + 2), none⟩)), (.slice a7 i8 0), (.int .i64 x1), (.int .i64 (IntKind.i64.wrap (x1 - 1))), (.pointer (some ⟨i9, (i10 + ((IntKind.i64.wrap (x1 - 1)).toNat * 1)), none⟩)), (.bool b11), (.bool (!b11)), (.bool false), undef, undef, undef, undef, undef, undef, undef, undef, undef, undef, undef, undef, undef, undef, undef, undef, undef, undef, undef, undef, undef, undef, undef, undef, undef, undef, undef, undef, undef, undef, undef, undef, undef, undef, undef, undef, undef, undef, undef, undef, undef, undef, undef, undef, undef, undef, undef, undef, undef, undef, undef, undef, undef, undef] H [(X.exit 0, fun (y12 : Fr) (H13 : Heap) =>
 asSl (y12.getD 4 undef) fun a14 i15 =>
 nwH H13 (.cells true 0 [(.int .i64 0), (.slice none 0 0)]) fun i16 H17 =>
 stc H17 i16 0 [(.int .i64 x1), (.slice none 0 0)] fun H18 =>
 LA en L_crossbarref09_Grace_Defer_1 [(.pointer x0), (.int .i64 x1), undef, undef, (.slice a14 i15 0), (y12.getD 5 undef), (.pointer (some ⟨i16, 0, none⟩)), (.int .i64 0), (.int .i64 x1), (.bool (decide (x1 < 1))), (.bool false), (.int .i64 x1), (.pointer x0), (.pointer (some ⟨i1, i2, none⟩)), (.pointer (some ⟨i1, (i2 + 2), none⟩)), (.slice a3 i4 0), (.int .i64 ((i4 : Nat) : Int)), (.bool (decide (x1 > ((i4 : Nat) : Int)))), (.bool (decide (x1 > ((i4 : Nat) : Int)))), (.bool false), (.pointer x0), (.pointer (some ⟨i5, i6, none⟩)), (.pointer (some ⟨i5, (i6 + 2), none⟩)), (.slice a7 i8 0), (.int .i64 x1), (.int .i64 (IntKind.i64.wrap (x1 - 1))), (.pointer (some ⟨i9, (i10 + ((IntKind.i64.wrap (x1 - 1)).toNat * 1)), none⟩)), (.bool b11), (.bool (!b11)), (.bool false), (y12.getD 30 undef), (y12.getD 31 undef), (y12.getD 32 undef), (y12.getD 33 undef), (y12.getD 34 undef), (y12.getD 35 undef), (y12.getD 36 undef), (y12.getD 37 undef), (y12.getD 38 undef), (y12.getD 39 undef), (y12.getD 40 undef), (y12.getD 41 undef), (y12.getD 42 undef), (y12.getD 43 undef), (y12.getD 44 undef), (y12.getD 45 undef), (y12.getD 46 undef), (y12.getD 47 undef), (y12.getD 48 undef), (.int .i64 x1), (.agg #[(.int .i64 x1), (.slice none 0 0)]), undef, undef, undef, undef, undef, undef, undef, undef, undef, undef, undef, undef, undef, undef, undef, undef, undef, undef, undef, undef, undef, undef, undef, undef, undef, undef, undef, undef, undef, undef, undef, undef, undef] H18 [(X.exit 2, fun (y19 : Fr) (H20 : Heap) =>
 AS.asAddr (.pointer x0) fun i21 i22 =>
 ∃ a23 i24, (H20.bump 11).cell i21 (i22 + 1) = some (.slice a23 i24 0) ∧
 ∃ n25, ∃ a26 i27, (H20.bump 11).cellsAt i16 0 2 = some [(.int .i64 n25), (.slice a26 i27 0)] ∧
 nwH (H20.bump 11) (.cells true 2 [(.int .i64 n25), (.slice a26 i27 0)]) fun i28 H29 =>
 ∃ l30, rowOf H29 2 (some ⟨i28, 0, none⟩) 1 = some l30 ∧
 apd H29 32 2 a23 i24 1 l30 fun a31 i32 H33 =>
 AS.asAddr (.pointer x0) fun i34 i35 =>
 stc H33 i34 (i35 + 1) [(.slice a31 i32 0)] fun H36 =>
 (
 CA en F.crossbarref09_Grace_swept [(.pointer x0)] H36 fun v41 H42 =>
 ∃ a43 i44, v41 = (.slice a43 i44 0) ∧
 R (.slice a43 i44 0) H42) ∧
 ((∃ a39 i40, (H20.bump 11).cell i21 (i22 + 1) = some (.slice a39 i40 0) ∧
 (a23 = a39 ∧ i24 = i40 ∧ 0 = 0)) ∧ (∃ a37 i38, H29.cell i21 (i22 + 1) = some (.slice a37 i38 0) ∧
 (a23 = a37 ∧ i24 = i38 ∧ 0 = 0)) ∧ True) ∧
 True)]),
 (X.ret, fun (y45 : Fr) (H46 : Heap) =>
 asSl (y45.getD 4 undef) fun a47 i48 =>
 R (.slice a47 i48 0) H46)])))) →
    CA en F.crossbarref09_Grace_Defer [(.pointer x0), (.int .i64 x1)] H R := by
  intro h
  refine wpFn_ok (Z := [[(4, (.slice none 0 0))], []]) (fn := Go.Proofs.Try.f26) ?_ ?_ ?_
  · kernel_rfl
  · kernel_rfl
  · apply turnInto h
    kernel_rfl

theorem use_crossbarref09_Grace_Defer_0 {t0 : Option Addr} {t1 : Int} {t8 : Int} {t9 : Bool} {t11 : Int} {t12 : Option Addr} {t13 : Nat} {t13o : Nat} {t14 : Nat} {t14o : Nat} {t15 : Option Addr} {t15l : Nat} {t16 : Int} {t17 : Bool} {t18 : Bool} {t20 : Option Addr} {t21 : Nat} {t21o : Nat} {t22 : Nat} {t22o : Nat} {t23 : Option Addr} {t23l : Nat} {t24 : Int} {t25 : Int} {t26 : Nat} {t26o : Nat} {t27 : Bool} {t28 : Bool} {K0 : Fr → Heap → Prop} {K1 : Fr → Heap → Prop} {t4 : Option Addr} {t4l : Nat} {t5 : Int} {t30 : Value} {t31 : Value} {t32 : Value} {t33 : Value} {t34 : Value} {t35 : Value} {t36 : Value} {t37 : Value} {t38 : Value} {t39 : Value} {t40 : Value} {t41 : Value} {t42 : Value} {t43 : Value} {t44 : Value} {t45 : Value} {t46 : Value} {t47 : Value} {t48 : Value} {H : Heap} (I : Nat → Option Addr → Nat → Int → Heap → Prop) (n : Nat) (h0 : I n t4 t4l t5 H)
    (hstep : ∀ (n : Nat) (t4 : Option Addr) (t4l : Nat) (t5 : Int) (ys : Fr) (H : Heap), I n t4 t4l t5 H →
    (
 AS.asAddr (.pointer t0) fun i1 i2 =>
 ∃ a3 i4, H.cell i1 (i2 + 1) = some (.slice a3 i4 0) ∧
 bif (decide (t5 < ((i4 : Nat) : Int))) then (
 AS.asAddr (.pointer t0) fun i5 i6 =>
 ∃ a7 i8, H.cell i5 (i6 + 1) = some (.slice a7 i8 0) ∧
 inB t5 i8 ∧
 asRow a7 fun i9 i10 =>
 ∃ n11, H.cell i9 (i10 + (t5.toNat * 2)) = some (.int .i64 n11) ∧
 bif (n11 == t1) then (
 K1 [(.pointer t0), (.int .i64 t1), undef, undef, (.slice none 0 0), (.int .i64 t5), undef, undef, (.int .i64 t8), (.bool t9), (.bool false), (.int .i64 t11), (.pointer t12), (.pointer (some ⟨t13, t13o, none⟩)), (.pointer (some ⟨t14, t14o, none⟩)), (.slice t15 t15l 0), (.int .i64 t16), (.bool t17), (.bool t18), (.bool false), (.pointer t20), (.pointer (some ⟨t21, t21o, none⟩)), (.pointer (some ⟨t22, t22o, none⟩)), (.slice t23 t23l 0), (.int .i64 t24), (.int .i64 t25), (.pointer (some ⟨t26, t26o, none⟩)), (.bool t27), (.bool t28), (.bool false), (.int .i64 t5), (.pointer t0), (.pointer (some ⟨i1, i2, none⟩)), (.pointer (some ⟨i1, (i2 + 1), none⟩)), (.slice a3 i4 0), (.int .i64 ((i4 : Nat) : Int)), (.bool true), (ys.getD 37 undef), (ys.getD 38 undef), (.pointer t0), (.pointer (some ⟨i5, i6, none⟩)), (.pointer (some ⟨i5, (i6 + 1), none⟩)), (.slice a7 i8 0), (.int .i64 t5), (.pointer (some ⟨i9, (i10 + (t5.toNat * 2)), none⟩)), (.pointer (some ⟨i9, (i10 + (t5.toNat * 2)), none⟩)), (.int .i64 n11), (.int .i64 t1), (.bool true), undef, undef, undef, undef, undef, undef, undef, undef, undef, undef, undef, undef, undef, undef, undef, undef, undef, undef, undef, undef, undef, undef, undef, undef, undef, undef, undef, undef, undef, undef, undef, undef, undef, undef, undef] H)
 else (
 ∃ k12, k12 < n ∧
 I k12 t4 t4l (IntKind.i64.wrap (t5 + 1)) H))
 else (
 K0 [(.pointer t0), (.int .i64 t1), undef, undef, (.slice t4 t4l 0), (.int .i64 t5), undef, undef, (.int .i64 t8), (.bool t9), (.bool false), (.int .i64 t11), (.pointer t12), (.pointer (some ⟨t13, t13o, none⟩)), (.pointer (some ⟨t14, t14o, none⟩)), (.slice t15 t15l 0), (.int .i64 t16), (.bool t17), (.bool t18), (.bool false), (.pointer t20), (.pointer (some ⟨t21, t21o, none⟩)), (.pointer (some ⟨t22, t22o, none⟩)), (.slice t23 t23l 0), (.int .i64 t24), (.int .i64 t25), (.pointer (some ⟨t26, t26o, none⟩)), (.bool t27), (.bool t28), (.bool false), (.int .i64 t5), (.pointer t0), (.pointer (some ⟨i1, i2, none⟩)), (.pointer (some ⟨i1, (i2 + 1), none⟩)), (.slice a3 i4 0), (.int .i64 ((i4 : Nat) : Int)), (.bool false), (ys.getD 37 undef), (ys.getD 38 undef), (ys.getD 39 undef), (ys.getD 40 undef), (ys.getD 41 undef), (ys.getD 42 undef), (ys.getD 43 undef), (ys.getD 44 undef), (ys.getD 45 undef), (ys.getD 46 undef), (ys.getD 47 undef), (ys.getD 48 undef), undef, undef, undef, undef, undef, undef, undef, undef, undef, undef, undef, undef, undef, undef, undef, undef, undef, undef, undef, undef, undef, undef, undef, undef, undef, undef, undef, undef, undef, undef, undef, undef, undef, undef, undef] H))) :
    LA en L_crossbarref09_Grace_Defer_0 [(.pointer t0), (.int .i64 t1), undef, undef, (.slice t4 t4l 0), (.int .i64 t5), undef, undef, (.int .i64 t8), (.bool t9), (.bool false), (.int .i64 t11), (.pointer t12), (.pointer (some ⟨t13, t13o, none⟩)), (.pointer (some ⟨t14, t14o, none⟩)), (.slice t15 t15l 0), (.int .i64 t16), (.bool t17), (.bool t18), (.bool false), (.pointer t20), (.pointer (some ⟨t21, t21o, none⟩)), (.pointer (some ⟨t22, t22o, none⟩)), (.slice t23 t23l 0), (.int .i64 t24), (.int .i64 t25), (.pointer (some ⟨t26, t26o, none⟩)), (.bool t27), (.bool t28), (.bool false), t30, t31, t32, t33, t34, t35, t36, t37, t38, t39, t40, t41, t42, t43, t44, t45, t46, t47, t48, undef, undef, undef, undef, undef, undef, undef, undef, undef, undef, undef, undef, undef, undef, undef, undef, undef, undef, undef, undef, undef, undef, undef, undef, undef, undef, undef, undef, undef, undef, undef, undef, undef, undef, undef] H [(X.exit 0, K0), (X.ret, K1)] := by
  refine LA_rule (Z := []) (fun m xs H' => asSl (xs.getD 4 undef) fun t4 t4l => AS.asInt .i64 (xs.getD 5 undef) fun t5 => I m t4 t4l t5 H') ?_ n H ?_
  · intro n H
    suffices hs : ∀ s30 : Value, ∀ s31 : Value, ∀ s32 : Value, ∀ s33 : Value, ∀ s34 : Value, ∀ s35 : Value, ∀ s36 : Value, ∀ s39 : Value, ∀ s40 : Value, ∀ s41 : Value, ∀ s42 : Value, ∀ s43 : Value, ∀ s44 : Value, ∀ s45 : Value, ∀ s46 : Value, ∀ s47 : Value, ∀ s48 : Value, ∀ s4 : Value, ∀ s37 : Value, ∀ s38 : Value, ∀ s5 : Value, ((asSl s4 fun t4 t4l => AS.asInt .i64 s5 fun t5 => I n t4 t4l t5 H) → wpCode en L_crossbarref09_Grace_Defer_0 [] [(.pointer t0), (.int .i64 t1), undef, undef, s4, s5, undef, undef, (.int .i64 t8), (.bool t9), (.bool false), (.int .i64 t11), (.pointer t12), (.pointer (some ⟨t13, t13o, none⟩)), (.pointer (some ⟨t14, t14o, none⟩)), (.slice t15 t15l 0), (.int .i64 t16), (.bool t17), (.bool t18), (.bool false), (.pointer t20), (.pointer (some ⟨t21, t21o, none⟩)), (.pointer (some ⟨t22, t22o, none⟩)), (.slice t23 t23l 0), (.int .i64 t24), (.int .i64 t25), (.pointer (some ⟨t26, t26o, none⟩)), (.bool t27), (.bool t28), (.bool false), s30, s31, s32, s33, s34, s35, s36, s37, s38, s39, s40, s41, s42, s43, s44, s45, s46, s47, s48, undef, undef, undef, undef, undef, undef, undef, undef, undef, undef, undef, undef, undef, undef, undef, undef, undef, undef, undef, undef, undef, undef, undef, undef, undef, undef, undef, undef, undef, undef, undef, undef, undef, undef, undef] H (loopQ (fun m xs H' => asSl (xs.getD 4 undef) fun t4 t4l => AS.asInt .i64 (xs.getD 5 undef) fun t5 => I m t4 t4l t5 H') n [(X.exit 0, K0), (X.ret, K1)])) by
      apply turnInto hs
      kernel_rfl
    intro s30 s31 s32 s33 s34 s35 s36 s39 s40 s41 s42 s43 s44 s45 s46 s47 s48 s4 s37 s38 s5 hP
    replace hP := asSl_elim hP
    obtain ⟨t4, t4l, rfl, hP⟩ := hP
    replace hP := asInt_elim hP
    obtain ⟨t5, rfl, hP⟩ := hP
    apply turnInto (hstep n t4 t4l t5 [(.pointer t0), (.int .i64 t1), undef, undef, (.slice t4 t4l 0), (.int .i64 t5), undef, undef, (.int .i64 t8), (.bool t9), (.bool false), (.int .i64 t11), (.pointer t12), (.pointer (some ⟨t13, t13o, none⟩)), (.pointer (some ⟨t14, t14o, none⟩)), (.slice t15 t15l 0), (.int .i64 t16), (.bool t17), (.bool t18), (.bool false), (.pointer t20), (.pointer (some ⟨t21, t21o, none⟩)), (.pointer (some ⟨t22, t22o, none⟩)), (.slice t23 t23l 0), (.int .i64 t24), (.int .i64 t25), (.pointer (some ⟨t26, t26o, none⟩)), (.bool t27), (.bool t28), (.bool false), s30, s31, s32, s33, s34, s35, s36, s37, s38, s39, s40, s41, s42, s43, s44, s45, s46, s47, s48, undef, undef, undef, undef, undef, undef, undef, undef, undef, undef, undef, undef, undef, undef, undef, undef, undef, undef, undef, undef, undef, undef, undef, undef, undef, undef, undef, undef, undef, undef, undef, undef, undef, undef, undef] H hP)
    kernel_rfl
  · apply turnInto h0
    kernel_rfl

theorem use_crossbarref09_Grace_Defer_1 {t0 : Option Addr} {t1 : Int} {t4 : Option Addr} {t4l : Nat} {t5 : Value} {t6 : Nat} {t8 : Int} {t9 : Bool} {t11 : Int} {t12 : Option Addr} {t13 : Nat} {t13o : Nat} {t14 : Nat} {t14o : Nat} {t15 : Option Addr} {t15l : Nat} {t16 : Int} {t17 : Bool} {t18 : Bool} {t20 : Option Addr} {t21 : Nat} {t21o : Nat} {t22 : Nat} {t22o : Nat} {t23 : Option Addr} {t23l : Nat} {t24 : Int} {t25 : Int} {t26 : Nat} {t26o : Nat} {t27 : Bool} {t28 : Bool} {t30 : Value} {t31 : Value} {t32 : Value} {t33 : Value} {t34 : Value} {t35 : Value} {t36 : Value} {t37 : Value} {t38 : Value} {t39 : Value} {t40 : Value} {t41 : Value} {t42 : Value} {t43 : Value} {t44 : Value} {t45 : Value} {t46 : Value} {t47 : Value} {t48 : Value} {t49 : Int} {t50_0 : Int} {K0 : Fr → Heap → Prop} {t7 : Int} {t51 : Value} {t52 : Value} {t53 : Value} {t54 : Value} {t55 : Value} {t56 : Value} {t57 : Value} {t58 : Value} {t59 : Value} {t60 : Value} {t61 : Value} {t62 : Value} {t63 : Value} {t64 : Value} {t65 : Value} {t66 : Value} {t67 : Value} {t68 : Value} {t69 : Value} {t70 : Value} {t71 : Value} {H : Heap} (I : Nat → Int → Heap → Prop) (n : Nat) (h0 : I n t7 H)
    (hstep : ∀ (n : Nat) (t7 : Int) (ys : Fr) (H : Heap), I n t7 H →
    (
 AS.asAddr (.pointer t0) fun i1 i2 =>
 ∃ a3 i4, H.cell i1 i2 = some (.slice a3 i4 0) ∧
 bif (decide (t7 < ((i4 : Nat) : Int))) then (
 ∃ a5 i6, (H.bump 13).cell t6 1 = some (.slice a5 i6 0) ∧
 AS.asAddr (.pointer t0) fun i7 i8 =>
 ∃ a9 i10, (H.bump 13).cell i7 i8 = some (.slice a9 i10 0) ∧
 inB t7 i10 ∧
 asRow a9 fun i11 i12 =>
 ∃ b13, (H.bump 13).cell i11 (i12 + (t7.toNat * 1)) = some (.bool b13) ∧
 nwH (H.bump 13) (.cells true 1 [(.bool b13)]) fun i14 H15 =>
 ∃ l16, rowOf H15 1 (some ⟨i14, 0, none⟩) 1 = some l16 ∧
 apd H15 1 1 a5 i6 1 l16 fun a17 i18 H19 =>
 stc H19 t6 1 [(.slice a17 i18 0)] fun H20 =>
 (
 ∃ k25, k25 < n ∧
 I k25 (IntKind.i64.wrap (t7 + 1)) H20) ∧
 ((∃ a23 i24, (H.bump 13).cell t6 1 = some (.slice a23 i24 0) ∧
 (a5 = a23 ∧ i6 = i24 ∧ 0 = 0)) ∧ (∃ a21 i22, H15.cell t6 1 = some (.slice a21 i22 0) ∧
 (a5 = a21 ∧ i6 = i22 ∧ 0 = 0)) ∧ True) ∧
 True)
 else (
 K0 [(.pointer t0), (.int .i64 t1), undef, undef, (.slice t4 t4l 0), t5, (.pointer (some ⟨t6, 0, none⟩)), (.int .i64 t7), (.int .i64 t8), (.bool t9), (.bool false), (.int .i64 t11), (.pointer t12), (.pointer (some ⟨t13, t13o, none⟩)), (.pointer (some ⟨t14, t14o, none⟩)), (.slice t15 t15l 0), (.int .i64 t16), (.bool t17), (.bool t18), (.bool false), (.pointer t20), (.pointer (some ⟨t21, t21o, none⟩)), (.pointer (some ⟨t22, t22o, none⟩)), (.slice t23 t23l 0), (.int .i64 t24), (.int .i64 t25), (.pointer (some ⟨t26, t26o, none⟩)), (.bool t27), (.bool t28), (.bool false), t30, t31, t32, t33, t34, t35, t36, t37, t38, t39, t40, t41, t42, t43, t44, t45, t46, t47, t48, (.int .i64 t49), (.agg #[(.int .i64 t50_0), (.slice none 0 0)]), (.int .i64 t7), (.pointer t0), (.pointer (some ⟨i1, i2, none⟩)), (.pointer (some ⟨i1, i2, none⟩)), (.slice a3 i4 0), (.int .i64 ((i4 : Nat) : Int)), (.bool false), (ys.getD 58 undef), (ys.getD 59 undef), (ys.getD 60 undef), (ys.getD 61 undef), (ys.getD 62 undef), (ys.getD 63 undef), (ys.getD 64 undef), (ys.getD 65 undef), (ys.getD 66 undef), (ys.getD 67 undef), (ys.getD 68 undef), (ys.getD 69 undef), (ys.getD 70 undef), (ys.getD 71 undef), undef, undef, undef, undef, undef, undef, undef, undef, undef, undef, undef, undef] H))) :
    LA en L_crossbarref09_Grace_Defer_1 [(.pointer t0), (.int .i64 t1), undef, undef, (.slice t4 t4l 0), t5, (.pointer (some ⟨t6, 0, none⟩)), (.int .i64 t7), (.int .i64 t8), (.bool t9), (.bool false), (.int .i64 t11), (.pointer t12), (.pointer (some ⟨t13, t13o, none⟩)), (.pointer (some ⟨t14, t14o, none⟩)), (.slice t15 t15l 0), (.int .i64 t16), (.bool t17), (.bool t18), (.bool false), (.pointer t20), (.pointer (some ⟨t21, t21o, none⟩)), (.pointer (some ⟨t22, t22o, none⟩)), (.slice t23 t23l 0), (.int .i64 t24), (.int .i64 t25), (.pointer (some ⟨t26, t26o, none⟩)), (.bool t27), (.bool t28), (.bool false), t30, t31, t32, t33, t34, t35, t36, t37, t38, t39, t40, t41, t42, t43, t44, t45, t46, t47, t48, (.int .i64 t49), (.agg #[(.int .i64 t50_0), (.slice none 0 0)]), t51, t52, t53, t54, t55, t56, t57, t58, t59, t60, t61, t62, t63, t64, t65, t66, t67, t68, t69, t70, t71, undef, undef, undef, undef, undef, undef, undef, undef, undef, undef, undef, undef] H [(X.exit 2, K0)] := by
  refine LA_rule (Z := []) (fun m xs H' => AS.asInt .i64 (xs.getD 7 undef) fun t7 => I m t7 H') ?_ n H ?_
  · intro n H
    suffices hs : ∀ s51 : Value, ∀ s52 : Value, ∀ s53 : Value, ∀ s54 : Value, ∀ s55 : Value, ∀ s56 : Value, ∀ s57 : Value, ∀ s60 : Value, ∀ s61 : Value, ∀ s62 : Value, ∀ s63 : Value, ∀ s64 : Value, ∀ s65 : Value, ∀ s66 : Value, ∀ s67 : Value, ∀ s68 : Value, ∀ s69 : Value, ∀ s70 : Value, ∀ s71 : Value, ∀ s58 : Value, ∀ s59 : Value, ∀ s7 : Value, ((AS.asInt .i64 s7 fun t7 => I n t7 H) → wpCode en L_crossbarref09_Grace_Defer_1 [] [(.pointer t0), (.int .i64 t1), undef, undef, (.slice t4 t4l 0), t5, (.pointer (some ⟨t6, 0, none⟩)), s7, (.int .i64 t8), (.bool t9), (.bool false), (.int .i64 t11), (.pointer t12), (.pointer (some ⟨t13, t13o, none⟩)), (.pointer (some ⟨t14, t14o, none⟩)), (.slice t15 t15l 0), (.int .i64 t16), (.bool t17), (.bool t18), (.bool false), (.pointer t20), (.pointer (some ⟨t21, t21o, none⟩)), (.pointer (some ⟨t22, t22o, none⟩)), (.slice t23 t23l 0), (.int .i64 t24), (.int .i64 t25), (.pointer (some ⟨t26, t26o, none⟩)), (.bool t27), (.bool t28), (.bool false), t30, t31, t32, t33, t34, t35, t36, t37, t38, t39, t40, t41, t42, t43, t44, t45, t46, t47, t48, (.int .i64 t49), (.agg #[(.int .i64 t50_0), (.slice none 0 0)]), s51, s52, s53, s54, s55, s56, s57, s58, s59, s60, s61, s62, s63, s64, s65, s66, s67, s68, s69, s70, s71, undef, undef, undef, undef, undef, undef, undef, undef, undef, undef, undef, undef] H (loopQ (fun m xs H' => AS.asInt .i64 (xs.getD 7 undef) fun t7 => I m t7 H') n [(X.exit 2, K0)])) by
      apply turnInto hs
      kernel_rfl
    intro s51 s52 s53 s54 s55 s56 s57 s60 s61 s62 s63 s64 s65 s66 s67 s68 s69 s70 s71 s58 s59 s7 hP
    replace hP := asInt_elim hP
    obtain ⟨t7, rfl, hP⟩ := hP
    apply turnInto (hstep n t7 [(.pointer t0), (.int .i64 t1), undef, undef, (.slice t4 t4l 0), t5, (.pointer (some ⟨t6, 0, none⟩)), (.int .i64 t7), (.int .i64 t8), (.bool t9), (.bool false), (.int .i64 t11), (.pointer t12), (.pointer (some ⟨t13, t13o, none⟩)), (.pointer (some ⟨t14, t14o, none⟩)), (.slice t15 t15l 0), (.int .i64 t16), (.bool t17), (.bool t18), (.bool false), (.pointer t20), (.pointer (some ⟨t21, t21o, none⟩)), (.pointer (some ⟨t22, t22o, none⟩)), (.slice t23 t23l 0), (.int .i64 t24), (.int .i64 t25), (.pointer (some ⟨t26, t26o, none⟩)), (.bool t27), (.bool t28), (.bool false), t30, t31, t32, t33, t34, t35, t36, t37, t38, t39, t40, t41, t42, t43, t44, t45, t46, t47, t48, (.int .i64 t49), (.agg #[(.int .i64 t50_0), (.slice none 0 0)]), s51, s52, s53, s54, s55, s56, s57, s58, s59, s60, s61, s62, s63, s64, s65, s66, s67, s68, s69, s70, s71, undef, undef, undef, undef, undef, undef, undef, undef, undef, undef, undef, undef] H hP)
    kernel_rfl
  · apply turnInto h0
    kernel_rfl


/-! crossbarref09_Grace_Inside -/

theorem vc_crossbarref09_Grace_Inside (x0 : Option Addr) (x1 : Int) (H : Heap) (R : Value → Heap → Prop) :
    (
 bif (decide (x1 ≥ 0)) then (
 AS.asAddr (.pointer x0) fun i1 i2 =>
 ∃ a3 i4, H.cell i1 i2 = some (.slice a3 i4 0) ∧
 bif (decide (x1 < ((i4 : Nat) : Int))) then (
 AS.asAddr (.pointer x0) fun i5 i6 =>
 ∃ a7 i8, H.cell i5 i6 = some (.slice a7 i8 0) ∧
 inB x1 i8 ∧
 asRow a7 fun i9 i10 =>
 ∃ b11, H.cell i9 (i10 + (x1.toNat * 1)) = some (.bool b11) ∧
 R (.bool b11) H)
 else (
 R (.bool false) H))
 else (
 R (.bool false) H)) →
    CA en F.crossbarref09_Grace_Inside [(.pointer x0), (.int .i64 x1)] H R := by
  intro h
  refine wpFn_ok (Z := []) (fn := Go.Proofs.Try.f28) ?_ ?_ ?_
  · kernel_rfl
  · kernel_rfl
  · apply turnInto h
    kernel_rfl


/-! crossbarref09_Grace_swept -/
noncomputable def L_crossbarref09_Grace_swept_0 : Code := loopAt Go.Proofs.Try.f57 0
noncomputable def L_crossbarref09_Grace_swept_1 : Code := loopAt Go.Proofs.Try.f57 1

theorem vc_crossbarref09_Grace_swept (x0 : Option Addr) (H : Heap) (R : Value → Heap → Prop) :
    (
 LA en L_crossbarref09_Grace_swept_0 [(.pointer x0), undef, (.slice none 0 0), (.slice none 0 0), (.slice none 0 0), (.int .i64 0), undef, undef, undef, undef, undef, undef, undef, undef, undef, undef, undef, undef, undef, undef, undef, undef, undef, undef, undef, undef, undef, undef, undef, undef, undef, undef, undef, undef, undef, undef, undef, undef, undef, undef, undef, undef, undef, undef, undef, undef, undef, undef, undef, undef, undef, undef, undef, undef, undef, undef, undef, undef, undef, undef, undef, undef, undef, undef, undef, undef, undef, undef, undef, undef, undef, undef, undef, undef, undef, undef, undef, undef, undef, undef, undef, undef, undef, undef, undef] H [(X.exit 0, fun (y1 : Fr) (H2 : Heap) =>
 asSl (y1.getD 4 undef) fun a3 i4 =>
 asSl (y1.getD 3 undef) fun a5 i6 =>
 AS.asAddr (.pointer x0) fun i7 i8 =>
 stc H2 i7 (i8 + 1) [(.slice a3 i4 0)] fun H9 =>
 R (.slice a5 i6 0) H9)]) →
    CA en F.crossbarref09_Grace_swept [(.pointer x0)] H R := by
  intro h
  refine wpFn_ok (Z := [[(4, (.slice none 0 0)), (3, (.slice none 0 0))], [(6, (.bool false))]]) (fn := Go.Proofs.Try.f57) ?_ ?_ ?_
  · kernel_rfl
  · kernel_rfl
  · apply turnInto h
    kernel_rfl

theorem use_crossbarref09_Grace_swept_0 {t0 : Option Addr} {K0 : Fr → Heap → Prop} {t3 : Option Addr} {t3l : Nat} {t4 : Option Addr} {t4l : Nat} {t5 : Int} {t6 : Value} {t7 : Value} {t8 : Value} {t9 : Value} {t10 : Value} {t11 : Value} {t12 : Value} {t13 : Value} {t14 : Value} {t15 : Value} {t16 : Value} {t17 : Value} {t18 : Value} {t19 : Value} {t20 : Value} {t21 : Value} {t22 : Value} {t23 : Value} {t24 : Value} {t25 : Value} {t26 : Value} {t27 : Value} {t28 : Value} {t29 : Value} {t30 : Value} {t31 : Value} {t32 : Value} {t33 : Value} {t34 : Value} {t35 : Value} {t36 : Value} {t37 : Value} {t38 : Value} {t39 : Value} {t40 : Value} {t41 : Value} {t42 : Value} {t43 : Value} {t44 : Value} {t45 : Value} {t46 : Value} {t47 : Value} {t48 : Value} {t49 : Value} {t50 : Value} {t51 : Value} {t52 : Value} {t53 : Value} {t54 : Value} {t55 : Value} {t56 : Value} {t57 : Value} {t58 : Value} {t59 : Value} {t60 : Value} {t61 : Value} {t62 : Value} {t63 : Value} {t64 : Value} {t65 : Value} {t66 : Value} {t67 : Value} {t68 : Value} {t69 : Value} {t70 : Value} {t71 : Value} {t72 : Value} {t73 : Value} {t74 : Value} {t75 : Value} {t76 : Value} {t77 : Value} {t78 : Value} {t79 : Value} {H : Heap} (I : Nat → Option Addr → Nat → Option Addr → Nat → Int → Heap → Prop) (n : Nat) (h0 : I n t3 t3l t4 t4l t5 H)
    (hstep : ∀ (n : Nat) (t3 : Option Addr) (t3l : Nat) (t4 : Option Addr) (t4l : Nat) (t5 : Int) (ys : Fr) (H : Heap), I n t3 t3l t4 t4l t5 H →
    (
 AS.asAddr (.pointer t0) fun i1 i2 =>
 ∃ a3 i4, H.cell i1 (i2 + 1) = some (.slice a3 i4 0) ∧
 bif (decide (t5 < ((i4 : Nat) : Int))) then (
 LA en L_crossbarref09_Grace_swept_1 [(.pointer t0), undef, (.slice none 0 0), (.slice t3 t3l 0), (.slice t4 t4l 0), (.int .i64 t5), (.bool false), (.int .i64 0), (.int .i64 t5), (.pointer t0), (.pointer (some ⟨i1, i2, none⟩)), (.pointer (some ⟨i1, (i2 + 1), none⟩)), (.slice a3 i4 0), (.int .i64 ((i4 : Nat) : Int)), (.bool true), (ys.getD 15 undef), (ys.getD 16 undef), (ys.getD 17 undef), (ys.getD 18 undef), (ys.getD 19 undef), (ys.getD 20 undef), (ys.getD 21 undef), (ys.getD 22 undef), (ys.getD 23 undef), (ys.getD 24 undef), (ys.getD 25 undef), (ys.getD 26 undef), (ys.getD 27 undef), (ys.getD 28 undef), (ys.getD 29 undef), (ys.getD 30 undef), (ys.getD 31 undef), (ys.getD 32 undef), (ys.getD 33 undef), (ys.getD 34 undef), (ys.getD 35 undef), (ys.getD 36 undef), (ys.getD 37 undef), (ys.getD 38 undef), (ys.getD 39 undef), (ys.getD 40 undef), (ys.getD 41 undef), (ys.getD 42 undef), (ys.getD 43 undef), (ys.getD 44 undef), (ys.getD 45 undef), (ys.getD 46 undef), (ys.getD 47 undef), (ys.getD 48 undef), (ys.getD 49 undef), (ys.getD 50 undef), (ys.getD 51 undef), (ys.getD 52 undef), (ys.getD 53 undef), (ys.getD 54 undef), (ys.getD 55 undef), (ys.getD 56 undef), (ys.getD 57 undef), (ys.getD 58 undef), (ys.getD 59 undef), (ys.getD 60 undef), (ys.getD 61 undef), (ys.getD 62 undef), (ys.getD 63 undef), (ys.getD 64 undef), (ys.getD 65 undef), (ys.getD 66 undef), (ys.getD 67 undef), (ys.getD 68 undef), (ys.getD 69 undef), (ys.getD 70 undef), (ys.getD 71 undef), (ys.getD 72 undef), (ys.getD 73 undef), (ys.getD 74 undef), (ys.getD 75 undef), (ys.getD 76 undef), (ys.getD 77 undef), (ys.getD 78 undef), (ys.getD 79 undef), undef, undef, undef, undef, undef] H [(X.exit 2, fun (y5 : Fr) (H6 : Heap) =>
 AS.asBool (y5.getD 6 undef) fun b7 =>
 bif b7 then (
 AS.asAddr (.pointer t0) fun i8 i9 =>
 ∃ a10 i11, H6.cell i8 (i9 + 1) = some (.slice a10 i11 0) ∧
 inB t5 i11 ∧
 asRow a10 fun i12 i13 =>
 ∃ n14, ∃ a15 i16, H6.cellsAt i12 (i13 + (t5.toNat * 2)) 2 = some [(.int .i64 n14), (.slice a15 i16 0)] ∧
 nwH H6 (.cells true 2 [(.int .i64 n14), (.slice a15 i16 0)]) fun i17 H18 =>
 ∃ l19, rowOf H18 2 (some ⟨i17, 0, none⟩) 1 = some l19 ∧
 apd H18 32 2 t4 t4l 1 l19 fun a20 i21 H22 =>
 ∃ k23, k23 < n ∧
 I k23 t3 t3l a20 i21 (IntKind.i64.wrap (t5 + 1)) H22)
 else (
 AS.asAddr (.pointer t0) fun i24 i25 =>
 ∃ a26 i27, H6.cell i24 (i25 + 1) = some (.slice a26 i27 0) ∧
 inB t5 i27 ∧
 asRow a26 fun i28 i29 =>
 ∃ n30, H6.cell i28 (i29 + (t5.toNat * 2)) = some (.int .i64 n30) ∧
 nwH H6 (.cells true 1 [(.int .i64 n30)]) fun i31 H32 =>
 ∃ l33, rowOf H32 1 (some ⟨i31, 0, none⟩) 1 = some l33 ∧
 apd H32 8 1 t3 t3l 1 l33 fun a34 i35 H36 =>
 AS.asAddr (.pointer t0) fun i37 i38 =>
 ∃ a39 i40, (H36.bump 15).cell i37 (i38 + 2) = some (.slice a39 i40 0) ∧
 AS.asAddr (.pointer t0) fun i41 i42 =>
 ∃ a43 i44, (H36.bump 15).cell i41 (i42 + 1) = some (.slice a43 i44 0) ∧
 inB t5 i44 ∧
 asRow a43 fun i45 i46 =>
 ∃ n47, (H36.bump 15).cell i45 (i46 + (t5.toNat * 2)) = some (.int .i64 n47) ∧
 inB (IntKind.i64.wrap (n47 - 1)) i40 ∧
 asRow a39 fun i48 i49 =>
 stc (H36.bump 15) i48 (i49 + ((IntKind.i64.wrap (n47 - 1)).toNat * 1)) [(.bool false)] fun H50 =>
 (
 ∃ k51, k51 < n ∧
 I k51 a34 i35 t4 t4l (IntKind.i64.wrap (t5 + 1)) H50) ∧
 True))])
 else (
 K0 [(.pointer t0), undef, (.slice none 0 0), (.slice t3 t3l 0), (.slice t4 t4l 0), (.int .i64 t5), (ys.getD 6 undef), (ys.getD 7 undef), (.int .i64 t5), (.pointer t0), (.pointer (some ⟨i1, i2, none⟩)), (.pointer (some ⟨i1, (i2 + 1), none⟩)), (.slice a3 i4 0), (.int .i64 ((i4 : Nat) : Int)), (.bool false), (ys.getD 15 undef), (ys.getD 16 undef), (ys.getD 17 undef), (ys.getD 18 undef), (ys.getD 19 undef), (ys.getD 20 undef), (ys.getD 21 undef), (ys.getD 22 undef), (ys.getD 23 undef), (ys.getD 24 undef), (ys.getD 25 undef), (ys.getD 26 undef), (ys.getD 27 undef), (ys.getD 28 undef), (ys.getD 29 undef), (ys.getD 30 undef), (ys.getD 31 undef), (ys.getD 32 undef), (ys.getD 33 undef), (ys.getD 34 undef), (ys.getD 35 undef), (ys.getD 36 undef), (ys.getD 37 undef), (ys.getD 38 undef), (ys.getD 39 undef), (ys.getD 40 undef), (ys.getD 41 undef), (ys.getD 42 undef), (ys.getD 43 undef), (ys.getD 44 undef), (ys.getD 45 undef), (ys.getD 46 undef), (ys.getD 47 undef), (ys.getD 48 undef), (ys.getD 49 undef), (ys.getD 50 undef), (ys.getD 51 undef), (ys.getD 52 undef), (ys.getD 53 undef), (ys.getD 54 undef), (ys.getD 55 undef), (ys.getD 56 undef), (ys.getD 57 undef), (ys.getD 58 undef), (ys.getD 59 undef), (ys.getD 60 undef), (ys.getD 61 undef), (ys.getD 62 undef), (ys.getD 63 undef), (ys.getD 64 undef), (ys.getD 65 undef), (ys.getD 66 undef), (ys.getD 67 undef), (ys.getD 68 undef), (ys.getD 69 undef), (ys.getD 70 undef), (ys.getD 71 undef), (ys.getD 72 undef), (ys.getD 73 undef), (ys.getD 74 undef), (ys.getD 75 undef), (ys.getD 76 undef), (ys.getD 77 undef), (ys.getD 78 undef), (ys.getD 79 undef), undef, undef, undef, undef, undef] H))) :
    LA en L_crossbarref09_Grace_swept_0 [(.pointer t0), undef, (.slice none 0 0), (.slice t3 t3l 0), (.slice t4 t4l 0), (.int .i64 t5), t6, t7, t8, t9, t10, t11, t12, t13, t14, t15, t16, t17, t18, t19, t20, t21, t22, t23, t24, t25, t26, t27, t28, t29, t30, t31, t32, t33, t34, t35, t36, t37, t38, t39, t40, t41, t42, t43, t44, t45, t46, t47, t48, t49, t50, t51, t52, t53, t54, t55, t56, t57, t58, t59, t60, t61, t62, t63, t64, t65, t66, t67, t68, t69, t70, t71, t72, t73, t74, t75, t76, t77, t78, t79, undef, undef, undef, undef, undef] H [(X.exit 0, K0)] := by
  refine LA_rule (Z := [[(6, (.bool false))]]) (fun m xs H' => asSl (xs.getD 3 undef) fun t3 t3l => asSl (xs.getD 4 undef) fun t4 t4l => AS.asInt .i64 (xs.getD 5 undef) fun t5 => I m t3 t3l t4 t4l t5 H') ?_ n H ?_
  · intro n H
    suffices hs : ∀ s8 : Value, ∀ s9 : Value, ∀ s10 : Value, ∀ s11 : Value, ∀ s12 : Value, ∀ s13 : Value, ∀ s14 : Value, ∀ s6 : Value, ∀ s7 : Value, ∀ s17 : Value, ∀ s18 : Value, ∀ s19 : Value, ∀ s20 : Value, ∀ s21 : Value, ∀ s22 : Value, ∀ s23 : Value, ∀ s24 : Value, ∀ s25 : Value, ∀ s26 : Value, ∀ s27 : Value, ∀ s30 : Value, ∀ s31 : Value, ∀ s32 : Value, ∀ s33 : Value, ∀ s34 : Value, ∀ s35 : Value, ∀ s36 : Value, ∀ s37 : Value, ∀ s38 : Value, ∀ s39 : Value, ∀ s40 : Value, ∀ s41 : Value, ∀ s42 : Value, ∀ s43 : Value, ∀ s28 : Value, ∀ s29 : Value, ∀ s44 : Value, ∀ s45 : Value, ∀ s46 : Value, ∀ s47 : Value, ∀ s48 : Value, ∀ s49 : Value, ∀ s50 : Value, ∀ s51 : Value, ∀ s52 : Value, ∀ s53 : Value, ∀ s54 : Value, ∀ s4 : Value, ∀ s55 : Value, ∀ s56 : Value, ∀ s57 : Value, ∀ s58 : Value, ∀ s59 : Value, ∀ s60 : Value, ∀ s61 : Value, ∀ s62 : Value, ∀ s63 : Value, ∀ s64 : Value, ∀ s65 : Value, ∀ s3 : Value, ∀ s66 : Value, ∀ s67 : Value, ∀ s68 : Value, ∀ s69 : Value, ∀ s70 : Value, ∀ s71 : Value, ∀ s72 : Value, ∀ s73 : Value, ∀ s74 : Value, ∀ s75 : Value, ∀ s76 : Value, ∀ s77 : Value, ∀ s78 : Value, ∀ s79 : Value, ∀ s15 : Value, ∀ s16 : Value, ∀ s5 : Value, ((asSl s3 fun t3 t3l => asSl s4 fun t4 t4l => AS.asInt .i64 s5 fun t5 => I n t3 t3l t4 t4l t5 H) → wpCode en L_crossbarref09_Grace_swept_0 [[(6, (.bool false))]] [(.pointer t0), undef, (.slice none 0 0), s3, s4, s5, s6, s7, s8, s9, s10, s11, s12, s13, s14, s15, s16, s17, s18, s19, s20, s21, s22, s23, s24, s25, s26, s27, s28, s29, s30, s31, s32, s33, s34, s35, s36, s37, s38, s39, s40, s41, s42, s43, s44, s45, s46, s47, s48, s49, s50, s51, s52, s53, s54, s55, s56, s57, s58, s59, s60, s61, s62, s63, s64, s65, s66, s67, s68, s69, s70, s71, s72, s73, s74, s75, s76, s77, s78, s79, undef, undef, undef, undef, undef] H (loopQ (fun m xs H' => asSl (xs.getD 3 undef) fun t3 t3l => asSl (xs.getD 4 undef) fun t4 t4l => AS.asInt .i64 (xs.getD 5 undef) fun t5 => I m t3 t3l t4 t4l t5 H') n [(X.exit 0, K0)])) by
      apply turnInto hs
      kernel_rfl
    intro s8 s9 s10 s11 s12 s13 s14 s6 s7 s17 s18 s19 s20 s21 s22 s23 s24 s25 s26 s27 s30 s31 s32 s33 s34 s35 s36 s37 s38 s39 s40 s41 s42 s43 s28 s29 s44 s45 s46 s47 s48 s49 s50 s51 s52 s53 s54 s4 s55 s56 s57 s58 s59 s60 s61 s62 s63 s64 s65 s3 s66 s67 s68 s69 s70 s71 s72 s73 s74 s75 s76 s77 s78 s79 s15 s16 s5 hP
    replace hP := asSl_elim hP
    obtain ⟨t3, t3l, rfl, hP⟩ := hP
    replace hP := asSl_elim hP
    obtain ⟨t4, t4l, rfl, hP⟩ := hP
    replace hP := asInt_elim hP
    obtain ⟨t5, rfl, hP⟩ := hP
    apply turnInto (hstep n t3 t3l t4 t4l t5 [(.pointer t0), undef, (.slice none 0 0), (.slice t3 t3l 0), (.slice t4 t4l 0), (.int .i64 t5), s6, s7, s8, s9, s10, s11, s12, s13, s14, s15, s16, s17, s18, s19, s20, s21, s22, s23, s24, s25, s26, s27, s28, s29, s30, s31, s32, s33, s34, s35, s36, s37, s38, s39, s40, s41, s42, s43, s44, s45, s46, s47, s48, s49, s50, s51, s52, s53, s54, s55, s56, s57, s58, s59, s60, s61, s62, s63, s64, s65, s66, s67, s68, s69, s70, s71, s72, s73, s74, s75, s76, s77, s78, s79, undef, undef, undef, undef, undef] H hP)
    kernel_rfl
  · apply turnInto h0
    kernel_rfl

theorem use_crossbarref09_Grace_swept_1 {t0 : Option Addr} {t3 : Option Addr} {t3l : Nat} {t4 : Option Addr} {t4l : Nat} {t5 : Int} {t8 : Int} {t9 : Option Addr} {t10 : Nat} {t10o : Nat} {t11 : Nat} {t11o : Nat} {t12 : Option Addr} {t12l : Nat} {t13 : Int} {t15 : Value} {t16 : Value} {t44 : Value} {t45 : Value} {t46 : Value} {t47 : Value} {t48 : Value} {t49 : Value} {t50 : Value} {t51 : Value} {t52 : Value} {t53 : Value} {t54 : Value} {t55 : Value} {t56 : Value} {t57 : Value} {t58 : Value} {t59 : Value} {t60 : Value} {t61 : Value} {t62 : Value} {t63 : Value} {t64 : Value} {t65 : Value} {t66 : Value} {t67 : Value} {t68 : Value} {t69 : Value} {t70 : Value} {t71 : Value} {t72 : Value} {t73 : Value} {t74 : Value} {t75 : Value} {t76 : Value} {t77 : Value} {t78 : Value} {t79 : Value} {K0 : Fr → Heap → Prop} {t6 : Bool} {t7 : Int} {t17 : Value} {t18 : Value} {t19 : Value} {t20 : Value} {t21 : Value} {t22 : Value} {t23 : Value} {t24 : Value} {t25 : Value} {t26 : Value} {t27 : Value} {t28 : Value} {t29 : Value} {t30 : Value} {t31 : Value} {t32 : Value} {t33 : Value} {t34 : Value} {t35 : Value} {t36 : Value} {t37 : Value} {t38 : Value} {t39 : Value} {t40 : Value} {t41 : Value} {t42 : Value} {t43 : Value} {H : Heap} (I : Nat → Bool → Int → Heap → Prop) (n : Nat) (h0 : I n t6 t7 H)
    (hstep : ∀ (n : Nat) (t6 : Bool) (t7 : Int) (ys : Fr) (H : Heap), I n t6 t7 H →
    (
 AS.asAddr (.pointer t0) fun i1 i2 =>
 ∃ a3 i4, H.cell i1 (i2 + 1) = some (.slice a3 i4 0) ∧
 inB t5 i4 ∧
 asRow a3 fun i5 i6 =>
 ∃ a7 i8, H.cell i5 ((i6 + (t5.toNat * 2)) + 1) = some (.slice a7 i8 0) ∧
 bif (decide (t7 < ((i8 : Nat) : Int))) then (
 bif t6 then (
 ∃ k9, k9 < n ∧
 I k9 true (IntKind.i64.wrap (t7 + 1)) H)
 else (
 AS.asAddr (.pointer t0) fun i10 i11 =>
 ∃ a12 i13, H.cell i10 (i11 + 1) = some (.slice a12 i13 0) ∧
 inB t5 i13 ∧
 asRow a12 fun i14 i15 =>
 ∃ a16 i17, H.cell i14 ((i15 + (t5.toNat * 2)) + 1) = some (.slice a16 i17 0) ∧
 inB t7 i17 ∧
 asRow a16 fun i18 i19 =>
 ∃ b20, H.cell i18 (i19 + (t7.toNat * 1)) = some (.bool b20) ∧
 ∃ k21, k21 < n ∧
 I k21 b20 (IntKind.i64.wrap (t7 + 1)) H))
 else (
 K0 [(.pointer t0), undef, (.slice none 0 0), (.slice t3 t3l 0), (.slice t4 t4l 0), (.int .i64 t5), (.bool t6), (.int .i64 t7), (.int .i64 t8), (.pointer t9), (.pointer (some ⟨t10, t10o, none⟩)), (.pointer (some ⟨t11, t11o, none⟩)), (.slice t12 t12l 0), (.int .i64 t13), (.bool true), t15, t16, (.int .i64 t7), (.pointer t0), (.pointer (some ⟨i1, i2, none⟩)), (.pointer (some ⟨i1, (i2 + 1), none⟩)), (.slice a3 i4 0), (.int .i64 t5), (.pointer (some ⟨i5, (i6 + (t5.toNat * 2)), none⟩)), (.pointer (some ⟨i5, ((i6 + (t5.toNat * 2)) + 1), none⟩)), (.slice a7 i8 0), (.int .i64 ((i8 : Nat) : Int)), (.bool false), (ys.getD 28 undef), (ys.getD 29 undef), (ys.getD 30 undef), (ys.getD 31 undef), (ys.getD 32 undef), (ys.getD 33 undef), (ys.getD 34 undef), (ys.getD 35 undef), (ys.getD 36 undef), (ys.getD 37 undef), (ys.getD 38 undef), (ys.getD 39 undef), (ys.getD 40 undef), (ys.getD 41 undef), (ys.getD 42 undef), (ys.getD 43 undef), t44, t45, t46, t47, t48, t49, t50, t51, t52, t53, t54, t55, t56, t57, t58, t59, t60, t61, t62, t63, t64, t65, t66, t67, t68, t69, t70, t71, t72, t73, t74, t75, t76, t77, t78, t79, undef, undef, undef, undef, undef] H))) :
    LA en L_crossbarref09_Grace_swept_1 [(.pointer t0), undef, (.slice none 0 0), (.slice t3 t3l 0), (.slice t4 t4l 0), (.int .i64 t5), (.bool t6), (.int .i64 t7), (.int .i64 t8), (.pointer t9), (.pointer (some ⟨t10, t10o, none⟩)), (.pointer (some ⟨t11, t11o, none⟩)), (.slice t12 t12l 0), (.int .i64 t13), (.bool true), t15, t16, t17, t18, t19, t20, t21, t22, t23, t24, t25, t26, t27, t28, t29, t30, t31, t32, t33, t34, t35, t36, t37, t38, t39, t40, t41, t42, t43, t44, t45, t46, t47, t48, t49, t50, t51, t52, t53, t54, t55, t56, t57, t58, t59, t60, t61, t62, t63, t64, t65, t66, t67, t68, t69, t70, t71, t72, t73, t74, t75, t76, t77, t78, t79, undef, undef, undef, undef, undef] H [(X.exit 2, K0)] := by
  refine LA_rule (Z := []) (fun m xs H' => AS.asBool (xs.getD 6 undef) fun t6 => AS.asInt .i64 (xs.getD 7 undef) fun t7 => I m t6 t7 H') ?_ n H ?_
  · intro n H
    suffices hs : ∀ s17 : Value, ∀ s18 : Value, ∀ s19 : Value, ∀ s20 : Value, ∀ s21 : Value, ∀ s22 : Value, ∀ s23 : Value, ∀ s24 : Value, ∀ s25 : Value, ∀ s26 : Value, ∀ s27 : Value, ∀ s30 : Value, ∀ s31 : Value, ∀ s32 : Value, ∀ s33 : Value, ∀ s34 : Value, ∀ s35 : Value, ∀ s36 : Value, ∀ s37 : Value, ∀ s38 : Value, ∀ s39 : Value, ∀ s40 : Value, ∀ s41 : Value, ∀ s42 : Value, ∀ s43 : Value, ∀ s6 : Value, ∀ s28 : Value, ∀ s29 : Value, ∀ s7 : Value, ((AS.asBool s6 fun t6 => AS.asInt .i64 s7 fun t7 => I n t6 t7 H) → wpCode en L_crossbarref09_Grace_swept_1 [] [(.pointer t0), undef, (.slice none 0 0), (.slice t3 t3l 0), (.slice t4 t4l 0), (.int .i64 t5), s6, s7, (.int .i64 t8), (.pointer t9), (.pointer (some ⟨t10, t10o, none⟩)), (.pointer (some ⟨t11, t11o, none⟩)), (.slice t12 t12l 0), (.int .i64 t13), (.bool true), t15, t16, s17, s18, s19, s20, s21, s22, s23, s24, s25, s26, s27, s28, s29, s30, s31, s32, s33, s34, s35, s36, s37, s38, s39, s40, s41, s42, s43, t44, t45, t46, t47, t48, t49, t50, t51, t52, t53, t54, t55, t56, t57, t58, t59, t60, t61, t62, t63, t64, t65, t66, t67, t68, t69, t70, t71, t72, t73, t74, t75, t76, t77, t78, t79, undef, undef, undef, undef, undef] H (loopQ (fun m xs H' => AS.asBool (xs.getD 6 undef) fun t6 => AS.asInt .i64 (xs.getD 7 undef) fun t7 => I m t6 t7 H') n [(X.exit 2, K0)])) by
      apply turnInto hs
      kernel_rfl
    intro s17 s18 s19 s20 s21 s22 s23 s24 s25 s26 s27 s30 s31 s32 s33 s34 s35 s36 s37 s38 s39 s40 s41 s42 s43 s6 s28 s29 s7 hP
    replace hP := asBool_elim hP
    obtain ⟨t6, rfl, hP⟩ := hP
    replace hP := asInt_elim hP
    obtain ⟨t7, rfl, hP⟩ := hP
    apply turnInto (hstep n t6 t7 [(.pointer t0), undef, (.slice none 0 0), (.slice t3 t3l 0), (.slice t4 t4l 0), (.int .i64 t5), (.bool t6), (.int .i64 t7), (.int .i64 t8), (.pointer t9), (.pointer (some ⟨t10, t10o, none⟩)), (.pointer (some ⟨t11, t11o, none⟩)), (.slice t12 t12l 0), (.int .i64 t13), (.bool true), t15, t16, s17, s18, s19, s20, s21, s22, s23, s24, s25, s26, s27, s28, s29, s30, s31, s32, s33, s34, s35, s36, s37, s38, s39, s40, s41, s42, s43, t44, t45, t46, t47, t48, t49, t50, t51, t52, t53, t54, t55, t56, t57, t58, t59, t60, t61, t62, t63, t64, t65, t66, t67, t68, t69, t70, t71, t72, t73, t74, t75, t76, t77, t78, t79, undef, undef, undef, undef, undef] H hP)
    kernel_rfl
  · apply turnInto h0
    kernel_rfl

end Go.Proofs.Ytdkbgjhlpoibdaa
