/-
  What functions of this seat's program need (printed by a program, checked by the kernel).
-/
import Derived.Test.YtmgkngdbphkmmaaDoorNames
import Derived.Test.YtmgkngdbphkmmaaDoorAs41
namespace Go.Proofs.YtmgkngdbphkmmaaDoor
open Go Go.AS Go.RowKit
set_option linter.unusedVariables false
set_option maxRecDepth 100000

/-! insn_Get -/
noncomputable def L_insn_Get_0 : Code := loopAt Go.Proofs.Tryd.f20 0

theorem vc_insn_Get (x0 : Option Addr) (x0l : Nat) (H : Heap) (R : Value → Heap → Prop) :
    (
 LA en L_insn_Get_0 [(.slice x0 x0l 0), undef, (.slice none 0 0), (.int .i64 0), (.slice none 0 0), undef, undef, undef, undef, undef, undef, undef, undef, undef, undef, undef, undef, undef, undef, undef, undef, undef, undef, undef, undef, undef, undef, undef, undef, undef, undef] H [(X.exit 0, fun (y1 : Fr) (H2 : Heap) =>
 asSl (y1.getD 2 undef) fun a3 i4 =>
 AS.asInt .i64 (y1.getD 3 undef) fun n5 =>
 asSl (y1.getD 4 undef) fun a6 i7 =>
 R (.tuple #[(.slice a6 i7 0), (.int .i64 0)]) H2),
 (X.ret, fun (y8 : Fr) (H9 : Heap) =>
 asSl (y8.getD 2 undef) fun a10 i11 =>
 AS.asInt .i64 (y8.getD 3 undef) fun n12 =>
 asSl (y8.getD 4 undef) fun a13 i14 =>
 R (.tuple #[(.slice a10 i11 0), (.int .i64 n12)]) H9)]) →
    CA en F.insn_Get [(.slice x0 x0l 0)] H R := by
  intro h
  refine wpFn_ok (Z := [[(2, (.slice none 0 0)), (3, (.int .i64 0)), (4, (.slice none 0 0))]]) (fn := Go.Proofs.Tryd.f20) ?_ ?_ ?_
  · kernel_rfl
  · kernel_rfl
  · apply turnInto h
    kernel_rfl

theorem use_insn_Get_0 {K0 : Fr → Heap → Prop} {K1 : Fr → Heap → Prop} {t0 : Option Addr} {t0l : Nat} {t2 : Option Addr} {t2l : Nat} {t3 : Int} {t4 : Option Addr} {t4l : Nat} {t5 : Value} {t6 : Value} {t7 : Value} {t8 : Value} {t9 : Value} {t10 : Value} {t11 : Value} {t12 : Value} {t13 : Value} {t14 : Value} {t15 : Value} {t16 : Value} {t17 : Value} {t18 : Value} {t19 : Value} {t20 : Value} {t21 : Value} {t22 : Value} {t23 : Value} {t24 : Value} {t25 : Value} {t26 : Value} {t27 : Value} {t28 : Value} {t29 : Value} {H : Heap} (I : Nat → Option Addr → Nat → Option Addr → Nat → Int → Option Addr → Nat → Heap → Prop) (n : Nat) (h0 : I n t0 t0l t2 t2l t3 t4 t4l H)
    (hstep : ∀ (n : Nat) (t0 : Option Addr) (t0l : Nat) (t2 : Option Addr) (t2l : Nat) (t3 : Int) (t4 : Option Addr) (t4l : Nat) (ys : Fr) (H : Heap), I n t0 t0l t2 t2l t3 t4 t4l H →
    (
 bif (decide (((t0l : Nat) : Int) > 0)) then (
 bif (((t4l : Nat) : Int) == 256) then (
 K1 [(.slice t0 t0l 0), undef, (.slice none 0 0), (.int .i64 19), (.slice t4 t4l 0), (ys.getD 5 undef), (ys.getD 6 undef), (ys.getD 7 undef), (.slice t0 t0l 0), (.int .i64 ((t0l : Nat) : Int)), (.bool true), (.slice t4 t4l 0), (.int .i64 ((t4l : Nat) : Int)), (.bool true), (ys.getD 14 undef), (ys.getD 15 undef), (ys.getD 16 undef), (ys.getD 17 undef), (ys.getD 18 undef), (ys.getD 19 undef), (ys.getD 20 undef), (ys.getD 21 undef), (ys.getD 22 undef), (ys.getD 23 undef), (ys.getD 24 undef), (ys.getD 25 undef), (ys.getD 26 undef), (ys.getD 27 undef), (ys.getD 28 undef), (ys.getD 29 undef), undef] H)
 else (
 CA en F.insn_one [(.slice t0 t0l 0)] H fun v1 H2 =>
 ∃ n3, ∃ n4, ∃ n5, ∃ n6, ∃ n7, ∃ n8, ∃ n9, v1 = (.tuple #[(.agg #[(.int .i64 n3), (.int .i64 n4), (.int .i64 n5), (.int .i64 n6), (.int .i64 n7)]), (.int .i64 n8), (.int .i64 n9)]) ∧
 nwH H2 (.cells true 0 [(.int .i64 0), (.int .i64 0), (.int .i64 0), (.int .i64 0), (.int .i64 0)]) fun i10 H11 =>
 stc H11 i10 0 [(.int .i64 n3), (.int .i64 n4), (.int .i64 n5), (.int .i64 n6), (.int .i64 n7)] fun H12 =>
 bif (n9 != 0) then (
 K1 [(.slice t0 t0l 0), undef, (.slice none 0 0), (.int .i64 n9), (.slice t4 t4l 0), (.pointer (some ⟨i10, 0, none⟩)), (.int .i64 n8), (.int .i64 n9), (.slice t0 t0l 0), (.int .i64 ((t0l : Nat) : Int)), (.bool true), (.slice t4 t4l 0), (.int .i64 ((t4l : Nat) : Int)), (.bool false), (.tuple #[(.agg #[(.int .i64 n3), (.int .i64 n4), (.int .i64 n5), (.int .i64 n6), (.int .i64 n7)]), (.int .i64 n8), (.int .i64 n9)]), (.slice t0 t0l 0), (.tuple #[(.agg #[(.int .i64 n3), (.int .i64 n4), (.int .i64 n5), (.int .i64 n6), (.int .i64 n7)]), (.int .i64 n8), (.int .i64 n9)]), (.agg #[(.int .i64 n3), (.int .i64 n4), (.int .i64 n5), (.int .i64 n6), (.int .i64 n7)]), (.int .i64 n8), (.int .i64 n9), (.int .i64 n9), (.bool true), (.int .i64 n9), (ys.getD 23 undef), (ys.getD 24 undef), (ys.getD 25 undef), (ys.getD 26 undef), (ys.getD 27 undef), (ys.getD 28 undef), (ys.getD 29 undef), undef] H12)
 else (
 ∃ n13, ∃ n14, ∃ n15, ∃ n16, ∃ n17, (H12.bump 9).cellsAt i10 0 5 = some [(.int .i64 n13), (.int .i64 n14), (.int .i64 n15), (.int .i64 n16), (.int .i64 n17)] ∧
 nwH (H12.bump 9) (.cells true 5 [(.int .i64 n13), (.int .i64 n14), (.int .i64 n15), (.int .i64 n16), (.int .i64 n17)]) fun i18 H19 =>
 ∃ l20, rowOf H19 5 (some ⟨i18, 0, none⟩) 1 = some l20 ∧
 apd H19 40 5 t4 t4l 1 l20 fun a21 i22 H23 =>
 inS n8 t0l ∧
 slK H23 t0 1 n8.toNat (t0l - n8.toNat) fun v24 =>
 (
 ∃ k28, k28 < n ∧
 asSl v24 fun a29 i30 =>
 I k28 a29 i30 t2 t2l t3 a21 i22 H23) ∧
 ((inS n8 t0l ∧
 slK (H12.bump 9) t0 1 n8.toNat (t0l - n8.toNat) fun v27 =>
 sameP v24 v27) ∧ (inS n8 t0l ∧
 slK H19 t0 1 n8.toNat (t0l - n8.toNat) fun v26 =>
 sameP v24 v26) ∧ (inS n8 t0l ∧
 slK H23 t0 1 n8.toNat (t0l - n8.toNat) fun v25 =>
 sameP v24 v25) ∧ True) ∧
 True)))
 else (
 K0 [(.slice t0 t0l 0), undef, (.slice t2 t2l 0), (.int .i64 t3), (.slice t4 t4l 0), (ys.getD 5 undef), (ys.getD 6 undef), (ys.getD 7 undef), (.slice t0 t0l 0), (.int .i64 ((t0l : Nat) : Int)), (.bool false), (ys.getD 11 undef), (ys.getD 12 undef), (ys.getD 13 undef), (ys.getD 14 undef), (ys.getD 15 undef), (ys.getD 16 undef), (ys.getD 17 undef), (ys.getD 18 undef), (ys.getD 19 undef), (ys.getD 20 undef), (ys.getD 21 undef), (ys.getD 22 undef), (ys.getD 23 undef), (ys.getD 24 undef), (ys.getD 25 undef), (ys.getD 26 undef), (ys.getD 27 undef), (ys.getD 28 undef), (ys.getD 29 undef), undef] H))) :
    LA en L_insn_Get_0 [(.slice t0 t0l 0), undef, (.slice t2 t2l 0), (.int .i64 t3), (.slice t4 t4l 0), t5, t6, t7, t8, t9, t10, t11, t12, t13, t14, t15, t16, t17, t18, t19, t20, t21, t22, t23, t24, t25, t26, t27, t28, t29, undef] H [(X.exit 0, K0), (X.ret, K1)] := by
  refine LA_rule (Z := []) (fun m xs H' => asSl (xs.getD 0 undef) fun t0 t0l => asSl (xs.getD 2 undef) fun t2 t2l => AS.asInt .i64 (xs.getD 3 undef) fun t3 => asSl (xs.getD 4 undef) fun t4 t4l => I m t0 t0l t2 t2l t3 t4 t4l H') ?_ n H ?_
  · intro n H
    suffices hs : ∀ s8 : Value, ∀ s9 : Value, ∀ s10 : Value, ∀ s11 : Value, ∀ s12 : Value, ∀ s13 : Value, ∀ s2 : Value, ∀ s3 : Value, ∀ s15 : Value, ∀ s16 : Value, ∀ s14 : Value, ∀ s17 : Value, ∀ s18 : Value, ∀ s19 : Value, ∀ s5 : Value, ∀ s6 : Value, ∀ s7 : Value, ∀ s20 : Value, ∀ s21 : Value, ∀ s22 : Value, ∀ s23 : Value, ∀ s24 : Value, ∀ s25 : Value, ∀ s26 : Value, ∀ s27 : Value, ∀ s28 : Value, ∀ s29 : Value, ∀ s4 : Value, ∀ s0 : Value, ((asSl s0 fun t0 t0l => asSl s2 fun t2 t2l => AS.asInt .i64 s3 fun t3 => asSl s4 fun t4 t4l => I n t0 t0l t2 t2l t3 t4 t4l H) → wpCode en L_insn_Get_0 [] [s0, undef, s2, s3, s4, s5, s6, s7, s8, s9, s10, s11, s12, s13, s14, s15, s16, s17, s18, s19, s20, s21, s22, s23, s24, s25, s26, s27, s28, s29, undef] H (loopQ (fun m xs H' => asSl (xs.getD 0 undef) fun t0 t0l => asSl (xs.getD 2 undef) fun t2 t2l => AS.asInt .i64 (xs.getD 3 undef) fun t3 => asSl (xs.getD 4 undef) fun t4 t4l => I m t0 t0l t2 t2l t3 t4 t4l H') n [(X.exit 0, K0), (X.ret, K1)])) by
      apply turnInto hs
      kernel_rfl
    intro s8 s9 s10 s11 s12 s13 s2 s3 s15 s16 s14 s17 s18 s19 s5 s6 s7 s20 s21 s22 s23 s24 s25 s26 s27 s28 s29 s4 s0 hP
    replace hP := asSl_elim hP
    obtain ⟨t0, t0l, rfl, hP⟩ := hP
    replace hP := asSl_elim hP
    obtain ⟨t2, t2l, rfl, hP⟩ := hP
    replace hP := asInt_elim hP
    obtain ⟨t3, rfl, hP⟩ := hP
    replace hP := asSl_elim hP
    obtain ⟨t4, t4l, rfl, hP⟩ := hP
    apply turnInto (hstep n t0 t0l t2 t2l t3 t4 t4l [(.slice t0 t0l 0), undef, (.slice t2 t2l 0), (.int .i64 t3), (.slice t4 t4l 0), s5, s6, s7, s8, s9, s10, s11, s12, s13, s14, s15, s16, s17, s18, s19, s20, s21, s22, s23, s24, s25, s26, s27, s28, s29, undef] H hP)
    kernel_rfl
  · apply turnInto h0
    kernel_rfl

end Go.Proofs.YtmgkngdbphkmmaaDoor
