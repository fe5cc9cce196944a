/-
  What functions of this seat's program need (printed by a program, checked by the kernel).
-/
import Derived.Test.YtdkbgjhlpoibdaaNames
import Derived.Test.YtdkbgjhlpoibdaaAs41
namespace Go.Proofs.Ytdkbgjhlpoibdaa
open Go Go.AS Go.RowKit
set_option linter.unusedVariables false
set_option maxRecDepth 100000

/-! crossbarkit_Pick -/

theorem vc_crossbarkit_Pick (x0 : Int) (x1 : Int) (H : Heap) (R : Value → Heap → Prop) :
    (
 bif (decide (x1 < 1)) then (
 R (.int .i64 0) H)
 else (
 nz x1 ∧
 bif (decide ((Int.tmod x0 x1) < 0)) then (
 R (.int .i64 (IntKind.i64.wrap ((Int.tmod x0 x1) + x1))) H)
 else (
 R (.int .i64 (Int.tmod x0 x1)) H))) →
    CA en F.crossbarkit_Pick [(.int .i64 x0), (.int .i64 x1)] H R := by
  intro h
  refine wpFn_ok (Z := []) (fn := Go.Proofs.Try.f17) ?_ ?_ ?_
  · kernel_rfl
  · kernel_rfl
  · apply turnInto h
    kernel_rfl


/-! crossbarkit_SameInts -/
noncomputable def L_crossbarkit_SameInts_0 : Code := loopAt Go.Proofs.Try.f21 0

theorem vc_crossbarkit_SameInts (x0 : Option Addr) (x0l : Nat) (x1 : Option Addr) (x1l : Nat) (H : Heap) (R : Value → Heap → Prop) :
    (
 bif (((x0l : Nat) : Int) != ((x1l : Nat) : Int)) then (
 R (.bool false) H)
 else (
 LA en L_crossbarkit_SameInts_0 [(.slice x0 x0l 0), (.slice x1 x1l 0), undef, undef, (.bool false), (.int .i64 0), (.slice x0 x0l 0), (.int .i64 ((x0l : Nat) : Int)), (.slice x1 x1l 0), (.int .i64 ((x1l : Nat) : Int)), (.bool false), undef, undef, undef, undef, undef, undef, undef, undef, undef, undef, undef, undef, undef, undef, undef] H [(X.exit 0, fun (x1 : Fr) (H2 : Heap) =>
 AS.asBool (x1.getD 4 undef) fun b3 =>
 R (.bool true) H2),
 (X.ret, fun (x4 : Fr) (H5 : Heap) =>
 AS.asBool (x4.getD 4 undef) fun b6 =>
 R (.bool b6) H5)])) →
    CA en F.crossbarkit_SameInts [(.slice x0 x0l 0), (.slice x1 x1l 0)] H R := by
  intro h
  refine wpFn_ok (Z := [[(4, (.bool false))]]) (fn := Go.Proofs.Try.f21) ?_ ?_ ?_
  · kernel_rfl
  · kernel_rfl
  · apply turnInto h
    kernel_rfl

/-! crossbarkit_SpoilInts -/
noncomputable def L_crossbarkit_SpoilInts_0 : Code := loopAt Go.Proofs.Try.f25 0

theorem vc_crossbarkit_SpoilInts (x0 : Option Addr) (x0l : Nat) (H : Heap) (R : Value → Heap → Prop) :
    (
 LA en L_crossbarkit_SpoilInts_0 [(.slice x0 x0l 0), undef, (.int .i64 0), undef, undef, undef, undef, undef, undef, undef, undef, undef, undef, undef, undef] H [(X.exit 0, fun (x1 : Fr) (H2 : Heap) =>
 R undef H2)]) →
    CA en F.crossbarkit_SpoilInts [(.slice x0 x0l 0)] H R := by
  intro h
  refine wpFn_ok (Z := [[]]) (fn := Go.Proofs.Try.f25) ?_ ?_ ?_
  · kernel_rfl
  · kernel_rfl
  · apply turnInto h
    kernel_rfl

theorem use_crossbarkit_SpoilInts_0 {t0 : Option Addr} {t0l : Nat} {K0 : Fr → Heap → Prop} {t2 : Int} {t3 : Value} {t4 : Value} {t5 : Value} {t6 : Value} {t7 : Value} {t8 : Value} {t9 : Value} {t10 : Value} {t11 : Value} {t12 : Value} {t13 : Value} {t14 : Value} {H : Heap} (I : Nat → Int → Heap → Prop) (n : Nat) (h0 : I n t2 H)
    (hstep : ∀ (n : Nat) (t2 : Int) (ys : Fr) (H : Heap), I n t2 H →
    (
 bif (decide (t2 < ((t0l : Nat) : Int))) then (
 CA en F.crossbarkit_markInts [(.int .i64 (IntKind.i64.wrap (t2 + 7)))] H fun v1 H2 =>
 ∃ n3, v1 = (.int .i64 n3) ∧
 inB t2 t0l ∧
 asRow t0 fun i4 i5 =>
 stc H2 i4 (i5 + (t2.toNat * 1)) [(.int .i64 n3)] fun H6 =>
 ∃ k7, k7 < n ∧
 I k7 (IntKind.i64.wrap (t2 + 1)) H6)
 else (
 K0 [(.slice t0 t0l 0), undef, (.int .i64 t2), (.int .i64 t2), (.slice t0 t0l 0), (.int .i64 ((t0l : Nat) : Int)), (.bool false), (ys.getD 7 undef), (ys.getD 8 undef), (ys.getD 9 undef), (ys.getD 10 undef), (ys.getD 11 undef), (ys.getD 12 undef), (ys.getD 13 undef), (ys.getD 14 undef)] H))) :
    LA en L_crossbarkit_SpoilInts_0 [(.slice t0 t0l 0), undef, (.int .i64 t2), t3, t4, t5, t6, t7, t8, t9, t10, t11, t12, t13, t14] H [(X.exit 0, K0)] := by
  refine LA_rule (Z := []) (fun m xs H' => AS.asInt .i64 (xs.getD 2 undef) fun t2 => I m t2 H') ?_ n H ?_
  · intro n H
    suffices hs : ∀ s3 : Value, ∀ s4 : Value, ∀ s5 : Value, ∀ s6 : Value, ∀ s9 : Value, ∀ s10 : Value, ∀ s11 : Value, ∀ s12 : Value, ∀ s13 : Value, ∀ s14 : Value, ∀ s7 : Value, ∀ s8 : Value, ∀ s2 : Value, ((AS.asInt .i64 s2 fun t2 => I n t2 H) → wpCode en L_crossbarkit_SpoilInts_0 [] [(.slice t0 t0l 0), undef, s2, s3, s4, s5, s6, s7, s8, s9, s10, s11, s12, s13, s14] H (loopQ (fun m xs H' => AS.asInt .i64 (xs.getD 2 undef) fun t2 => I m t2 H') n [(X.exit 0, K0)])) by
      apply turnInto hs
      kernel_rfl
    intro s3 s4 s5 s6 s9 s10 s11 s12 s13 s14 s7 s8 s2 hP
    replace hP := asInt_elim hP
    obtain ⟨t2, rfl, hP⟩ := hP
    apply turnInto (hstep n t2 [(.slice t0 t0l 0), undef, (.int .i64 t2), s3, s4, s5, s6, s7, s8, s9, s10, s11, s12, s13, s14] H hP)
    kernel_rfl
  · apply turnInto h0
    kernel_rfl


/-! crossbarkit_SameWords -/
noncomputable def L_crossbarkit_SameWords_0 : Code := loopAt Go.Proofs.Try.f42 0

theorem vc_crossbarkit_SameWords (x0 : Option Addr) (x0l : Nat) (x1 : Option Addr) (x1l : Nat) (H : Heap) (R : Value → Heap → Prop) :
    (
 bif (((x0l : Nat) : Int) != ((x1l : Nat) : Int)) then (
 R (.bool false) H)
 else (
 LA en L_crossbarkit_SameWords_0 [(.slice x0 x0l 0), (.slice x1 x1l 0), undef, undef, (.bool false), (.int .i64 0), (.slice x0 x0l 0), (.int .i64 ((x0l : Nat) : Int)), (.slice x1 x1l 0), (.int .i64 ((x1l : Nat) : Int)), (.bool false), undef, undef, undef, undef, undef, undef, undef, undef, undef, undef, undef, undef, undef, undef, undef] H [(X.exit 0, fun (x1 : Fr) (H2 : Heap) =>
 AS.asBool (x1.getD 4 undef) fun b3 =>
 R (.bool true) H2),
 (X.ret, fun (x4 : Fr) (H5 : Heap) =>
 AS.asBool (x4.getD 4 undef) fun b6 =>
 R (.bool b6) H5)])) →
    CA en F.crossbarkit_SameWords [(.slice x0 x0l 0), (.slice x1 x1l 0)] H R := by
  intro h
  refine wpFn_ok (Z := [[(4, (.bool false))]]) (fn := Go.Proofs.Try.f42) ?_ ?_ ?_
  · kernel_rfl
  · kernel_rfl
  · apply turnInto h
    kernel_rfl

theorem use_crossbarkit_SameWords_0 {t0 : Option Addr} {t0l : Nat} {t1 : Option Addr} {t1l : Nat} {t6 : Option Addr} {t6l : Nat} {t7 : Int} {t8 : Option Addr} {t8l : Nat} {t9 : Int} {K0 : Fr → Heap → Prop} {K1 : Fr → Heap → Prop} {t4 : Bool} {t5 : Int} {t11 : Value} {t12 : Value} {t13 : Value} {t14 : Value} {t15 : Value} {t16 : Value} {t17 : Value} {t18 : Value} {t19 : Value} {t20 : Value} {t21 : Value} {t22 : Value} {t23 : Value} {t24 : Value} {t25 : Value} {H : Heap} (I : Nat → Bool → Int → Heap → Prop) (n : Nat) (h0 : I n t4 t5 H)
    (hstep : ∀ (n : Nat) (t4 : Bool) (t5 : Int) (ys : Fr) (H : Heap), I n t4 t5 H →
    (
 bif (decide (t5 < ((t0l : Nat) : Int))) then (
 inB t5 t0l ∧
 asRow t0 fun i1 i2 =>
 ∃ n3, (H.bump 9).cell i1 (i2 + (t5.toNat * 1)) = some (.int .u64 n3) ∧
 inB t5 t1l ∧
 asRow t1 fun i4 i5 =>
 ∃ n6, (H.bump 9).cell i4 (i5 + (t5.toNat * 1)) = some (.int .u64 n6) ∧
 (
 bif (n3 != n6) then (
 K1 [(.slice t0 t0l 0), (.slice t1 t1l 0), undef, undef, (.bool false), (.int .i64 t5), (.slice t6 t6l 0), (.int .i64 t7), (.slice t8 t8l 0), (.int .i64 t9), (.bool false), (.int .i64 t5), (.slice t0 t0l 0), (.int .i64 ((t0l : Nat) : Int)), (.bool true), (ys.getD 15 undef), (ys.getD 16 undef), (.slice t0 t0l 0), (.int .i64 t5), (.pointer (some ⟨i1, (i2 + (t5.toNat * 1)), none⟩)), (.int .u64 n3), (.slice t1 t1l 0), (.int .i64 t5), (.pointer (some ⟨i4, (i5 + (t5.toNat * 1)), none⟩)), (.int .u64 n6), (.bool true)] (H.bump 9))
 else (
 ∃ k7, k7 < n ∧
 I k7 t4 (IntKind.i64.wrap (t5 + 1)) (H.bump 9))) ∧
 True)
 else (
 K0 [(.slice t0 t0l 0), (.slice t1 t1l 0), undef, undef, (.bool t4), (.int .i64 t5), (.slice t6 t6l 0), (.int .i64 t7), (.slice t8 t8l 0), (.int .i64 t9), (.bool false), (.int .i64 t5), (.slice t0 t0l 0), (.int .i64 ((t0l : Nat) : Int)), (.bool false), (ys.getD 15 undef), (ys.getD 16 undef), (ys.getD 17 undef), (ys.getD 18 undef), (ys.getD 19 undef), (ys.getD 20 undef), (ys.getD 21 undef), (ys.getD 22 undef), (ys.getD 23 undef), (ys.getD 24 undef), (ys.getD 25 undef)] H))) :
    LA en L_crossbarkit_SameWords_0 [(.slice t0 t0l 0), (.slice t1 t1l 0), undef, undef, (.bool t4), (.int .i64 t5), (.slice t6 t6l 0), (.int .i64 t7), (.slice t8 t8l 0), (.int .i64 t9), (.bool false), t11, t12, t13, t14, t15, t16, t17, t18, t19, t20, t21, t22, t23, t24, t25] H [(X.exit 0, K0), (X.ret, K1)] := by
  refine LA_rule (Z := []) (fun m xs H' => AS.asBool (xs.getD 4 undef) fun t4 => AS.asInt .i64 (xs.getD 5 undef) fun t5 => I m t4 t5 H') ?_ n H ?_
  · intro n H
    suffices hs : ∀ s11 : Value, ∀ s12 : Value, ∀ s13 : Value, ∀ s14 : Value, ∀ s17 : Value, ∀ s18 : Value, ∀ s19 : Value, ∀ s20 : Value, ∀ s21 : Value, ∀ s22 : Value, ∀ s23 : Value, ∀ s24 : Value, ∀ s25 : Value, ∀ s4 : Value, ∀ s15 : Value, ∀ s16 : Value, ∀ s5 : Value, ((AS.asBool s4 fun t4 => AS.asInt .i64 s5 fun t5 => I n t4 t5 H) → wpCode en L_crossbarkit_SameWords_0 [] [(.slice t0 t0l 0), (.slice t1 t1l 0), undef, undef, s4, s5, (.slice t6 t6l 0), (.int .i64 t7), (.slice t8 t8l 0), (.int .i64 t9), (.bool false), s11, s12, s13, s14, s15, s16, s17, s18, s19, s20, s21, s22, s23, s24, s25] H (loopQ (fun m xs H' => AS.asBool (xs.getD 4 undef) fun t4 => AS.asInt .i64 (xs.getD 5 undef) fun t5 => I m t4 t5 H') n [(X.exit 0, K0), (X.ret, K1)])) by
      apply turnInto hs
      kernel_rfl
    intro s11 s12 s13 s14 s17 s18 s19 s20 s21 s22 s23 s24 s25 s4 s15 s16 s5 hP
    replace hP := asBool_elim hP
    obtain ⟨t4, rfl, hP⟩ := hP
    replace hP := asInt_elim hP
    obtain ⟨t5, rfl, hP⟩ := hP
    apply turnInto (hstep n t4 t5 [(.slice t0 t0l 0), (.slice t1 t1l 0), undef, undef, (.bool t4), (.int .i64 t5), (.slice t6 t6l 0), (.int .i64 t7), (.slice t8 t8l 0), (.int .i64 t9), (.bool false), s11, s12, s13, s14, s15, s16, s17, s18, s19, s20, s21, s22, s23, s24, s25] H hP)
    kernel_rfl
  · apply turnInto h0
    kernel_rfl


/-! crossbarkit_Cut -/

theorem vc_crossbarkit_Cut (x0 : Int) (x1 : Int) (x2 : Int) (H : Heap) (R : Value → Heap → Prop) :
    (
 R (.int .i64 (if (if x2 < x0 then x2 else x0) > x1 then (if x2 < x0 then x2 else x0) else x1)) H) →
    CA en F.crossbarkit_Cut [(.int .i64 x0), (.int .i64 x1), (.int .i64 x2)] H R := by
  intro h
  refine wpFn_ok (Z := []) (fn := Go.Proofs.Try.f52) ?_ ?_ ?_
  · kernel_rfl
  · kernel_rfl
  · apply turnInto h
    kernel_rfl


/-! crossbarkit_markInts -/

theorem vc_crossbarkit_markInts (x0 : Int) (H : Heap) (R : Value → Heap → Prop) :
    (
 R (.int .i64 (IntKind.i64.wrap (7001 + (IntKind.i64.wrap (13 * x0))))) H) →
    CA en F.crossbarkit_markInts [(.int .i64 x0)] H R := by
  intro h
  refine wpFn_ok (Z := []) (fn := Go.Proofs.Try.f58) ?_ ?_ ?_
  · kernel_rfl
  · kernel_rfl
  · apply turnInto h
    kernel_rfl

end Go.Proofs.Ytdkbgjhlpoibdaa
