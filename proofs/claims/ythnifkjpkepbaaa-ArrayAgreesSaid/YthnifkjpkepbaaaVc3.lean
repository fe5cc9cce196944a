/-
  What functions of this seat's program need (printed by a program, checked by the kernel).
-/
import Derived.Test.YthnifkjpkepbaaaNames
import Derived.Test.YthnifkjpkepbaaaAs41
namespace Go.Proofs.Ythnifkjpkepbaaa
open Go Go.AS Go.RowKit
set_option linter.unusedVariables false
set_option maxRecDepth 100000
set_option maxHeartbeats 2000000

/-! crossbarref07_Check -/
noncomputable def L_crossbarref07_Check_0 : Code := loopAt Go.Proofs.Try.f58 0

theorem vc_crossbarref07_Check (x0 : Option Addr) (x0l : Nat) (H : Heap) (R : Value → Heap → Prop) :
    (
 bif (decide (((x0l : Nat) : Int) > 10)) then (
 R (.int .i64 19) H)
 else (
 LA en L_crossbarref07_Check_0 [(.slice x0 x0l 0), undef, (.int .i64 0), (.int .i64 0), undef, (.slice x0 x0l 0), (.int .i64 ((x0l : Nat) : Int)), (.bool false), undef, undef, undef, undef, undef, undef, undef, undef, undef, undef, undef, undef, undef, undef, undef] H [(X.exit 0, fun (y1 : Fr) (H2 : Heap) =>
 AS.asInt .i64 (y1.getD 2 undef) fun n3 =>
 R (.int .i64 0) H2),
 (X.ret, fun (y4 : Fr) (H5 : Heap) =>
 AS.asInt .i64 (y4.getD 2 undef) fun n6 =>
 R (.int .i64 n6) H5)])) →
    CA en F.crossbarref07_Check [(.slice x0 x0l 0)] H R := by
  intro h
  refine wpFn_ok (Z := [[(2, (.int .i64 0))]]) (fn := Go.Proofs.Try.f58) ?_ ?_ ?_
  · kernel_rfl
  · kernel_rfl
  · apply turnInto h
    kernel_rfl

theorem use_crossbarref07_Check_0 {t0 : Option Addr} {t0l : Nat} {t5 : Option Addr} {t5l : Nat} {t6 : Int} {K0 : Fr → Heap → Prop} {K1 : Fr → Heap → Prop} {t2 : Int} {t3 : Int} {t4 : Value} {t8 : Value} {t9 : Value} {t10 : Value} {t11 : Value} {t12 : Value} {t13 : Value} {t14 : Value} {t15 : Value} {t16 : Value} {t17 : Value} {t18 : Value} {t19 : Value} {t20 : Value} {t21 : Value} {t22 : Value} {H : Heap} (I : Nat → Int → Int → Heap → Prop) (n : Nat) (h0 : I n t2 t3 H)
    (hstep : ∀ (n : Nat) (t2 : Int) (t3 : Int) (ys : Fr) (H : Heap), I n t2 t3 H →
    (
 bif (decide (t3 < ((t0l : Nat) : Int))) then (
 inB t3 t0l ∧
 asRow t0 fun i1 i2 =>
 ∃ n3, ∃ n4, ∃ n5, ∃ n6, ∃ n7, H.cellsAt i1 (i2 + (t3.toNat * 5)) 5 = some [(.int .i64 n3), (.int .i64 n4), (.int .i64 n5), (.int .i64 n6), (.int .i64 n7)] ∧
 CA en F.crossbarref07_one [(.slice t0 t0l 0), (.agg #[(.int .i64 n3), (.int .i64 n4), (.int .i64 n5), (.int .i64 n6), (.int .i64 n7)])] H fun v8 H9 =>
 ∃ n10, v8 = (.int .i64 n10) ∧
 bif (n10 != 0) then (
 K1 [(.slice t0 t0l 0), undef, (.int .i64 n10), (.int .i64 t3), (.int .i64 n10), (.slice t5 t5l 0), (.int .i64 t6), (.bool false), (.int .i64 t3), (.slice t0 t0l 0), (.int .i64 ((t0l : Nat) : Int)), (.bool true), (ys.getD 12 undef), (ys.getD 13 undef), (.slice t0 t0l 0), (.slice t0 t0l 0), (.int .i64 t3), (.pointer (some ⟨i1, (i2 + (t3.toNat * 5)), none⟩)), (.agg #[(.int .i64 n3), (.int .i64 n4), (.int .i64 n5), (.int .i64 n6), (.int .i64 n7)]), (.int .i64 n10), (.int .i64 n10), (.bool true), (.int .i64 n10)] H9)
 else (
 ∃ k11, k11 < n ∧
 I k11 t2 (IntKind.i64.wrap (t3 + 1)) H9))
 else (
 K0 [(.slice t0 t0l 0), undef, (.int .i64 t2), (.int .i64 t3), (ys.getD 4 undef), (.slice t5 t5l 0), (.int .i64 t6), (.bool false), (.int .i64 t3), (.slice t0 t0l 0), (.int .i64 ((t0l : Nat) : Int)), (.bool false), (ys.getD 12 undef), (ys.getD 13 undef), (ys.getD 14 undef), (ys.getD 15 undef), (ys.getD 16 undef), (ys.getD 17 undef), (ys.getD 18 undef), (ys.getD 19 undef), (ys.getD 20 undef), (ys.getD 21 undef), (ys.getD 22 undef)] H))) :
    LA en L_crossbarref07_Check_0 [(.slice t0 t0l 0), undef, (.int .i64 t2), (.int .i64 t3), t4, (.slice t5 t5l 0), (.int .i64 t6), (.bool false), t8, t9, t10, t11, t12, t13, t14, t15, t16, t17, t18, t19, t20, t21, t22] H [(X.exit 0, K0), (X.ret, K1)] := by
  refine LA_rule (Z := []) (fun m xs H' => AS.asInt .i64 (xs.getD 2 undef) fun t2 => AS.asInt .i64 (xs.getD 3 undef) fun t3 => I m t2 t3 H') ?_ n H ?_
  · intro n H
    suffices hs : ∀ s8 : Value, ∀ s9 : Value, ∀ s10 : Value, ∀ s11 : Value, ∀ s14 : Value, ∀ s15 : Value, ∀ s16 : Value, ∀ s17 : Value, ∀ s18 : Value, ∀ s19 : Value, ∀ s4 : Value, ∀ s20 : Value, ∀ s21 : Value, ∀ s22 : Value, ∀ s2 : Value, ∀ s12 : Value, ∀ s13 : Value, ∀ s3 : Value, ((AS.asInt .i64 s2 fun t2 => AS.asInt .i64 s3 fun t3 => I n t2 t3 H) → wpCode en L_crossbarref07_Check_0 [] [(.slice t0 t0l 0), undef, s2, s3, s4, (.slice t5 t5l 0), (.int .i64 t6), (.bool false), s8, s9, s10, s11, s12, s13, s14, s15, s16, s17, s18, s19, s20, s21, s22] H (loopQ (fun m xs H' => AS.asInt .i64 (xs.getD 2 undef) fun t2 => AS.asInt .i64 (xs.getD 3 undef) fun t3 => I m t2 t3 H') n [(X.exit 0, K0), (X.ret, K1)])) by
      apply turnInto hs
      kernel_rfl
    intro s8 s9 s10 s11 s14 s15 s16 s17 s18 s19 s4 s20 s21 s22 s2 s12 s13 s3 hP
    replace hP := asInt_elim hP
    obtain ⟨t2, rfl, hP⟩ := hP
    replace hP := asInt_elim hP
    obtain ⟨t3, rfl, hP⟩ := hP
    apply turnInto (hstep n t2 t3 [(.slice t0 t0l 0), undef, (.int .i64 t2), (.int .i64 t3), s4, (.slice t5 t5l 0), (.int .i64 t6), (.bool false), s8, s9, s10, s11, s12, s13, s14, s15, s16, s17, s18, s19, s20, s21, s22] H hP)
    kernel_rfl
  · apply turnInto h0
    kernel_rfl


/-! crossbarref07_Like -/

theorem vc_crossbarref07_Like (x0_0 : Int) (x0_1 : Int) (x0_2 : Int) (x0_3 : Int) (x0_4 : Int) (x1_0 : Int) (x1_1 : Int) (x1_2 : Int) (x1_3 : Int) (x1_4 : Int) (H : Heap) (R : Value → Heap → Prop) :
    (
 nwH H (.cells true 0 [(.int .i64 x0_0), (.int .i64 x0_1), (.int .i64 x0_2), (.int .i64 x0_3), (.int .i64 x0_4)]) fun i1 H2 =>
 nwH H2 (.cells true 0 [(.int .i64 x1_0), (.int .i64 x1_1), (.int .i64 x1_2), (.int .i64 x1_3), (.int .i64 x1_4)]) fun i3 H4 =>
 ∃ n5, H4.cell i1 0 = some (.int .i64 n5) ∧
 ∃ n6, H4.cell i3 0 = some (.int .i64 n6) ∧
 bif (n5 == n6) then (
 ∃ n7, H4.cell i1 1 = some (.int .i64 n7) ∧
 ∃ n8, H4.cell i3 1 = some (.int .i64 n8) ∧
 bif (n7 == n8) then (
 ∃ n9, H4.cell i1 2 = some (.int .i64 n9) ∧
 ∃ n10, H4.cell i3 2 = some (.int .i64 n10) ∧
 bif (n9 == n10) then (
 ∃ n11, H4.cell i1 3 = some (.int .i64 n11) ∧
 ∃ n12, H4.cell i3 3 = some (.int .i64 n12) ∧
 bif (n11 == n12) then (
 ∃ n13, H4.cell i1 4 = some (.int .i64 n13) ∧
 ∃ n14, H4.cell i3 4 = some (.int .i64 n14) ∧
 R (.bool (n13 == n14)) H4)
 else (
 R (.bool false) H4))
 else (
 R (.bool false) H4))
 else (
 R (.bool false) H4))
 else (
 R (.bool false) H4)) →
    CA en F.crossbarref07_Like [(.agg #[(.int .i64 x0_0), (.int .i64 x0_1), (.int .i64 x0_2), (.int .i64 x0_3), (.int .i64 x0_4)]), (.agg #[(.int .i64 x1_0), (.int .i64 x1_1), (.int .i64 x1_2), (.int .i64 x1_3), (.int .i64 x1_4)])] H R := by
  intro h
  refine wpFn_ok (Z := []) (fn := Go.Proofs.Try.f90) ?_ ?_ ?_
  · kernel_rfl
  · kernel_rfl
  · apply turnInto h
    kernel_rfl

end Go.Proofs.Ythnifkjpkepbaaa
