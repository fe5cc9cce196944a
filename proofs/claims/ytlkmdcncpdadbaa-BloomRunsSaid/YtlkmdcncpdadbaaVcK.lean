/-
  What functions of this seat's program need (printed by a program, checked by the kernel).
-/
import Derived.Test.YtlkmdcncpdadbaaNames
import Derived.Test.YtlkmdcncpdadbaaAs41
namespace Go.Proofs.Ytlkmdcncpdadbaa
open Go Go.AS Go.RowKit
set_option linter.unusedVariables false
set_option maxRecDepth 100000
set_option maxHeartbeats 2000000

/-! crossbarkit_CopyDecls -/
noncomputable def L_crossbarkit_CopyDecls_0 : Code := loopAt Go.Proofs.Try.f13 0

theorem vc_crossbarkit_CopyDecls (x0 : Option Addr) (x0l : Nat) (H : Heap) (R : Value → Heap → Prop) :
    (
 LA en L_crossbarkit_CopyDecls_0 [(.slice x0 x0l 0), undef, (.slice none 0 0), (.slice none 0 0), (.int .i64 0), undef, undef, undef, undef, undef, undef, undef, undef, undef, undef, undef, undef, undef, undef] H [(X.exit 0, fun (y1 : Fr) (H2 : Heap) =>
 asSl (y1.getD 3 undef) fun a3 i4 =>
 R (.slice a3 i4 0) H2)]) →
    CA en F.crossbarkit_CopyDecls [(.slice x0 x0l 0)] H R := by
  intro h
  refine wpFn_ok (Z := [[(3, (.slice none 0 0))]]) (fn := Go.Proofs.Try.f13) ?_ ?_ ?_
  · kernel_rfl
  · kernel_rfl
  · apply turnInto h
    kernel_rfl

theorem use_crossbarkit_CopyDecls_0 {t0 : Option Addr} {t0l : Nat} {K0 : Fr → Heap → Prop} {t3 : Option Addr} {t3l : Nat} {t4 : Int} {t5 : Value} {t6 : Value} {t7 : Value} {t8 : Value} {t9 : Value} {t10 : Value} {t11 : Value} {t12 : Value} {t13 : Value} {t14 : Value} {t15 : Value} {t16 : Value} {t17 : Value} {H : Heap} (I : Nat → Option Addr → Nat → Int → Heap → Prop) (n : Nat) (h0 : I n t3 t3l t4 H)
    (hstep : ∀ (n : Nat) (t3 : Option Addr) (t3l : Nat) (t4 : Int) (ys : Fr) (H : Heap), I n t3 t3l t4 H →
    (
 bif (decide (t4 < ((t0l : Nat) : Int))) then (
 inB t4 t0l ∧
 asRow t0 fun i1 i2 =>
 ∃ n3, ∃ n4, ∃ n5, ∃ n6, ∃ n7, H.cellsAt i1 (i2 + (t4.toNat * 5)) 5 = some [(.int .i64 n3), (.int .i64 n4), (.int .i64 n5), (.int .i64 n6), (.int .i64 n7)] ∧
 nwH H (.cells true 5 [(.int .i64 n3), (.int .i64 n4), (.int .i64 n5), (.int .i64 n6), (.int .i64 n7)]) fun i8 H9 =>
 ∃ l10, rowOf H9 5 (some ⟨i8, 0, none⟩) 1 = some l10 ∧
 apd H9 40 5 t3 t3l 1 l10 fun a11 i12 H13 =>
 ∃ k14, k14 < n ∧
 I k14 a11 i12 (IntKind.i64.wrap (t4 + 1)) H13)
 else (
 K0 [(.slice t0 t0l 0), undef, (.slice none 0 0), (.slice t3 t3l 0), (.int .i64 t4), (.int .i64 t4), (.slice t0 t0l 0), (.int .i64 ((t0l : Nat) : Int)), (.bool false), (ys.getD 9 undef), (ys.getD 10 undef), (ys.getD 11 undef), (ys.getD 12 undef), (ys.getD 13 undef), (ys.getD 14 undef), (ys.getD 15 undef), (ys.getD 16 undef), (ys.getD 17 undef), undef] H))) :
    LA en L_crossbarkit_CopyDecls_0 [(.slice t0 t0l 0), undef, (.slice none 0 0), (.slice t3 t3l 0), (.int .i64 t4), t5, t6, t7, t8, t9, t10, t11, t12, t13, t14, t15, t16, t17, undef] H [(X.exit 0, K0)] := by
  refine LA_rule (Z := []) (fun m xs H' => asSl (xs.getD 3 undef) fun t3 t3l => AS.asInt .i64 (xs.getD 4 undef) fun t4 => I m t3 t3l t4 H') ?_ n H ?_
  · intro n H
    suffices hs : ∀ s5 : Value, ∀ s6 : Value, ∀ s7 : Value, ∀ s8 : Value, ∀ s11 : Value, ∀ s12 : Value, ∀ s13 : Value, ∀ s14 : Value, ∀ s15 : Value, ∀ s16 : Value, ∀ s17 : Value, ∀ s3 : Value, ∀ s9 : Value, ∀ s10 : Value, ∀ s4 : Value, ((asSl s3 fun t3 t3l => AS.asInt .i64 s4 fun t4 => I n t3 t3l t4 H) → wpCode en L_crossbarkit_CopyDecls_0 [] [(.slice t0 t0l 0), undef, (.slice none 0 0), s3, s4, s5, s6, s7, s8, s9, s10, s11, s12, s13, s14, s15, s16, s17, undef] H (loopQ (fun m xs H' => asSl (xs.getD 3 undef) fun t3 t3l => AS.asInt .i64 (xs.getD 4 undef) fun t4 => I m t3 t3l t4 H') n [(X.exit 0, K0)])) by
      apply turnInto hs
      kernel_rfl
    intro s5 s6 s7 s8 s11 s12 s13 s14 s15 s16 s17 s3 s9 s10 s4 hP
    replace hP := asSl_elim hP
    obtain ⟨t3, t3l, rfl, hP⟩ := hP
    replace hP := asInt_elim hP
    obtain ⟨t4, rfl, hP⟩ := hP
    apply turnInto (hstep n t3 t3l t4 [(.slice t0 t0l 0), undef, (.slice none 0 0), (.slice t3 t3l 0), (.int .i64 t4), s5, s6, s7, s8, s9, s10, s11, s12, s13, s14, s15, s16, s17, undef] H hP)
    kernel_rfl
  · apply turnInto h0
    kernel_rfl


/-! crossbarkit_SameDecls -/
noncomputable def L_crossbarkit_SameDecls_0 : Code := loopAt Go.Proofs.Try.f16 0

theorem vc_crossbarkit_SameDecls (x0 : Option Addr) (x0l : Nat) (x1 : Option Addr) (x1l : Nat) (H : Heap) (R : Value → Heap → Prop) :
    (
 bif (((x0l : Nat) : Int) != ((x1l : Nat) : Int)) then (
 R (.bool false) H)
 else (
 LA en L_crossbarkit_SameDecls_0 [(.slice x0 x0l 0), (.slice x1 x1l 0), undef, undef, (.bool false), (.int .i64 0), (.slice x0 x0l 0), (.int .i64 ((x0l : Nat) : Int)), (.slice x1 x1l 0), (.int .i64 ((x1l : Nat) : Int)), (.bool false), undef, undef, undef, undef, undef, undef, undef, undef, undef, undef, undef, undef, undef, undef, undef] H [(X.exit 0, fun (y1 : Fr) (H2 : Heap) =>
 AS.asBool (y1.getD 4 undef) fun b3 =>
 R (.bool true) H2),
 (X.ret, fun (y4 : Fr) (H5 : Heap) =>
 AS.asBool (y4.getD 4 undef) fun b6 =>
 R (.bool b6) H5)])) →
    CA en F.crossbarkit_SameDecls [(.slice x0 x0l 0), (.slice x1 x1l 0)] H R := by
  intro h
  refine wpFn_ok (Z := [[(4, (.bool false))]]) (fn := Go.Proofs.Try.f16) ?_ ?_ ?_
  · kernel_rfl
  · kernel_rfl
  · apply turnInto h
    kernel_rfl

theorem use_crossbarkit_SameDecls_0 {t0 : Option Addr} {t0l : Nat} {t1 : Option Addr} {t1l : Nat} {t6 : Option Addr} {t6l : Nat} {t7 : Int} {t8 : Option Addr} {t8l : Nat} {t9 : Int} {K0 : Fr → Heap → Prop} {K1 : Fr → Heap → Prop} {t4 : Bool} {t5 : Int} {t11 : Value} {t12 : Value} {t13 : Value} {t14 : Value} {t15 : Value} {t16 : Value} {t17 : Value} {t18 : Value} {t19 : Value} {t20 : Value} {t21 : Value} {t22 : Value} {t23 : Value} {t24 : Value} {t25 : Value} {H : Heap} (I : Nat → Bool → Int → Heap → Prop) (n : Nat) (h0 : I n t4 t5 H)
    (hstep : ∀ (n : Nat) (t4 : Bool) (t5 : Int) (ys : Fr) (H : Heap), I n t4 t5 H →
    (
 bif (decide (t5 < ((t0l : Nat) : Int))) then (
 inB t5 t0l ∧
 asRow t0 fun i1 i2 =>
 ∃ n3, ∃ n4, ∃ n5, ∃ n6, ∃ n7, (H.bump 9).cellsAt i1 (i2 + (t5.toNat * 5)) 5 = some [(.int .i64 n3), (.int .i64 n4), (.int .i64 n5), (.int .i64 n6), (.int .i64 n7)] ∧
 inB t5 t1l ∧
 asRow t1 fun i8 i9 =>
 ∃ n10, ∃ n11, ∃ n12, ∃ n13, ∃ n14, (H.bump 9).cellsAt i8 (i9 + (t5.toNat * 5)) 5 = some [(.int .i64 n10), (.int .i64 n11), (.int .i64 n12), (.int .i64 n13), (.int .i64 n14)] ∧
 (
 bif (!((n3 == n10) && ((n4 == n11) && ((n5 == n12) && ((n6 == n13) && (n7 == n14)))))) then (
 K1 [(.slice t0 t0l 0), (.slice t1 t1l 0), undef, undef, (.bool false), (.int .i64 t5), (.slice t6 t6l 0), (.int .i64 t7), (.slice t8 t8l 0), (.int .i64 t9), (.bool false), (.int .i64 t5), (.slice t0 t0l 0), (.int .i64 ((t0l : Nat) : Int)), (.bool true), (ys.getD 15 undef), (ys.getD 16 undef), (.slice t0 t0l 0), (.int .i64 t5), (.pointer (some ⟨i1, (i2 + (t5.toNat * 5)), none⟩)), (.agg #[(.int .i64 n3), (.int .i64 n4), (.int .i64 n5), (.int .i64 n6), (.int .i64 n7)]), (.slice t1 t1l 0), (.int .i64 t5), (.pointer (some ⟨i8, (i9 + (t5.toNat * 5)), none⟩)), (.agg #[(.int .i64 n10), (.int .i64 n11), (.int .i64 n12), (.int .i64 n13), (.int .i64 n14)]), (.bool true)] (H.bump 9))
 else (
 ∃ k15, k15 < n ∧
 I k15 t4 (IntKind.i64.wrap (t5 + 1)) (H.bump 9))) ∧
 True)
 else (
 K0 [(.slice t0 t0l 0), (.slice t1 t1l 0), undef, undef, (.bool t4), (.int .i64 t5), (.slice t6 t6l 0), (.int .i64 t7), (.slice t8 t8l 0), (.int .i64 t9), (.bool false), (.int .i64 t5), (.slice t0 t0l 0), (.int .i64 ((t0l : Nat) : Int)), (.bool false), (ys.getD 15 undef), (ys.getD 16 undef), (ys.getD 17 undef), (ys.getD 18 undef), (ys.getD 19 undef), (ys.getD 20 undef), (ys.getD 21 undef), (ys.getD 22 undef), (ys.getD 23 undef), (ys.getD 24 undef), (ys.getD 25 undef)] H))) :
    LA en L_crossbarkit_SameDecls_0 [(.slice t0 t0l 0), (.slice t1 t1l 0), undef, undef, (.bool t4), (.int .i64 t5), (.slice t6 t6l 0), (.int .i64 t7), (.slice t8 t8l 0), (.int .i64 t9), (.bool false), t11, t12, t13, t14, t15, t16, t17, t18, t19, t20, t21, t22, t23, t24, t25] H [(X.exit 0, K0), (X.ret, K1)] := by
  refine LA_rule (Z := []) (fun m xs H' => AS.asBool (xs.getD 4 undef) fun t4 => AS.asInt .i64 (xs.getD 5 undef) fun t5 => I m t4 t5 H') ?_ n H ?_
  · intro n H
    suffices hs : ∀ s11 : Value, ∀ s12 : Value, ∀ s13 : Value, ∀ s14 : Value, ∀ s17 : Value, ∀ s18 : Value, ∀ s19 : Value, ∀ s20 : Value, ∀ s21 : Value, ∀ s22 : Value, ∀ s23 : Value, ∀ s24 : Value, ∀ s25 : Value, ∀ s4 : Value, ∀ s15 : Value, ∀ s16 : Value, ∀ s5 : Value, ((AS.asBool s4 fun t4 => AS.asInt .i64 s5 fun t5 => I n t4 t5 H) → wpCode en L_crossbarkit_SameDecls_0 [] [(.slice t0 t0l 0), (.slice t1 t1l 0), undef, undef, s4, s5, (.slice t6 t6l 0), (.int .i64 t7), (.slice t8 t8l 0), (.int .i64 t9), (.bool false), s11, s12, s13, s14, s15, s16, s17, s18, s19, s20, s21, s22, s23, s24, s25] H (loopQ (fun m xs H' => AS.asBool (xs.getD 4 undef) fun t4 => AS.asInt .i64 (xs.getD 5 undef) fun t5 => I m t4 t5 H') n [(X.exit 0, K0), (X.ret, K1)])) by
      apply turnInto hs
      kernel_rfl
    intro s11 s12 s13 s14 s17 s18 s19 s20 s21 s22 s23 s24 s25 s4 s15 s16 s5 hP
    replace hP := asBool_elim hP
    obtain ⟨t4, rfl, hP⟩ := hP
    replace hP := asInt_elim hP
    obtain ⟨t5, rfl, hP⟩ := hP
    apply turnInto (hstep n t4 t5 [(.slice t0 t0l 0), (.slice t1 t1l 0), undef, undef, (.bool t4), (.int .i64 t5), (.slice t6 t6l 0), (.int .i64 t7), (.slice t8 t8l 0), (.int .i64 t9), (.bool false), s11, s12, s13, s14, s15, s16, s17, s18, s19, s20, s21, s22, s23, s24, s25] H hP)
    kernel_rfl
  · apply turnInto h0
    kernel_rfl


/-! crossbarkit_Pick -/

theorem vc_crossbarkit_Pick (x0 : Int) (x1 : Int) (H : Heap) (R : Value → Heap → Prop) :
    (
 bif (decide (x1 < 1)) then (
 R (.int .i64 0) H)
 else (
 nz x1 ∧
 bif (decide ((Int.tmod x0 x1) < 0)) then (
 R (.int .i64 (IntKind.i64.wrap ((Int.tmod x0 x1) + x1))) H)
 else (
 R (.int .i64 (Int.tmod x0 x1)) H))) →
    CA en F.crossbarkit_Pick [(.int .i64 x0), (.int .i64 x1)] H R := by
  intro h
  refine wpFn_ok (Z := []) (fn := Go.Proofs.Try.f37) ?_ ?_ ?_
  · kernel_rfl
  · kernel_rfl
  · apply turnInto h
    kernel_rfl


/-! crossbarkit_Total -/
noncomputable def L_crossbarkit_Total_0 : Code := loopAt Go.Proofs.Try.f49 0

theorem vc_crossbarkit_Total (x0 : Option Addr) (x0l : Nat) (H : Heap) (R : Value → Heap → Prop) :
    (
 LA en L_crossbarkit_Total_0 [(.slice x0 x0l 0), undef, (.int .i64 0), (.int .i64 0), (.int .i64 0), undef, undef, undef, undef, undef, undef, undef, undef, undef, undef, undef, undef, undef, undef] H [(X.exit 0, fun (y1 : Fr) (H2 : Heap) =>
 AS.asInt .i64 (y1.getD 3 undef) fun n3 =>
 R (.int .i64 n3) H2)]) →
    CA en F.crossbarkit_Total [(.slice x0 x0l 0)] H R := by
  intro h
  refine wpFn_ok (Z := [[(3, (.int .i64 0))]]) (fn := Go.Proofs.Try.f49) ?_ ?_ ?_
  · kernel_rfl
  · kernel_rfl
  · apply turnInto h
    kernel_rfl

theorem use_crossbarkit_Total_0 {t0 : Option Addr} {t0l : Nat} {K0 : Fr → Heap → Prop} {t3 : Int} {t4 : Int} {t5 : Value} {t6 : Value} {t7 : Value} {t8 : Value} {t9 : Value} {t10 : Value} {t11 : Value} {t12 : Value} {t13 : Value} {t14 : Value} {t15 : Value} {t16 : Value} {t17 : Value} {H : Heap} (I : Nat → Int → Int → Heap → Prop) (n : Nat) (h0 : I n t3 t4 H)
    (hstep : ∀ (n : Nat) (t3 : Int) (t4 : Int) (ys : Fr) (H : Heap), I n t3 t4 H →
    (
 bif (decide (t4 < ((t0l : Nat) : Int))) then (
 inB t4 t0l ∧
 asRow t0 fun i1 i2 =>
 ∃ a3 i4, H.cell i1 (i2 + (t4.toNat * 1)) = some (.slice a3 i4 0) ∧
 ∃ k5, k5 < n ∧
 I k5 (IntKind.i64.wrap (t3 + ((i4 : Nat) : Int))) (IntKind.i64.wrap (t4 + 1)) H)
 else (
 K0 [(.slice t0 t0l 0), undef, (.int .i64 0), (.int .i64 t3), (.int .i64 t4), (.int .i64 t4), (.slice t0 t0l 0), (.int .i64 ((t0l : Nat) : Int)), (.bool false), (ys.getD 9 undef), (ys.getD 10 undef), (ys.getD 11 undef), (ys.getD 12 undef), (ys.getD 13 undef), (ys.getD 14 undef), (ys.getD 15 undef), (ys.getD 16 undef), (ys.getD 17 undef), undef] H))) :
    LA en L_crossbarkit_Total_0 [(.slice t0 t0l 0), undef, (.int .i64 0), (.int .i64 t3), (.int .i64 t4), t5, t6, t7, t8, t9, t10, t11, t12, t13, t14, t15, t16, t17, undef] H [(X.exit 0, K0)] := by
  refine LA_rule (Z := []) (fun m xs H' => AS.asInt .i64 (xs.getD 3 undef) fun t3 => AS.asInt .i64 (xs.getD 4 undef) fun t4 => I m t3 t4 H') ?_ n H ?_
  · intro n H
    suffices hs : ∀ s5 : Value, ∀ s6 : Value, ∀ s7 : Value, ∀ s8 : Value, ∀ s11 : Value, ∀ s12 : Value, ∀ s13 : Value, ∀ s14 : Value, ∀ s15 : Value, ∀ s16 : Value, ∀ s17 : Value, ∀ s3 : Value, ∀ s9 : Value, ∀ s10 : Value, ∀ s4 : Value, ((AS.asInt .i64 s3 fun t3 => AS.asInt .i64 s4 fun t4 => I n t3 t4 H) → wpCode en L_crossbarkit_Total_0 [] [(.slice t0 t0l 0), undef, (.int .i64 0), s3, s4, s5, s6, s7, s8, s9, s10, s11, s12, s13, s14, s15, s16, s17, undef] H (loopQ (fun m xs H' => AS.asInt .i64 (xs.getD 3 undef) fun t3 => AS.asInt .i64 (xs.getD 4 undef) fun t4 => I m t3 t4 H') n [(X.exit 0, K0)])) by
      apply turnInto hs
      kernel_rfl
    intro s5 s6 s7 s8 s11 s12 s13 s14 s15 s16 s17 s3 s9 s10 s4 hP
    replace hP := asInt_elim hP
    obtain ⟨t3, rfl, hP⟩ := hP
    replace hP := asInt_elim hP
    obtain ⟨t4, rfl, hP⟩ := hP
    apply turnInto (hstep n t3 t4 [(.slice t0 t0l 0), undef, (.int .i64 0), (.int .i64 t3), (.int .i64 t4), s5, s6, s7, s8, s9, s10, s11, s12, s13, s14, s15, s16, s17, undef] H hP)
    kernel_rfl
  · apply turnInto h0
    kernel_rfl


/-! crossbarkit_FitOp -/
noncomputable def L_crossbarkit_FitOp_0 : Code := loopAt Go.Proofs.Try.f52 0

theorem vc_crossbarkit_FitOp (x0_0 : Int) (x0_1 : Int) (x0_2 : Int) (x0_3 : Int) (x0_4 : Int) (x1_0 : Int) (x1_1 : Int) (x1_2 : Option Addr) (x1_2l : Nat) (x1_3 : Int) (x1_4 : Int) (x2 : Int) (H : Heap) (R : Value → Heap → Prop) :
    (
 nwH H (.cells true 0 [(.int .i64 x0_0), (.int .i64 x0_1), (.int .i64 x0_2), (.int .i64 x0_3), (.int .i64 x0_4)]) fun i1 H2 =>
 nwH H2 (.cells true 0 [(.int .i64 x1_0), (.int .u64 x1_1), (.slice x1_2 x1_2l 0), (.int .i64 x1_3), (.int .i64 x1_4)]) fun i3 H4 =>
 nwH H4 (.cells true 0 [(.int .i64 0), (.int .u64 0), (.slice none 0 0), (.int .i64 0), (.int .i64 0)]) fun i5 H6 =>
 ∃ n7, H6.cell i1 0 = some (.int .i64 n7) ∧
 CA en F.crossbarkit_kinds [(.int .i64 n7)] H6 fun v8 H9 =>
 ∃ a10 i11, v8 = (.slice a10 i11 0) ∧
 ∃ n12, ((H9.bump 13).set (H9.next + 11) (.cells true 0 [(.int .i64 0), (.int .u64 0), (.slice none 0 0), (.int .i64 0), (.int .i64 0)])).cell i3 0 = some (.int .i64 n12) ∧
 CA en F.crossbarkit_Pick [(.int .i64 n12), (.int .i64 ((i11 : Nat) : Int))] ((H9.bump 13).set (H9.next + 11) (.cells true 0 [(.int .i64 0), (.int .u64 0), (.slice none 0 0), (.int .i64 0), (.int .i64 0)])) fun v13 H14 =>
 ∃ n15, v13 = (.int .i64 n15) ∧
 inB n15 i11 ∧
 asRow a10 fun i16 i17 =>
 ∃ n18, H14.cell i16 (i17 + (n15.toNat * 1)) = some (.int .i64 n18) ∧
 ∃ n19, H14.cell i3 1 = some (.int .u64 n19) ∧
 stc H14 (H9.next + 11) 0 [(.int .i64 n18), (.int .u64 n19), (.slice none 0 0), (.int .i64 0), (.int .i64 0)] fun H20 =>
 (
 ∃ J25 : List Value → Heap → Prop, (
 ∃ n26, H20.cell i1 0 = some (.int .i64 n26) ∧
 bif (n26 == 2) then (
 ∃ n27, H20.cell i3 4 = some (.int .i64 n27) ∧
 CA en F.crossbarkit_Pick [(.int .i64 n27), (.int .i64 x2)] H20 fun v28 H29 =>
 ∃ n30, v28 = (.int .i64 n30) ∧
 stc H29 (H9.next + 11) 4 [(.int .i64 n30)] fun H31 =>
 J25 [] H31)
 else (
 J25 [] H20)) ∧
 ∀ (ys32 : Fr) (H33 : Heap), J25 [] H33 →
 ∃ J34 : List Value → Heap → Prop, (
 ∃ n35, H33.cell (H9.next + 11) 0 = some (.int .i64 n35) ∧
 bif (n35 == 2) then (
 J34 [(.bool true)] H33)
 else (
 ∃ n36, H33.cell (H9.next + 11) 0 = some (.int .i64 n36) ∧
 bif (n36 == 6) then (
 J34 [(.bool true)] H33)
 else (
 ∃ n37, H33.cell (H9.next + 11) 0 = some (.int .i64 n37) ∧
 bif (n37 == 8) then (
 ∃ n38, H33.cell i1 0 = some (.int .i64 n38) ∧
 J34 [(.bool (n38 == 8))] H33)
 else (
 J34 [(.bool false)] H33)))) ∧
 ∀ (ys39 : Fr) (H40 : Heap), ∀ b41, J34 [(.bool b41)] H40 →
 ∃ J42 : List Value → Heap → Prop, (
 LA en L_crossbarkit_FitOp_0 [(.agg #[(.int .i64 x0_0), (.int .i64 x0_1), (.int .i64 x0_2), (.int .i64 x0_3), (.int .i64 x0_4)]), (.agg #[(.int .i64 x1_0), (.int .u64 x1_1), (.slice x1_2 x1_2l 0), (.int .i64 x1_3), (.int .i64 x1_4)]), (.int .i64 x2), (.pointer (some ⟨i1, 0, none⟩)), (.pointer (some ⟨i3, 0, none⟩)), undef, (.pointer (some ⟨i5, 0, none⟩)), (.slice a10 i11 0), (.pointer (some ⟨(H9.next + 11), 0, none⟩)), (.bool b41), (.int .i64 0), undef, (.pointer (some ⟨i1, 0, none⟩)), (.int .i64 n7), (.slice a10 i11 0), (.slice a10 i11 0), (.pointer (some ⟨i3, 0, none⟩)), (.int .i64 n12), (.slice a10 i11 0), (.int .i64 ((i11 : Nat) : Int)), (.int .i64 n15), (.pointer (some ⟨i16, (i17 + (n15.toNat * 1)), none⟩)), (.int .i64 n18), (.pointer (some ⟨i3, 1, none⟩)), (.int .u64 n19), (.agg #[(.int .i64 n18), (.int .u64 n19), (.slice none 0 0), (.int .i64 0), (.int .i64 0)]), (ys32.getD 26 undef), (ys32.getD 27 undef), (ys32.getD 28 undef), (ys32.getD 29 undef), (ys32.getD 30 undef), (ys32.getD 31 undef), (ys32.getD 32 undef), (ys32.getD 33 undef), (ys39.getD 34 undef), (ys39.getD 35 undef), (ys39.getD 36 undef), (ys39.getD 37 undef), (ys39.getD 38 undef), (ys39.getD 39 undef), (ys39.getD 40 undef), (ys39.getD 41 undef), (ys39.getD 42 undef), (ys39.getD 43 undef), (ys39.getD 44 undef), (ys39.getD 45 undef), (ys39.getD 46 undef), (ys39.getD 47 undef), (ys39.getD 48 undef), (ys39.getD 49 undef), (ys39.getD 50 undef), (ys39.getD 51 undef), undef, undef, undef, undef, undef, undef, undef, undef, undef, undef, undef, undef, undef, undef, undef, undef, undef, undef, undef, undef, undef, undef, undef, undef, undef, undef, undef, undef, undef, undef, undef, undef, undef, undef, undef, undef, undef, undef, undef, undef, undef, undef, undef, undef, undef, undef, undef, undef, undef, undef, undef, undef, undef, undef, undef, undef, undef, undef] H40 [(X.exit 0, fun (y43 : Fr) (H44 : Heap) =>
 J42 [] H44)]) ∧
 ∀ (ys45 : Fr) (H46 : Heap), J42 [] H46 →
 ∃ n47, H46.cell (H9.next + 11) 0 = some (.int .i64 n47) ∧
 bif (n47 == 2) then (
 ∃ n48, H46.cell i3 3 = some (.int .i64 n48) ∧
 CA en F.crossbarkit_Pick [(.int .i64 n48), (.int .i64 3)] H46 fun v49 H50 =>
 ∃ n51, v49 = (.int .i64 n51) ∧
 stc H50 (H9.next + 11) 3 [(.int .i64 n51)] fun H52 =>
 ∃ n53, ∃ n54, ∃ a55 i56, ∃ n57, ∃ n58, H52.cellsAt (H9.next + 11) 0 5 = some [(.int .i64 n53), (.int .u64 n54), (.slice a55 i56 0), (.int .i64 n57), (.int .i64 n58)] ∧
 stc H52 i5 0 [(.int .i64 n53), (.int .u64 n54), (.slice a55 i56 0), (.int .i64 n57), (.int .i64 n58)] fun H59 =>
 ∃ n60, ∃ n61, ∃ a62 i63, ∃ n64, ∃ n65, H59.cellsAt i5 0 5 = some [(.int .i64 n60), (.int .u64 n61), (.slice a62 i63 0), (.int .i64 n64), (.int .i64 n65)] ∧
 R (.agg #[(.int .i64 n60), (.int .u64 n61), (.slice a62 i63 0), (.int .i64 n64), (.int .i64 n65)]) H59)
 else (
 bif (n47 == 4) then (
 ∃ n66, H46.cell i3 3 = some (.int .i64 n66) ∧
 CA en F.crossbarkit_Pick [(.int .i64 n66), (.int .i64 2)] H46 fun v67 H68 =>
 ∃ n69, v67 = (.int .i64 n69) ∧
 stc H68 (H9.next + 11) 3 [(.int .i64 n69)] fun H70 =>
 ∃ n71, ∃ n72, ∃ a73 i74, ∃ n75, ∃ n76, H70.cellsAt (H9.next + 11) 0 5 = some [(.int .i64 n71), (.int .u64 n72), (.slice a73 i74 0), (.int .i64 n75), (.int .i64 n76)] ∧
 stc H70 i5 0 [(.int .i64 n71), (.int .u64 n72), (.slice a73 i74 0), (.int .i64 n75), (.int .i64 n76)] fun H77 =>
 ∃ n78, ∃ n79, ∃ a80 i81, ∃ n82, ∃ n83, H77.cellsAt i5 0 5 = some [(.int .i64 n78), (.int .u64 n79), (.slice a80 i81 0), (.int .i64 n82), (.int .i64 n83)] ∧
 R (.agg #[(.int .i64 n78), (.int .u64 n79), (.slice a80 i81 0), (.int .i64 n82), (.int .i64 n83)]) H77)
 else (
 bif (n47 == 6) then (
 ∃ n84, H46.cell i1 0 = some (.int .i64 n84) ∧
 bif (n84 != 8) then (
 ∃ n85, H46.cell i3 3 = some (.int .i64 n85) ∧
 CA en F.crossbarkit_Pick [(.int .i64 n85), (.int .i64 2)] H46 fun v86 H87 =>
 ∃ n88, v86 = (.int .i64 n88) ∧
 stc H87 (H9.next + 11) 3 [(.int .i64 (IntKind.i64.wrap (2 * n88)))] fun H89 =>
 ∃ n90, ∃ n91, ∃ a92 i93, ∃ n94, ∃ n95, H89.cellsAt (H9.next + 11) 0 5 = some [(.int .i64 n90), (.int .u64 n91), (.slice a92 i93 0), (.int .i64 n94), (.int .i64 n95)] ∧
 stc H89 i5 0 [(.int .i64 n90), (.int .u64 n91), (.slice a92 i93 0), (.int .i64 n94), (.int .i64 n95)] fun H96 =>
 ∃ n97, ∃ n98, ∃ a99 i100, ∃ n101, ∃ n102, H96.cellsAt i5 0 5 = some [(.int .i64 n97), (.int .u64 n98), (.slice a99 i100 0), (.int .i64 n101), (.int .i64 n102)] ∧
 R (.agg #[(.int .i64 n97), (.int .u64 n98), (.slice a99 i100 0), (.int .i64 n101), (.int .i64 n102)]) H96)
 else (
 ∃ n103, ∃ n104, ∃ a105 i106, ∃ n107, ∃ n108, H46.cellsAt (H9.next + 11) 0 5 = some [(.int .i64 n103), (.int .u64 n104), (.slice a105 i106 0), (.int .i64 n107), (.int .i64 n108)] ∧
 stc H46 i5 0 [(.int .i64 n103), (.int .u64 n104), (.slice a105 i106 0), (.int .i64 n107), (.int .i64 n108)] fun H109 =>
 ∃ n110, ∃ n111, ∃ a112 i113, ∃ n114, ∃ n115, H109.cellsAt i5 0 5 = some [(.int .i64 n110), (.int .u64 n111), (.slice a112 i113 0), (.int .i64 n114), (.int .i64 n115)] ∧
 R (.agg #[(.int .i64 n110), (.int .u64 n111), (.slice a112 i113 0), (.int .i64 n114), (.int .i64 n115)]) H109))
 else (
 ∃ n116, ∃ n117, ∃ a118 i119, ∃ n120, ∃ n121, H46.cellsAt (H9.next + 11) 0 5 = some [(.int .i64 n116), (.int .u64 n117), (.slice a118 i119 0), (.int .i64 n120), (.int .i64 n121)] ∧
 stc H46 i5 0 [(.int .i64 n116), (.int .u64 n117), (.slice a118 i119 0), (.int .i64 n120), (.int .i64 n121)] fun H122 =>
 ∃ n123, ∃ n124, ∃ a125 i126, ∃ n127, ∃ n128, H122.cellsAt i5 0 5 = some [(.int .i64 n123), (.int .u64 n124), (.slice a125 i126 0), (.int .i64 n127), (.int .i64 n128)] ∧
 R (.agg #[(.int .i64 n123), (.int .u64 n124), (.slice a125 i126 0), (.int .i64 n127), (.int .i64 n128)]) H122)))) ∧
 ((∃ c22, ((H9.bump 13).set (H9.next + 11) (.cells true 0 [(.int .i64 0), (.int .u64 0), (.slice none 0 0), (.int .i64 0), (.int .i64 0)])).get (H9.next + 11) = some (.cells true 0 c22) ∧ sameN.sameL 8 [(.int .i64 0), (.int .u64 0), (.slice none 0 0), (.int .i64 0), (.int .i64 0)] c22 = true) ∧ (∃ c21, H14.get (H9.next + 11) = some (.cells true 0 c21) ∧ sameN.sameL 8 [(.int .i64 0), (.int .u64 0), (.slice none 0 0), (.int .i64 0), (.int .i64 0)] c21 = true) ∧ True) ∧
 ((∃ n24, ((H9.bump 13).set (H9.next + 11) (.cells true 0 [(.int .i64 0), (.int .u64 0), (.slice none 0 0), (.int .i64 0), (.int .i64 0)])).cell i3 1 = some (.int .u64 n24) ∧
 n19 = n24) ∧ (∃ n23, H14.cell i3 1 = some (.int .u64 n23) ∧
 n19 = n23) ∧ True) ∧
 True) →
    CA en F.crossbarkit_FitOp [(.agg #[(.int .i64 x0_0), (.int .i64 x0_1), (.int .i64 x0_2), (.int .i64 x0_3), (.int .i64 x0_4)]), (.agg #[(.int .i64 x1_0), (.int .u64 x1_1), (.slice x1_2 x1_2l 0), (.int .i64 x1_3), (.int .i64 x1_4)]), (.int .i64 x2)] H R := by
  intro h
  refine wpFnC_ok (C := [none, none, none, some [], none, some [(9, (.bool false))], some [], none, none, none, none, none, none, none, none]) (Z := [[]]) (fn := Go.Proofs.Try.f52) ?_ ?_ ?_
  · kernel_rfl
  · kernel_rfl
  · apply turnInto h
    kernel_rfl

theorem use_crossbarkit_FitOp_0 {t0_0 : Int} {t0_1 : Int} {t0_2 : Int} {t0_3 : Int} {t0_4 : Int} {t1_0 : Int} {t1_1 : Int} {t1_2 : Option Addr} {t1_2l : Nat} {t1_3 : Int} {t1_4 : Int} {t2 : Int} {t3 : Nat} {t4 : Nat} {t6 : Nat} {t7 : Option Addr} {t7l : Nat} {t8 : Nat} {t9 : Bool} {t12 : Nat} {t13 : Int} {t14 : Option Addr} {t14l : Nat} {t15 : Option Addr} {t15l : Nat} {t16 : Nat} {t17 : Int} {t18 : Option Addr} {t18l : Nat} {t19 : Int} {t20 : Int} {t21 : Nat} {t21o : Nat} {t22 : Int} {t23 : Nat} {t24 : Int} {t25_0 : Int} {t25_1 : Int} {t26 : Value} {t27 : Value} {t28 : Value} {t29 : Value} {t30 : Value} {t31 : Value} {t32 : Value} {t33 : Value} {t34 : Value} {t35 : Value} {t36 : Value} {t37 : Value} {t38 : Value} {t39 : Value} {t40 : Value} {t41 : Value} {t42 : Value} {t43 : Value} {t44 : Value} {t45 : Value} {t46 : Value} {t47 : Value} {t48 : Value} {t49 : Value} {t50 : Value} {t51 : Value} {K0 : Fr → Heap → Prop} {t10 : Int} {t11 : Value} {t52 : Value} {t53 : Value} {t54 : Value} {t55 : Value} {t56 : Value} {t57 : Value} {t58 : Value} {t59 : Value} {t60 : Value} {t61 : Value} {t62 : Value} {t63 : Value} {t64 : Value} {t65 : Value} {t66 : Value} {t67 : Value} {t68 : Value} {t69 : Value} {t70 : Value} {t71 : Value} {t72 : Value} {t73 : Value} {t74 : Value} {t75 : Value} {t76 : Value} {t77 : Value} {t78 : Value} {t79 : Value} {t80 : Value} {t81 : Value} {t82 : Value} {t83 : Value} {t84 : Value} {H : Heap} (I : Nat → Int → Heap → Prop) (n : Nat) (h0 : I n t10 H)
    (hstep : ∀ (n : Nat) (t10 : Int) (ys : Fr) (H : Heap), I n t10 H →
    (
 bif t9 then (
 ∃ n1, H.cell t3 2 = some (.int .i64 n1) ∧
 bif (decide (t10 < n1)) then (
 ∃ n2, H.cell t3 4 = some (.int .i64 n2) ∧
 ∃ n3, H.cell t3 4 = some (.int .i64 n3) ∧
 bif (n3 == 0) then (
 ∃ a4 i5, H.cell t4 2 = some (.slice a4 i5 0) ∧
 bif (decide (t10 < ((i5 : Nat) : Int))) then (
 ∃ a6 i7, H.cell t4 2 = some (.slice a6 i7 0) ∧
 inB t10 i7 ∧
 asRow a6 fun i8 i9 =>
 ∃ n10, H.cell i8 (i9 + (t10.toNat * 1)) = some (.int .u64 n10) ∧
 ∃ a11 i12, H.cell t8 2 = some (.slice a11 i12 0) ∧
 nwH H (.cells true 1 [(.int .u64 n10)]) fun i13 H14 =>
 ∃ l15, rowOf H14 1 (some ⟨i13, 0, none⟩) 1 = some l15 ∧
 apd H14 8 1 a11 i12 1 l15 fun a16 i17 H18 =>
 stc H18 t8 2 [(.slice a16 i17 0)] fun H19 =>
 ∃ k20, k20 < n ∧
 I k20 (IntKind.i64.wrap (t10 + 1)) H19)
 else (
 ∃ a21 i22, H.cell t8 2 = some (.slice a21 i22 0) ∧
 nwH H (.cells true 1 [(.int .u64 (IntKind.u64.wrap n2))]) fun i23 H24 =>
 ∃ l25, rowOf H24 1 (some ⟨i23, 0, none⟩) 1 = some l25 ∧
 apd H24 8 1 a21 i22 1 l25 fun a26 i27 H28 =>
 stc H28 t8 2 [(.slice a26 i27 0)] fun H29 =>
 ∃ k30, k30 < n ∧
 I k30 (IntKind.i64.wrap (t10 + 1)) H29))
 else (
 ∃ a31 i32, H.cell t8 2 = some (.slice a31 i32 0) ∧
 nwH H (.cells true 1 [(.int .u64 (IntKind.u64.wrap n2))]) fun i33 H34 =>
 ∃ l35, rowOf H34 1 (some ⟨i33, 0, none⟩) 1 = some l35 ∧
 apd H34 8 1 a31 i32 1 l35 fun a36 i37 H38 =>
 stc H38 t8 2 [(.slice a36 i37 0)] fun H39 =>
 ∃ k40, k40 < n ∧
 I k40 (IntKind.i64.wrap (t10 + 1)) H39))
 else (
 K0 [(.agg #[(.int .i64 t0_0), (.int .i64 t0_1), (.int .i64 t0_2), (.int .i64 t0_3), (.int .i64 t0_4)]), (.agg #[(.int .i64 t1_0), (.int .u64 t1_1), (.slice t1_2 t1_2l 0), (.int .i64 t1_3), (.int .i64 t1_4)]), (.int .i64 t2), (.pointer (some ⟨t3, 0, none⟩)), (.pointer (some ⟨t4, 0, none⟩)), undef, (.pointer (some ⟨t6, 0, none⟩)), (.slice t7 t7l 0), (.pointer (some ⟨t8, 0, none⟩)), (.bool t9), (.int .i64 t10), (ys.getD 11 undef), (.pointer (some ⟨t12, 0, none⟩)), (.int .i64 t13), (.slice t14 t14l 0), (.slice t15 t15l 0), (.pointer (some ⟨t16, 0, none⟩)), (.int .i64 t17), (.slice t18 t18l 0), (.int .i64 t19), (.int .i64 t20), (.pointer (some ⟨t21, t21o, none⟩)), (.int .i64 t22), (.pointer (some ⟨t23, 1, none⟩)), (.int .u64 t24), (.agg #[(.int .i64 t25_0), (.int .u64 t25_1), (.slice none 0 0), (.int .i64 0), (.int .i64 0)]), t26, t27, t28, t29, t30, t31, t32, t33, t34, t35, t36, t37, t38, t39, t40, t41, t42, t43, t44, t45, t46, t47, t48, t49, t50, t51, (.bool t9), (.bool true), (.int .i64 t10), (.pointer (some ⟨t3, 2, none⟩)), (.int .i64 n1), (.bool (decide (t10 < n1))), (.bool false), (ys.getD 59 undef), (ys.getD 60 undef), (ys.getD 61 undef), (ys.getD 62 undef), (ys.getD 63 undef), (ys.getD 64 undef), (ys.getD 65 undef), (ys.getD 66 undef), (ys.getD 67 undef), (ys.getD 68 undef), (ys.getD 69 undef), (ys.getD 70 undef), (ys.getD 71 undef), (ys.getD 72 undef), (ys.getD 73 undef), (ys.getD 74 undef), (ys.getD 75 undef), (ys.getD 76 undef), (ys.getD 77 undef), (ys.getD 78 undef), (ys.getD 79 undef), (ys.getD 80 undef), (ys.getD 81 undef), (ys.getD 82 undef), (ys.getD 83 undef), (ys.getD 84 undef), undef, undef, undef, undef, undef, undef, undef, undef, undef, undef, undef, undef, undef, undef, undef, undef, undef, undef, undef, undef, undef, undef, undef, undef, undef] H))
 else (
 K0 [(.agg #[(.int .i64 t0_0), (.int .i64 t0_1), (.int .i64 t0_2), (.int .i64 t0_3), (.int .i64 t0_4)]), (.agg #[(.int .i64 t1_0), (.int .u64 t1_1), (.slice t1_2 t1_2l 0), (.int .i64 t1_3), (.int .i64 t1_4)]), (.int .i64 t2), (.pointer (some ⟨t3, 0, none⟩)), (.pointer (some ⟨t4, 0, none⟩)), undef, (.pointer (some ⟨t6, 0, none⟩)), (.slice t7 t7l 0), (.pointer (some ⟨t8, 0, none⟩)), (.bool t9), (.int .i64 t10), (ys.getD 11 undef), (.pointer (some ⟨t12, 0, none⟩)), (.int .i64 t13), (.slice t14 t14l 0), (.slice t15 t15l 0), (.pointer (some ⟨t16, 0, none⟩)), (.int .i64 t17), (.slice t18 t18l 0), (.int .i64 t19), (.int .i64 t20), (.pointer (some ⟨t21, t21o, none⟩)), (.int .i64 t22), (.pointer (some ⟨t23, 1, none⟩)), (.int .u64 t24), (.agg #[(.int .i64 t25_0), (.int .u64 t25_1), (.slice none 0 0), (.int .i64 0), (.int .i64 0)]), t26, t27, t28, t29, t30, t31, t32, t33, t34, t35, t36, t37, t38, t39, t40, t41, t42, t43, t44, t45, t46, t47, t48, t49, t50, t51, (.bool t9), (.bool false), undef, undef, undef, undef, (.bool false), (ys.getD 59 undef), (ys.getD 60 undef), (ys.getD 61 undef), (ys.getD 62 undef), (ys.getD 63 undef), (ys.getD 64 undef), (ys.getD 65 undef), (ys.getD 66 undef), (ys.getD 67 undef), (ys.getD 68 undef), (ys.getD 69 undef), (ys.getD 70 undef), (ys.getD 71 undef), (ys.getD 72 undef), (ys.getD 73 undef), (ys.getD 74 undef), (ys.getD 75 undef), (ys.getD 76 undef), (ys.getD 77 undef), (ys.getD 78 undef), (ys.getD 79 undef), (ys.getD 80 undef), (ys.getD 81 undef), (ys.getD 82 undef), (ys.getD 83 undef), (ys.getD 84 undef), undef, undef, undef, undef, undef, undef, undef, undef, undef, undef, undef, undef, undef, undef, undef, undef, undef, undef, undef, undef, undef, undef, undef, undef, undef] H))) :
    LA en L_crossbarkit_FitOp_0 [(.agg #[(.int .i64 t0_0), (.int .i64 t0_1), (.int .i64 t0_2), (.int .i64 t0_3), (.int .i64 t0_4)]), (.agg #[(.int .i64 t1_0), (.int .u64 t1_1), (.slice t1_2 t1_2l 0), (.int .i64 t1_3), (.int .i64 t1_4)]), (.int .i64 t2), (.pointer (some ⟨t3, 0, none⟩)), (.pointer (some ⟨t4, 0, none⟩)), undef, (.pointer (some ⟨t6, 0, none⟩)), (.slice t7 t7l 0), (.pointer (some ⟨t8, 0, none⟩)), (.bool t9), (.int .i64 t10), t11, (.pointer (some ⟨t12, 0, none⟩)), (.int .i64 t13), (.slice t14 t14l 0), (.slice t15 t15l 0), (.pointer (some ⟨t16, 0, none⟩)), (.int .i64 t17), (.slice t18 t18l 0), (.int .i64 t19), (.int .i64 t20), (.pointer (some ⟨t21, t21o, none⟩)), (.int .i64 t22), (.pointer (some ⟨t23, 1, none⟩)), (.int .u64 t24), (.agg #[(.int .i64 t25_0), (.int .u64 t25_1), (.slice none 0 0), (.int .i64 0), (.int .i64 0)]), t26, t27, t28, t29, t30, t31, t32, t33, t34, t35, t36, t37, t38, t39, t40, t41, t42, t43, t44, t45, t46, t47, t48, t49, t50, t51, t52, t53, t54, t55, t56, t57, t58, t59, t60, t61, t62, t63, t64, t65, t66, t67, t68, t69, t70, t71, t72, t73, t74, t75, t76, t77, t78, t79, t80, t81, t82, t83, t84, undef, undef, undef, undef, undef, undef, undef, undef, undef, undef, undef, undef, undef, undef, undef, undef, undef, undef, undef, undef, undef, undef, undef, undef, undef] H [(X.exit 0, K0)] := by
  refine LA_rule (Z := []) (fun m xs H' => AS.asInt .i64 (xs.getD 10 undef) fun t10 => I m t10 H') ?_ n H ?_
  · intro n H
    suffices hs : ∀ s52 : Value, ∀ s53 : Value, ∀ s54 : Value, ∀ s55 : Value, ∀ s56 : Value, ∀ s57 : Value, ∀ s58 : Value, ∀ s61 : Value, ∀ s62 : Value, ∀ s63 : Value, ∀ s11 : Value, ∀ s64 : Value, ∀ s65 : Value, ∀ s66 : Value, ∀ s67 : Value, ∀ s68 : Value, ∀ s69 : Value, ∀ s70 : Value, ∀ s71 : Value, ∀ s72 : Value, ∀ s73 : Value, ∀ s74 : Value, ∀ s75 : Value, ∀ s76 : Value, ∀ s77 : Value, ∀ s78 : Value, ∀ s79 : Value, ∀ s80 : Value, ∀ s81 : Value, ∀ s82 : Value, ∀ s83 : Value, ∀ s84 : Value, ∀ s59 : Value, ∀ s60 : Value, ∀ s10 : Value, ((AS.asInt .i64 s10 fun t10 => I n t10 H) → wpCode en L_crossbarkit_FitOp_0 [] [(.agg #[(.int .i64 t0_0), (.int .i64 t0_1), (.int .i64 t0_2), (.int .i64 t0_3), (.int .i64 t0_4)]), (.agg #[(.int .i64 t1_0), (.int .u64 t1_1), (.slice t1_2 t1_2l 0), (.int .i64 t1_3), (.int .i64 t1_4)]), (.int .i64 t2), (.pointer (some ⟨t3, 0, none⟩)), (.pointer (some ⟨t4, 0, none⟩)), undef, (.pointer (some ⟨t6, 0, none⟩)), (.slice t7 t7l 0), (.pointer (some ⟨t8, 0, none⟩)), (.bool t9), s10, s11, (.pointer (some ⟨t12, 0, none⟩)), (.int .i64 t13), (.slice t14 t14l 0), (.slice t15 t15l 0), (.pointer (some ⟨t16, 0, none⟩)), (.int .i64 t17), (.slice t18 t18l 0), (.int .i64 t19), (.int .i64 t20), (.pointer (some ⟨t21, t21o, none⟩)), (.int .i64 t22), (.pointer (some ⟨t23, 1, none⟩)), (.int .u64 t24), (.agg #[(.int .i64 t25_0), (.int .u64 t25_1), (.slice none 0 0), (.int .i64 0), (.int .i64 0)]), t26, t27, t28, t29, t30, t31, t32, t33, t34, t35, t36, t37, t38, t39, t40, t41, t42, t43, t44, t45, t46, t47, t48, t49, t50, t51, s52, s53, s54, s55, s56, s57, s58, s59, s60, s61, s62, s63, s64, s65, s66, s67, s68, s69, s70, s71, s72, s73, s74, s75, s76, s77, s78, s79, s80, s81, s82, s83, s84, undef, undef, undef, undef, undef, undef, undef, undef, undef, undef, undef, undef, undef, undef, undef, undef, undef, undef, undef, undef, undef, undef, undef, undef, undef] H (loopQ (fun m xs H' => AS.asInt .i64 (xs.getD 10 undef) fun t10 => I m t10 H') n [(X.exit 0, K0)])) by
      apply turnInto hs
      kernel_rfl
    intro s52 s53 s54 s55 s56 s57 s58 s61 s62 s63 s11 s64 s65 s66 s67 s68 s69 s70 s71 s72 s73 s74 s75 s76 s77 s78 s79 s80 s81 s82 s83 s84 s59 s60 s10 hP
    replace hP := asInt_elim hP
    obtain ⟨t10, rfl, hP⟩ := hP
    apply turnInto (hstep n t10 [(.agg #[(.int .i64 t0_0), (.int .i64 t0_1), (.int .i64 t0_2), (.int .i64 t0_3), (.int .i64 t0_4)]), (.agg #[(.int .i64 t1_0), (.int .u64 t1_1), (.slice t1_2 t1_2l 0), (.int .i64 t1_3), (.int .i64 t1_4)]), (.int .i64 t2), (.pointer (some ⟨t3, 0, none⟩)), (.pointer (some ⟨t4, 0, none⟩)), undef, (.pointer (some ⟨t6, 0, none⟩)), (.slice t7 t7l 0), (.pointer (some ⟨t8, 0, none⟩)), (.bool t9), (.int .i64 t10), s11, (.pointer (some ⟨t12, 0, none⟩)), (.int .i64 t13), (.slice t14 t14l 0), (.slice t15 t15l 0), (.pointer (some ⟨t16, 0, none⟩)), (.int .i64 t17), (.slice t18 t18l 0), (.int .i64 t19), (.int .i64 t20), (.pointer (some ⟨t21, t21o, none⟩)), (.int .i64 t22), (.pointer (some ⟨t23, 1, none⟩)), (.int .u64 t24), (.agg #[(.int .i64 t25_0), (.int .u64 t25_1), (.slice none 0 0), (.int .i64 0), (.int .i64 0)]), t26, t27, t28, t29, t30, t31, t32, t33, t34, t35, t36, t37, t38, t39, t40, t41, t42, t43, t44, t45, t46, t47, t48, t49, t50, t51, s52, s53, s54, s55, s56, s57, s58, s59, s60, s61, s62, s63, s64, s65, s66, s67, s68, s69, s70, s71, s72, s73, s74, s75, s76, s77, s78, s79, s80, s81, s82, s83, s84, undef, undef, undef, undef, undef, undef, undef, undef, undef, undef, undef, undef, undef, undef, undef, undef, undef, undef, undef, undef, undef, undef, undef, undef, undef] H hP)
    kernel_rfl
  · apply turnInto h0
    kernel_rfl


/-! crossbarkit_CopyOp -/

theorem vc_crossbarkit_CopyOp (x0_0 : Int) (x0_1 : Int) (x0_2 : Option Addr) (x0_2l : Nat) (x0_3 : Int) (x0_4 : Int) (H : Heap) (R : Value → Heap → Prop) :
    (
 nwH H (.cells true 0 [(.int .i64 x0_0), (.int .u64 x0_1), (.slice x0_2 x0_2l 0), (.int .i64 x0_3), (.int .i64 x0_4)]) fun i1 H2 =>
 nwH H2 (.cells true 0 [(.int .i64 0), (.int .u64 0), (.slice none 0 0), (.int .i64 0), (.int .i64 0)]) fun i3 H4 =>
 ∃ a5 i6, H4.cell i1 2 = some (.slice a5 i6 0) ∧
 CA en F.crossbarkit_CopyWords [(.slice a5 i6 0)] H4 fun v7 H8 =>
 ∃ a9 i10, v7 = (.slice a9 i10 0) ∧
 stc H8 i1 2 [(.slice a9 i10 0)] fun H11 =>
 ∃ n12, ∃ n13, ∃ a14 i15, ∃ n16, ∃ n17, H11.cellsAt i1 0 5 = some [(.int .i64 n12), (.int .u64 n13), (.slice a14 i15 0), (.int .i64 n16), (.int .i64 n17)] ∧
 stc H11 i3 0 [(.int .i64 n12), (.int .u64 n13), (.slice a14 i15 0), (.int .i64 n16), (.int .i64 n17)] fun H18 =>
 ∃ n19, ∃ n20, ∃ a21 i22, ∃ n23, ∃ n24, H18.cellsAt i3 0 5 = some [(.int .i64 n19), (.int .u64 n20), (.slice a21 i22 0), (.int .i64 n23), (.int .i64 n24)] ∧
 R (.agg #[(.int .i64 n19), (.int .u64 n20), (.slice a21 i22 0), (.int .i64 n23), (.int .i64 n24)]) H18) →
    CA en F.crossbarkit_CopyOp [(.agg #[(.int .i64 x0_0), (.int .u64 x0_1), (.slice x0_2 x0_2l 0), (.int .i64 x0_3), (.int .i64 x0_4)])] H R := by
  intro h
  refine wpFn_ok (Z := []) (fn := Go.Proofs.Try.f53) ?_ ?_ ?_
  · kernel_rfl
  · kernel_rfl
  · apply turnInto h
    kernel_rfl


/-! crossbarkit_SpoilWords -/
noncomputable def L_crossbarkit_SpoilWords_0 : Code := loopAt Go.Proofs.Try.f54 0

theorem vc_crossbarkit_SpoilWords (x0 : Option Addr) (x0l : Nat) (H : Heap) (R : Value → Heap → Prop) :
    (
 LA en L_crossbarkit_SpoilWords_0 [(.slice x0 x0l 0), undef, (.int .i64 0), undef, undef, undef, undef, undef, undef, undef, undef, undef, undef, undef, undef] H [(X.exit 0, fun (y1 : Fr) (H2 : Heap) =>
 R undef H2)]) →
    CA en F.crossbarkit_SpoilWords [(.slice x0 x0l 0)] H R := by
  intro h
  refine wpFn_ok (Z := [[]]) (fn := Go.Proofs.Try.f54) ?_ ?_ ?_
  · kernel_rfl
  · kernel_rfl
  · apply turnInto h
    kernel_rfl

theorem use_crossbarkit_SpoilWords_0 {t0 : Option Addr} {t0l : Nat} {K0 : Fr → Heap → Prop} {t2 : Int} {t3 : Value} {t4 : Value} {t5 : Value} {t6 : Value} {t7 : Value} {t8 : Value} {t9 : Value} {t10 : Value} {t11 : Value} {t12 : Value} {t13 : Value} {t14 : Value} {H : Heap} (I : Nat → Int → Heap → Prop) (n : Nat) (h0 : I n t2 H)
    (hstep : ∀ (n : Nat) (t2 : Int) (ys : Fr) (H : Heap), I n t2 H →
    (
 bif (decide (t2 < ((t0l : Nat) : Int))) then (
 CA en F.crossbarkit_markWords [(.int .i64 (IntKind.i64.wrap (t2 + 7)))] H fun v1 H2 =>
 ∃ n3, v1 = (.int .u64 n3) ∧
 inB t2 t0l ∧
 asRow t0 fun i4 i5 =>
 stc H2 i4 (i5 + (t2.toNat * 1)) [(.int .u64 n3)] fun H6 =>
 ∃ k7, k7 < n ∧
 I k7 (IntKind.i64.wrap (t2 + 1)) H6)
 else (
 K0 [(.slice t0 t0l 0), undef, (.int .i64 t2), (.int .i64 t2), (.slice t0 t0l 0), (.int .i64 ((t0l : Nat) : Int)), (.bool false), (ys.getD 7 undef), (ys.getD 8 undef), (ys.getD 9 undef), (ys.getD 10 undef), (ys.getD 11 undef), (ys.getD 12 undef), (ys.getD 13 undef), (ys.getD 14 undef)] H))) :
    LA en L_crossbarkit_SpoilWords_0 [(.slice t0 t0l 0), undef, (.int .i64 t2), t3, t4, t5, t6, t7, t8, t9, t10, t11, t12, t13, t14] H [(X.exit 0, K0)] := by
  refine LA_rule (Z := []) (fun m xs H' => AS.asInt .i64 (xs.getD 2 undef) fun t2 => I m t2 H') ?_ n H ?_
  · intro n H
    suffices hs : ∀ s3 : Value, ∀ s4 : Value, ∀ s5 : Value, ∀ s6 : Value, ∀ s9 : Value, ∀ s10 : Value, ∀ s11 : Value, ∀ s12 : Value, ∀ s13 : Value, ∀ s14 : Value, ∀ s7 : Value, ∀ s8 : Value, ∀ s2 : Value, ((AS.asInt .i64 s2 fun t2 => I n t2 H) → wpCode en L_crossbarkit_SpoilWords_0 [] [(.slice t0 t0l 0), undef, s2, s3, s4, s5, s6, s7, s8, s9, s10, s11, s12, s13, s14] H (loopQ (fun m xs H' => AS.asInt .i64 (xs.getD 2 undef) fun t2 => I m t2 H') n [(X.exit 0, K0)])) by
      apply turnInto hs
      kernel_rfl
    intro s3 s4 s5 s6 s9 s10 s11 s12 s13 s14 s7 s8 s2 hP
    replace hP := asInt_elim hP
    obtain ⟨t2, rfl, hP⟩ := hP
    apply turnInto (hstep n t2 [(.slice t0 t0l 0), undef, (.int .i64 t2), s3, s4, s5, s6, s7, s8, s9, s10, s11, s12, s13, s14] H hP)
    kernel_rfl
  · apply turnInto h0
    kernel_rfl


/-! crossbarkit_CopyRes -/

theorem vc_crossbarkit_CopyRes (x0_0 : Int) (x0_1 : Option Addr) (x0_1l : Nat) (x0_2 : Int) (x0_3 : Int) (H : Heap) (R : Value → Heap → Prop) :
    (
 nwH H (.cells true 0 [(.int .i64 x0_0), (.slice x0_1 x0_1l 0), (.int .u64 x0_2), (.int .i64 x0_3)]) fun i1 H2 =>
 nwH H2 (.cells true 0 [(.int .i64 0), (.slice none 0 0), (.int .u64 0), (.int .i64 0)]) fun i3 H4 =>
 ∃ a5 i6, H4.cell i1 1 = some (.slice a5 i6 0) ∧
 CA en F.crossbarkit_CopyWords [(.slice a5 i6 0)] H4 fun v7 H8 =>
 ∃ a9 i10, v7 = (.slice a9 i10 0) ∧
 stc H8 i1 1 [(.slice a9 i10 0)] fun H11 =>
 ∃ n12, ∃ a13 i14, ∃ n15, ∃ n16, H11.cellsAt i1 0 4 = some [(.int .i64 n12), (.slice a13 i14 0), (.int .u64 n15), (.int .i64 n16)] ∧
 stc H11 i3 0 [(.int .i64 n12), (.slice a13 i14 0), (.int .u64 n15), (.int .i64 n16)] fun H17 =>
 ∃ n18, ∃ a19 i20, ∃ n21, ∃ n22, H17.cellsAt i3 0 4 = some [(.int .i64 n18), (.slice a19 i20 0), (.int .u64 n21), (.int .i64 n22)] ∧
 R (.agg #[(.int .i64 n18), (.slice a19 i20 0), (.int .u64 n21), (.int .i64 n22)]) H17) →
    CA en F.crossbarkit_CopyRes [(.agg #[(.int .i64 x0_0), (.slice x0_1 x0_1l 0), (.int .u64 x0_2), (.int .i64 x0_3)])] H R := by
  intro h
  refine wpFn_ok (Z := []) (fn := Go.Proofs.Try.f55) ?_ ?_ ?_
  · kernel_rfl
  · kernel_rfl
  · apply turnInto h
    kernel_rfl


/-! crossbarkit_SameRes -/

theorem vc_crossbarkit_SameRes (x0_0 : Int) (x0_1 : Option Addr) (x0_1l : Nat) (x0_2 : Int) (x0_3 : Int) (x1_0 : Int) (x1_1 : Option Addr) (x1_1l : Nat) (x1_2 : Int) (x1_3 : Int) (H : Heap) (R : Value → Heap → Prop) :
    (
 nwH H (.cells true 0 [(.int .i64 x0_0), (.slice x0_1 x0_1l 0), (.int .u64 x0_2), (.int .i64 x0_3)]) fun i1 H2 =>
 nwH H2 (.cells true 0 [(.int .i64 x1_0), (.slice x1_1 x1_1l 0), (.int .u64 x1_2), (.int .i64 x1_3)]) fun i3 H4 =>
 ∃ n5, H4.cell i1 3 = some (.int .i64 n5) ∧
 ∃ n6, H4.cell i3 3 = some (.int .i64 n6) ∧
 bif (n5 == n6) then (
 ∃ n7, ∃ a8 i9, ∃ n10, ∃ n11, H4.cellsAt i1 0 4 = some [(.int .i64 n7), (.slice a8 i9 0), (.int .u64 n10), (.int .i64 n11)] ∧
 ∃ n12, ∃ a13 i14, ∃ n15, ∃ n16, H4.cellsAt i3 0 4 = some [(.int .i64 n12), (.slice a13 i14 0), (.int .u64 n15), (.int .i64 n16)] ∧
 CA en F.crossbarkit_LikeRes [(.agg #[(.int .i64 n7), (.slice a8 i9 0), (.int .u64 n10), (.int .i64 n11)]), (.agg #[(.int .i64 n12), (.slice a13 i14 0), (.int .u64 n15), (.int .i64 n16)])] H4 fun v17 H18 =>
 ∃ b19, v17 = (.bool b19) ∧
 R (.bool b19) H18)
 else (
 R (.bool false) H4)) →
    CA en F.crossbarkit_SameRes [(.agg #[(.int .i64 x0_0), (.slice x0_1 x0_1l 0), (.int .u64 x0_2), (.int .i64 x0_3)]), (.agg #[(.int .i64 x1_0), (.slice x1_1 x1_1l 0), (.int .u64 x1_2), (.int .i64 x1_3)])] H R := by
  intro h
  refine wpFn_ok (Z := []) (fn := Go.Proofs.Try.f56) ?_ ?_ ?_
  · kernel_rfl
  · kernel_rfl
  · apply turnInto h
    kernel_rfl


/-! crossbarkit_kinds -/

theorem vc_crossbarkit_kinds (x0 : Int) (H : Heap) (R : Value → Heap → Prop) :
    (
 bif (x0 == 1) then (
 nwH H (.cells true 1 [(.int .i64 1), (.int .i64 2), (.int .i64 4)]) fun i1 H2 =>
 R (.slice (some ⟨i1, 0, none⟩) 3 0) H2)
 else (
 bif (x0 == 2) then (
 nwH H (.cells true 1 [(.int .i64 1), (.int .i64 2), (.int .i64 4)]) fun i3 H4 =>
 R (.slice (some ⟨i3, 0, none⟩) 3 0) H4)
 else (
 bif (x0 == 3) then (
 nwH H (.cells true 1 [(.int .i64 1), (.int .i64 2), (.int .i64 4)]) fun i5 H6 =>
 R (.slice (some ⟨i5, 0, none⟩) 3 0) H6)
 else (
 bif (x0 == 4) then (
 nwH H (.cells true 1 [(.int .i64 1), (.int .i64 2), (.int .i64 3), (.int .i64 4), (.int .i64 5)]) fun i7 H8 =>
 R (.slice (some ⟨i7, 0, none⟩) 5 0) H8)
 else (
 bif (x0 == 5) then (
 nwH H (.cells true 1 [(.int .i64 1), (.int .i64 2), (.int .i64 3), (.int .i64 4), (.int .i64 5)]) fun i9 H10 =>
 R (.slice (some ⟨i9, 0, none⟩) 5 0) H10)
 else (
 bif (x0 == 6) then (
 nwH H (.cells true 1 [(.int .i64 6), (.int .i64 7), (.int .i64 8)]) fun i11 H12 =>
 R (.slice (some ⟨i11, 0, none⟩) 3 0) H12)
 else (
 bif (x0 == 7) then (
 nwH H (.cells true 1 [(.int .i64 6), (.int .i64 7), (.int .i64 8)]) fun i13 H14 =>
 R (.slice (some ⟨i13, 0, none⟩) 3 0) H14)
 else (
 bif (x0 == 8) then (
 nwH H (.cells true 1 [(.int .i64 6), (.int .i64 8)]) fun i15 H16 =>
 R (.slice (some ⟨i15, 0, none⟩) 2 0) H16)
 else (
 nwH H (.cells true 1 [(.int .i64 1), (.int .i64 2), (.int .i64 3), (.int .i64 4)]) fun i17 H18 =>
 R (.slice (some ⟨i17, 0, none⟩) 4 0) H18))))))))) →
    CA en F.crossbarkit_kinds [(.int .i64 x0)] H R := by
  intro h
  refine wpFn_ok (Z := []) (fn := Go.Proofs.Try.f67) ?_ ?_ ?_
  · kernel_rfl
  · kernel_rfl
  · apply turnInto h
    kernel_rfl


/-! crossbarkit_CopyWords -/
noncomputable def L_crossbarkit_CopyWords_0 : Code := loopAt Go.Proofs.Try.f68 0

theorem vc_crossbarkit_CopyWords (x0 : Option Addr) (x0l : Nat) (H : Heap) (R : Value → Heap → Prop) :
    (
 LA en L_crossbarkit_CopyWords_0 [(.slice x0 x0l 0), undef, (.slice none 0 0), (.slice none 0 0), (.int .i64 0), undef, undef, undef, undef, undef, undef, undef, undef, undef, undef, undef, undef, undef, undef] H [(X.exit 0, fun (y1 : Fr) (H2 : Heap) =>
 asSl (y1.getD 3 undef) fun a3 i4 =>
 R (.slice a3 i4 0) H2)]) →
    CA en F.crossbarkit_CopyWords [(.slice x0 x0l 0)] H R := by
  intro h
  refine wpFn_ok (Z := [[(3, (.slice none 0 0))]]) (fn := Go.Proofs.Try.f68) ?_ ?_ ?_
  · kernel_rfl
  · kernel_rfl
  · apply turnInto h
    kernel_rfl

theorem use_crossbarkit_CopyWords_0 {t0 : Option Addr} {t0l : Nat} {K0 : Fr → Heap → Prop} {t3 : Option Addr} {t3l : Nat} {t4 : Int} {t5 : Value} {t6 : Value} {t7 : Value} {t8 : Value} {t9 : Value} {t10 : Value} {t11 : Value} {t12 : Value} {t13 : Value} {t14 : Value} {t15 : Value} {t16 : Value} {t17 : Value} {H : Heap} (I : Nat → Option Addr → Nat → Int → Heap → Prop) (n : Nat) (h0 : I n t3 t3l t4 H)
    (hstep : ∀ (n : Nat) (t3 : Option Addr) (t3l : Nat) (t4 : Int) (ys : Fr) (H : Heap), I n t3 t3l t4 H →
    (
 bif (decide (t4 < ((t0l : Nat) : Int))) then (
 inB t4 t0l ∧
 asRow t0 fun i1 i2 =>
 ∃ n3, H.cell i1 (i2 + (t4.toNat * 1)) = some (.int .u64 n3) ∧
 nwH H (.cells true 1 [(.int .u64 n3)]) fun i4 H5 =>
 ∃ l6, rowOf H5 1 (some ⟨i4, 0, none⟩) 1 = some l6 ∧
 apd H5 8 1 t3 t3l 1 l6 fun a7 i8 H9 =>
 ∃ k10, k10 < n ∧
 I k10 a7 i8 (IntKind.i64.wrap (t4 + 1)) H9)
 else (
 K0 [(.slice t0 t0l 0), undef, (.slice none 0 0), (.slice t3 t3l 0), (.int .i64 t4), (.int .i64 t4), (.slice t0 t0l 0), (.int .i64 ((t0l : Nat) : Int)), (.bool false), (ys.getD 9 undef), (ys.getD 10 undef), (ys.getD 11 undef), (ys.getD 12 undef), (ys.getD 13 undef), (ys.getD 14 undef), (ys.getD 15 undef), (ys.getD 16 undef), (ys.getD 17 undef), undef] H))) :
    LA en L_crossbarkit_CopyWords_0 [(.slice t0 t0l 0), undef, (.slice none 0 0), (.slice t3 t3l 0), (.int .i64 t4), t5, t6, t7, t8, t9, t10, t11, t12, t13, t14, t15, t16, t17, undef] H [(X.exit 0, K0)] := by
  refine LA_rule (Z := []) (fun m xs H' => asSl (xs.getD 3 undef) fun t3 t3l => AS.asInt .i64 (xs.getD 4 undef) fun t4 => I m t3 t3l t4 H') ?_ n H ?_
  · intro n H
    suffices hs : ∀ s5 : Value, ∀ s6 : Value, ∀ s7 : Value, ∀ s8 : Value, ∀ s11 : Value, ∀ s12 : Value, ∀ s13 : Value, ∀ s14 : Value, ∀ s15 : Value, ∀ s16 : Value, ∀ s17 : Value, ∀ s3 : Value, ∀ s9 : Value, ∀ s10 : Value, ∀ s4 : Value, ((asSl s3 fun t3 t3l => AS.asInt .i64 s4 fun t4 => I n t3 t3l t4 H) → wpCode en L_crossbarkit_CopyWords_0 [] [(.slice t0 t0l 0), undef, (.slice none 0 0), s3, s4, s5, s6, s7, s8, s9, s10, s11, s12, s13, s14, s15, s16, s17, undef] H (loopQ (fun m xs H' => asSl (xs.getD 3 undef) fun t3 t3l => AS.asInt .i64 (xs.getD 4 undef) fun t4 => I m t3 t3l t4 H') n [(X.exit 0, K0)])) by
      apply turnInto hs
      kernel_rfl
    intro s5 s6 s7 s8 s11 s12 s13 s14 s15 s16 s17 s3 s9 s10 s4 hP
    replace hP := asSl_elim hP
    obtain ⟨t3, t3l, rfl, hP⟩ := hP
    replace hP := asInt_elim hP
    obtain ⟨t4, rfl, hP⟩ := hP
    apply turnInto (hstep n t3 t3l t4 [(.slice t0 t0l 0), undef, (.slice none 0 0), (.slice t3 t3l 0), (.int .i64 t4), s5, s6, s7, s8, s9, s10, s11, s12, s13, s14, s15, s16, s17, undef] H hP)
    kernel_rfl
  · apply turnInto h0
    kernel_rfl


/-! crossbarkit_markWords -/

theorem vc_crossbarkit_markWords (x0 : Int) (H : Heap) (R : Value → Heap → Prop) :
    (
 R (.int .u64 (IntKind.u64.wrap (7001 + (IntKind.u64.wrap (13 * (IntKind.u64.wrap x0)))))) H) →
    CA en F.crossbarkit_markWords [(.int .i64 x0)] H R := by
  intro h
  refine wpFn_ok (Z := []) (fn := Go.Proofs.Try.f69) ?_ ?_ ?_
  · kernel_rfl
  · kernel_rfl
  · apply turnInto h
    kernel_rfl


/-! crossbarkit_LikeRes -/

theorem vc_crossbarkit_LikeRes (x0_0 : Int) (x0_1 : Option Addr) (x0_1l : Nat) (x0_2 : Int) (x0_3 : Int) (x1_0 : Int) (x1_1 : Option Addr) (x1_1l : Nat) (x1_2 : Int) (x1_3 : Int) (H : Heap) (R : Value → Heap → Prop) :
    (
 nwH H (.cells true 0 [(.int .i64 x0_0), (.slice x0_1 x0_1l 0), (.int .u64 x0_2), (.int .i64 x0_3)]) fun i1 H2 =>
 nwH H2 (.cells true 0 [(.int .i64 x1_0), (.slice x1_1 x1_1l 0), (.int .u64 x1_2), (.int .i64 x1_3)]) fun i3 H4 =>
 ∃ n5, H4.cell i1 0 = some (.int .i64 n5) ∧
 ∃ n6, H4.cell i3 0 = some (.int .i64 n6) ∧
 bif (n5 == n6) then (
 ∃ n7, H4.cell i1 2 = some (.int .u64 n7) ∧
 ∃ n8, H4.cell i3 2 = some (.int .u64 n8) ∧
 bif (n7 == n8) then (
 ∃ a9 i10, H4.cell i1 1 = some (.slice a9 i10 0) ∧
 ∃ a11 i12, H4.cell i3 1 = some (.slice a11 i12 0) ∧
 CA en F.crossbarkit_SameWords [(.slice a9 i10 0), (.slice a11 i12 0)] H4 fun v13 H14 =>
 ∃ b15, v13 = (.bool b15) ∧
 R (.bool b15) H14)
 else (
 R (.bool false) H4))
 else (
 R (.bool false) H4)) →
    CA en F.crossbarkit_LikeRes [(.agg #[(.int .i64 x0_0), (.slice x0_1 x0_1l 0), (.int .u64 x0_2), (.int .i64 x0_3)]), (.agg #[(.int .i64 x1_0), (.slice x1_1 x1_1l 0), (.int .u64 x1_2), (.int .i64 x1_3)])] H R := by
  intro h
  refine wpFn_ok (Z := []) (fn := Go.Proofs.Try.f70) ?_ ?_ ?_
  · kernel_rfl
  · kernel_rfl
  · apply turnInto h
    kernel_rfl


/-! crossbarkit_SameWords -/
noncomputable def L_crossbarkit_SameWords_0 : Code := loopAt Go.Proofs.Try.f78 0

theorem vc_crossbarkit_SameWords (x0 : Option Addr) (x0l : Nat) (x1 : Option Addr) (x1l : Nat) (H : Heap) (R : Value → Heap → Prop) :
    (
 bif (((x0l : Nat) : Int) != ((x1l : Nat) : Int)) then (
 R (.bool false) H)
 else (
 LA en L_crossbarkit_SameWords_0 [(.slice x0 x0l 0), (.slice x1 x1l 0), undef, undef, (.bool false), (.int .i64 0), (.slice x0 x0l 0), (.int .i64 ((x0l : Nat) : Int)), (.slice x1 x1l 0), (.int .i64 ((x1l : Nat) : Int)), (.bool false), undef, undef, undef, undef, undef, undef, undef, undef, undef, undef, undef, undef, undef, undef, undef] H [(X.exit 0, fun (y1 : Fr) (H2 : Heap) =>
 AS.asBool (y1.getD 4 undef) fun b3 =>
 R (.bool true) H2),
 (X.ret, fun (y4 : Fr) (H5 : Heap) =>
 AS.asBool (y4.getD 4 undef) fun b6 =>
 R (.bool b6) H5)])) →
    CA en F.crossbarkit_SameWords [(.slice x0 x0l 0), (.slice x1 x1l 0)] H R := by
  intro h
  refine wpFn_ok (Z := [[(4, (.bool false))]]) (fn := Go.Proofs.Try.f78) ?_ ?_ ?_
  · kernel_rfl
  · kernel_rfl
  · apply turnInto h
    kernel_rfl

theorem use_crossbarkit_SameWords_0 {t0 : Option Addr} {t0l : Nat} {t1 : Option Addr} {t1l : Nat} {t6 : Option Addr} {t6l : Nat} {t7 : Int} {t8 : Option Addr} {t8l : Nat} {t9 : Int} {K0 : Fr → Heap → Prop} {K1 : Fr → Heap → Prop} {t4 : Bool} {t5 : Int} {t11 : Value} {t12 : Value} {t13 : Value} {t14 : Value} {t15 : Value} {t16 : Value} {t17 : Value} {t18 : Value} {t19 : Value} {t20 : Value} {t21 : Value} {t22 : Value} {t23 : Value} {t24 : Value} {t25 : Value} {H : Heap} (I : Nat → Bool → Int → Heap → Prop) (n : Nat) (h0 : I n t4 t5 H)
    (hstep : ∀ (n : Nat) (t4 : Bool) (t5 : Int) (ys : Fr) (H : Heap), I n t4 t5 H →
    (
 bif (decide (t5 < ((t0l : Nat) : Int))) then (
 inB t5 t0l ∧
 asRow t0 fun i1 i2 =>
 ∃ n3, (H.bump 9).cell i1 (i2 + (t5.toNat * 1)) = some (.int .u64 n3) ∧
 inB t5 t1l ∧
 asRow t1 fun i4 i5 =>
 ∃ n6, (H.bump 9).cell i4 (i5 + (t5.toNat * 1)) = some (.int .u64 n6) ∧
 (
 bif (n3 != n6) then (
 K1 [(.slice t0 t0l 0), (.slice t1 t1l 0), undef, undef, (.bool false), (.int .i64 t5), (.slice t6 t6l 0), (.int .i64 t7), (.slice t8 t8l 0), (.int .i64 t9), (.bool false), (.int .i64 t5), (.slice t0 t0l 0), (.int .i64 ((t0l : Nat) : Int)), (.bool true), (ys.getD 15 undef), (ys.getD 16 undef), (.slice t0 t0l 0), (.int .i64 t5), (.pointer (some ⟨i1, (i2 + (t5.toNat * 1)), none⟩)), (.int .u64 n3), (.slice t1 t1l 0), (.int .i64 t5), (.pointer (some ⟨i4, (i5 + (t5.toNat * 1)), none⟩)), (.int .u64 n6), (.bool true)] (H.bump 9))
 else (
 ∃ k7, k7 < n ∧
 I k7 t4 (IntKind.i64.wrap (t5 + 1)) (H.bump 9))) ∧
 True)
 else (
 K0 [(.slice t0 t0l 0), (.slice t1 t1l 0), undef, undef, (.bool t4), (.int .i64 t5), (.slice t6 t6l 0), (.int .i64 t7), (.slice t8 t8l 0), (.int .i64 t9), (.bool false), (.int .i64 t5), (.slice t0 t0l 0), (.int .i64 ((t0l : Nat) : Int)), (.bool false), (ys.getD 15 undef), (ys.getD 16 undef), (ys.getD 17 undef), (ys.getD 18 undef), (ys.getD 19 undef), (ys.getD 20 undef), (ys.getD 21 undef), (ys.getD 22 undef), (ys.getD 23 undef), (ys.getD 24 undef), (ys.getD 25 undef)] H))) :
    LA en L_crossbarkit_SameWords_0 [(.slice t0 t0l 0), (.slice t1 t1l 0), undef, undef, (.bool t4), (.int .i64 t5), (.slice t6 t6l 0), (.int .i64 t7), (.slice t8 t8l 0), (.int .i64 t9), (.bool false), t11, t12, t13, t14, t15, t16, t17, t18, t19, t20, t21, t22, t23, t24, t25] H [(X.exit 0, K0), (X.ret, K1)] := by
  refine LA_rule (Z := []) (fun m xs H' => AS.asBool (xs.getD 4 undef) fun t4 => AS.asInt .i64 (xs.getD 5 undef) fun t5 => I m t4 t5 H') ?_ n H ?_
  · intro n H
    suffices hs : ∀ s11 : Value, ∀ s12 : Value, ∀ s13 : Value, ∀ s14 : Value, ∀ s17 : Value, ∀ s18 : Value, ∀ s19 : Value, ∀ s20 : Value, ∀ s21 : Value, ∀ s22 : Value, ∀ s23 : Value, ∀ s24 : Value, ∀ s25 : Value, ∀ s4 : Value, ∀ s15 : Value, ∀ s16 : Value, ∀ s5 : Value, ((AS.asBool s4 fun t4 => AS.asInt .i64 s5 fun t5 => I n t4 t5 H) → wpCode en L_crossbarkit_SameWords_0 [] [(.slice t0 t0l 0), (.slice t1 t1l 0), undef, undef, s4, s5, (.slice t6 t6l 0), (.int .i64 t7), (.slice t8 t8l 0), (.int .i64 t9), (.bool false), s11, s12, s13, s14, s15, s16, s17, s18, s19, s20, s21, s22, s23, s24, s25] H (loopQ (fun m xs H' => AS.asBool (xs.getD 4 undef) fun t4 => AS.asInt .i64 (xs.getD 5 undef) fun t5 => I m t4 t5 H') n [(X.exit 0, K0), (X.ret, K1)])) by
      apply turnInto hs
      kernel_rfl
    intro s11 s12 s13 s14 s17 s18 s19 s20 s21 s22 s23 s24 s25 s4 s15 s16 s5 hP
    replace hP := asBool_elim hP
    obtain ⟨t4, rfl, hP⟩ := hP
    replace hP := asInt_elim hP
    obtain ⟨t5, rfl, hP⟩ := hP
    apply turnInto (hstep n t4 t5 [(.slice t0 t0l 0), (.slice t1 t1l 0), undef, undef, (.bool t4), (.int .i64 t5), (.slice t6 t6l 0), (.int .i64 t7), (.slice t8 t8l 0), (.int .i64 t9), (.bool false), s11, s12, s13, s14, s15, s16, s17, s18, s19, s20, s21, s22, s23, s24, s25] H hP)
    kernel_rfl
  · apply turnInto h0
    kernel_rfl

end Go.Proofs.Ytlkmdcncpdadbaa
