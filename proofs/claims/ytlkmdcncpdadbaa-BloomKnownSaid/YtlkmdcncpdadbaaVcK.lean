/-
  What functions of this seat's program need (printed by a program, checked by the kernel).
-/
import Derived.Test.YtlkmdcncpdadbaaNames
import Derived.Test.YtlkmdcncpdadbaaAs41
namespace Go.Proofs.Ytlkmdcncpdadbaa
open Go Go.AS Go.RowKit
set_option linter.unusedVariables false
set_option maxRecDepth 100000

/-! crossbarkit_CopyDecls -/
noncomputable def L_crossbarkit_CopyDecls_0 : Code := loopAt Go.Proofs.Try.f13 0

theorem vc_crossbarkit_CopyDecls (x0 : Option Addr) (x0l : Nat) (H : Heap) (R : Value → Heap → Prop) :
    (
 LA en L_crossbarkit_CopyDecls_0 [(.slice x0 x0l 0), undef, (.slice none 0 0), (.slice none 0 0), (.int .i64 0), undef, undef, undef, undef, undef, undef, undef, undef, undef, undef, undef, undef, undef, undef] H [(X.exit 0, fun (x1 : Fr) (H2 : Heap) =>
 asSl (x1.getD 3 undef) fun a3 i4 =>
 R (.slice a3 i4 0) H2)]) →
    CA en F.crossbarkit_CopyDecls [(.slice x0 x0l 0)] H R := by
  intro h
  refine wpFn_ok (Z := [[(3, (.slice none 0 0))]]) (fn := Go.Proofs.Try.f13) ?_ ?_ ?_
  · kernel_rfl
  · kernel_rfl
  · apply turnInto h
    kernel_rfl

theorem use_crossbarkit_CopyDecls_0 {t0 : Option Addr} {t0l : Nat} {K0 : Fr → Heap → Prop} {t3 : Option Addr} {t3l : Nat} {t4 : Int} {t5 : Value} {t6 : Value} {t7 : Value} {t8 : Value} {t9 : Value} {t10 : Value} {t11 : Value} {t12 : Value} {t13 : Value} {t14 : Value} {t15 : Value} {t16 : Value} {t17 : Value} {H : Heap} (I : Nat → Option Addr → Nat → Int → Heap → Prop) (n : Nat) (h0 : I n t3 t3l t4 H)
    (hstep : ∀ (n : Nat) (t3 : Option Addr) (t3l : Nat) (t4 : Int) (ys : Fr) (H : Heap), I n t3 t3l t4 H →
    (
 bif (decide (t4 < ((t0l : Nat) : Int))) then (
 inB t4 t0l ∧
 asRow t0 fun i1 i2 =>
 ∃ n3, ∃ n4, ∃ n5, ∃ n6, ∃ n7, H.cellsAt i1 (i2 + (t4.toNat * 5)) 5 = some [(.int .i64 n3), (.int .i64 n4), (.int .i64 n5), (.int .i64 n6), (.int .i64 n7)] ∧
 nwH H (.cells true 5 [(.int .i64 n3), (.int .i64 n4), (.int .i64 n5), (.int .i64 n6), (.int .i64 n7)]) fun i8 H9 =>
 ∃ l10, rowOf H9 5 (some ⟨i8, 0, none⟩) 1 = some l10 ∧
 apd H9 40 5 t3 t3l 1 l10 fun a11 i12 H13 =>
 ∃ k14, k14 < n ∧
 I k14 a11 i12 (IntKind.i64.wrap (t4 + 1)) H13)
 else (
 K0 [(.slice t0 t0l 0), undef, (.slice none 0 0), (.slice t3 t3l 0), (.int .i64 t4), (.int .i64 t4), (.slice t0 t0l 0), (.int .i64 ((t0l : Nat) : Int)), (.bool false), (ys.getD 9 undef), (ys.getD 10 undef), (ys.getD 11 undef), (ys.getD 12 undef), (ys.getD 13 undef), (ys.getD 14 undef), (ys.getD 15 undef), (ys.getD 16 undef), (ys.getD 17 undef), undef] H))) :
    LA en L_crossbarkit_CopyDecls_0 [(.slice t0 t0l 0), undef, (.slice none 0 0), (.slice t3 t3l 0), (.int .i64 t4), t5, t6, t7, t8, t9, t10, t11, t12, t13, t14, t15, t16, t17, undef] H [(X.exit 0, K0)] := by
  refine LA_rule (Z := []) (fun m xs H' => asSl (xs.getD 3 undef) fun t3 t3l => AS.asInt .i64 (xs.getD 4 undef) fun t4 => I m t3 t3l t4 H') ?_ n H ?_
  · intro n H
    suffices hs : ∀ s5 : Value, ∀ s6 : Value, ∀ s7 : Value, ∀ s8 : Value, ∀ s11 : Value, ∀ s12 : Value, ∀ s13 : Value, ∀ s14 : Value, ∀ s15 : Value, ∀ s16 : Value, ∀ s17 : Value, ∀ s3 : Value, ∀ s9 : Value, ∀ s10 : Value, ∀ s4 : Value, ((asSl s3 fun t3 t3l => AS.asInt .i64 s4 fun t4 => I n t3 t3l t4 H) → wpCode en L_crossbarkit_CopyDecls_0 [] [(.slice t0 t0l 0), undef, (.slice none 0 0), s3, s4, s5, s6, s7, s8, s9, s10, s11, s12, s13, s14, s15, s16, s17, undef] H (loopQ (fun m xs H' => asSl (xs.getD 3 undef) fun t3 t3l => AS.asInt .i64 (xs.getD 4 undef) fun t4 => I m t3 t3l t4 H') n [(X.exit 0, K0)])) by
      apply turnInto hs
      kernel_rfl
    intro s5 s6 s7 s8 s11 s12 s13 s14 s15 s16 s17 s3 s9 s10 s4 hP
    replace hP := asSl_elim hP
    obtain ⟨t3, t3l, rfl, hP⟩ := hP
    replace hP := asInt_elim hP
    obtain ⟨t4, rfl, hP⟩ := hP
    apply turnInto (hstep n t3 t3l t4 [(.slice t0 t0l 0), undef, (.slice none 0 0), (.slice t3 t3l 0), (.int .i64 t4), s5, s6, s7, s8, s9, s10, s11, s12, s13, s14, s15, s16, s17, undef] H hP)
    kernel_rfl
  · apply turnInto h0
    kernel_rfl


/-! crossbarkit_SameDecls -/
noncomputable def L_crossbarkit_SameDecls_0 : Code := loopAt Go.Proofs.Try.f16 0

theorem vc_crossbarkit_SameDecls (x0 : Option Addr) (x0l : Nat) (x1 : Option Addr) (x1l : Nat) (H : Heap) (R : Value → Heap → Prop) :
    (
 bif (((x0l : Nat) : Int) != ((x1l : Nat) : Int)) then (
 R (.bool false) H)
 else (
 LA en L_crossbarkit_SameDecls_0 [(.slice x0 x0l 0), (.slice x1 x1l 0), undef, undef, (.bool false), (.int .i64 0), (.slice x0 x0l 0), (.int .i64 ((x0l : Nat) : Int)), (.slice x1 x1l 0), (.int .i64 ((x1l : Nat) : Int)), (.bool false), undef, undef, undef, undef, undef, undef, undef, undef, undef, undef, undef, undef, undef, undef, undef] H [(X.exit 0, fun (x1 : Fr) (H2 : Heap) =>
 AS.asBool (x1.getD 4 undef) fun b3 =>
 R (.bool true) H2),
 (X.ret, fun (x4 : Fr) (H5 : Heap) =>
 AS.asBool (x4.getD 4 undef) fun b6 =>
 R (.bool b6) H5)])) →
    CA en F.crossbarkit_SameDecls [(.slice x0 x0l 0), (.slice x1 x1l 0)] H R := by
  intro h
  refine wpFn_ok (Z := [[(4, (.bool false))]]) (fn := Go.Proofs.Try.f16) ?_ ?_ ?_
  · kernel_rfl
  · kernel_rfl
  · apply turnInto h
    kernel_rfl

theorem use_crossbarkit_SameDecls_0 {t0 : Option Addr} {t0l : Nat} {t1 : Option Addr} {t1l : Nat} {t6 : Option Addr} {t6l : Nat} {t7 : Int} {t8 : Option Addr} {t8l : Nat} {t9 : Int} {K0 : Fr → Heap → Prop} {K1 : Fr → Heap → Prop} {t4 : Bool} {t5 : Int} {t11 : Value} {t12 : Value} {t13 : Value} {t14 : Value} {t15 : Value} {t16 : Value} {t17 : Value} {t18 : Value} {t19 : Value} {t20 : Value} {t21 : Value} {t22 : Value} {t23 : Value} {t24 : Value} {t25 : Value} {H : Heap} (I : Nat → Bool → Int → Heap → Prop) (n : Nat) (h0 : I n t4 t5 H)
    (hstep : ∀ (n : Nat) (t4 : Bool) (t5 : Int) (ys : Fr) (H : Heap), I n t4 t5 H →
    (
 bif (decide (t5 < ((t0l : Nat) : Int))) then (
 inB t5 t0l ∧
 asRow t0 fun i1 i2 =>
 ∃ n3, ∃ n4, ∃ n5, ∃ n6, ∃ n7, (H.bump 9).cellsAt i1 (i2 + (t5.toNat * 5)) 5 = some [(.int .i64 n3), (.int .i64 n4), (.int .i64 n5), (.int .i64 n6), (.int .i64 n7)] ∧
 inB t5 t1l ∧
 asRow t1 fun i8 i9 =>
 ∃ n10, ∃ n11, ∃ n12, ∃ n13, ∃ n14, (H.bump 9).cellsAt i8 (i9 + (t5.toNat * 5)) 5 = some [(.int .i64 n10), (.int .i64 n11), (.int .i64 n12), (.int .i64 n13), (.int .i64 n14)] ∧
 (
 bif (!((n3 == n10) && ((n4 == n11) && ((n5 == n12) && ((n6 == n13) && (n7 == n14)))))) then (
 K1 [(.slice t0 t0l 0), (.slice t1 t1l 0), undef, undef, (.bool false), (.int .i64 t5), (.slice t6 t6l 0), (.int .i64 t7), (.slice t8 t8l 0), (.int .i64 t9), (.bool false), (.int .i64 t5), (.slice t0 t0l 0), (.int .i64 ((t0l : Nat) : Int)), (.bool true), (ys.getD 15 undef), (ys.getD 16 undef), (.slice t0 t0l 0), (.int .i64 t5), (.pointer (some ⟨i1, (i2 + (t5.toNat * 5)), none⟩)), (.agg #[(.int .i64 n3), (.int .i64 n4), (.int .i64 n5), (.int .i64 n6), (.int .i64 n7)]), (.slice t1 t1l 0), (.int .i64 t5), (.pointer (some ⟨i8, (i9 + (t5.toNat * 5)), none⟩)), (.agg #[(.int .i64 n10), (.int .i64 n11), (.int .i64 n12), (.int .i64 n13), (.int .i64 n14)]), (.bool true)] (H.bump 9))
 else (
 ∃ k15, k15 < n ∧
 I k15 t4 (IntKind.i64.wrap (t5 + 1)) (H.bump 9))) ∧
 True)
 else (
 K0 [(.slice t0 t0l 0), (.slice t1 t1l 0), undef, undef, (.bool t4), (.int .i64 t5), (.slice t6 t6l 0), (.int .i64 t7), (.slice t8 t8l 0), (.int .i64 t9), (.bool false), (.int .i64 t5), (.slice t0 t0l 0), (.int .i64 ((t0l : Nat) : Int)), (.bool false), (ys.getD 15 undef), (ys.getD 16 undef), (ys.getD 17 undef), (ys.getD 18 undef), (ys.getD 19 undef), (ys.getD 20 undef), (ys.getD 21 undef), (ys.getD 22 undef), (ys.getD 23 undef), (ys.getD 24 undef), (ys.getD 25 undef)] H))) :
    LA en L_crossbarkit_SameDecls_0 [(.slice t0 t0l 0), (.slice t1 t1l 0), undef, undef, (.bool t4), (.int .i64 t5), (.slice t6 t6l 0), (.int .i64 t7), (.slice t8 t8l 0), (.int .i64 t9), (.bool false), t11, t12, t13, t14, t15, t16, t17, t18, t19, t20, t21, t22, t23, t24, t25] H [(X.exit 0, K0), (X.ret, K1)] := by
  refine LA_rule (Z := []) (fun m xs H' => AS.asBool (xs.getD 4 undef) fun t4 => AS.asInt .i64 (xs.getD 5 undef) fun t5 => I m t4 t5 H') ?_ n H ?_
  · intro n H
    suffices hs : ∀ s11 : Value, ∀ s12 : Value, ∀ s13 : Value, ∀ s14 : Value, ∀ s17 : Value, ∀ s18 : Value, ∀ s19 : Value, ∀ s20 : Value, ∀ s21 : Value, ∀ s22 : Value, ∀ s23 : Value, ∀ s24 : Value, ∀ s25 : Value, ∀ s4 : Value, ∀ s15 : Value, ∀ s16 : Value, ∀ s5 : Value, ((AS.asBool s4 fun t4 => AS.asInt .i64 s5 fun t5 => I n t4 t5 H) → wpCode en L_crossbarkit_SameDecls_0 [] [(.slice t0 t0l 0), (.slice t1 t1l 0), undef, undef, s4, s5, (.slice t6 t6l 0), (.int .i64 t7), (.slice t8 t8l 0), (.int .i64 t9), (.bool false), s11, s12, s13, s14, s15, s16, s17, s18, s19, s20, s21, s22, s23, s24, s25] H (loopQ (fun m xs H' => AS.asBool (xs.getD 4 undef) fun t4 => AS.asInt .i64 (xs.getD 5 undef) fun t5 => I m t4 t5 H') n [(X.exit 0, K0), (X.ret, K1)])) by
      apply turnInto hs
      kernel_rfl
    intro s11 s12 s13 s14 s17 s18 s19 s20 s21 s22 s23 s24 s25 s4 s15 s16 s5 hP
    replace hP := asBool_elim hP
    obtain ⟨t4, rfl, hP⟩ := hP
    replace hP := asInt_elim hP
    obtain ⟨t5, rfl, hP⟩ := hP
    apply turnInto (hstep n t4 t5 [(.slice t0 t0l 0), (.slice t1 t1l 0), undef, undef, (.bool t4), (.int .i64 t5), (.slice t6 t6l 0), (.int .i64 t7), (.slice t8 t8l 0), (.int .i64 t9), (.bool false), s11, s12, s13, s14, s15, s16, s17, s18, s19, s20, s21, s22, s23, s24, s25] H hP)
    kernel_rfl
  · apply turnInto h0
    kernel_rfl


/-! crossbarkit_Pick -/

theorem vc_crossbarkit_Pick (x0 : Int) (x1 : Int) (H : Heap) (R : Value → Heap → Prop) :
    (
 bif (decide (x1 < 1)) then (
 R (.int .i64 0) H)
 else (
 nz x1 ∧
 bif (decide ((Int.tmod x0 x1) < 0)) then (
 R (.int .i64 (IntKind.i64.wrap ((Int.tmod x0 x1) + x1))) H)
 else (
 R (.int .i64 (Int.tmod x0 x1)) H))) →
    CA en F.crossbarkit_Pick [(.int .i64 x0), (.int .i64 x1)] H R := by
  intro h
  refine wpFn_ok (Z := []) (fn := Go.Proofs.Try.f37) ?_ ?_ ?_
  · kernel_rfl
  · kernel_rfl
  · apply turnInto h
    kernel_rfl


/-! crossbarkit_Total -/
noncomputable def L_crossbarkit_Total_0 : Code := loopAt Go.Proofs.Try.f49 0

theorem vc_crossbarkit_Total (x0 : Option Addr) (x0l : Nat) (H : Heap) (R : Value → Heap → Prop) :
    (
 LA en L_crossbarkit_Total_0 [(.slice x0 x0l 0), undef, (.int .i64 0), (.int .i64 0), (.int .i64 0), undef, undef, undef, undef, undef, undef, undef, undef, undef, undef, undef, undef, undef, undef] H [(X.exit 0, fun (x1 : Fr) (H2 : Heap) =>
 AS.asInt .i64 (x1.getD 3 undef) fun n3 =>
 R (.int .i64 n3) H2)]) →
    CA en F.crossbarkit_Total [(.slice x0 x0l 0)] H R := by
  intro h
  refine wpFn_ok (Z := [[(3, (.int .i64 0))]]) (fn := Go.Proofs.Try.f49) ?_ ?_ ?_
  · kernel_rfl
  · kernel_rfl
  · apply turnInto h
    kernel_rfl

theorem use_crossbarkit_Total_0 {t0 : Option Addr} {t0l : Nat} {K0 : Fr → Heap → Prop} {t3 : Int} {t4 : Int} {t5 : Value} {t6 : Value} {t7 : Value} {t8 : Value} {t9 : Value} {t10 : Value} {t11 : Value} {t12 : Value} {t13 : Value} {t14 : Value} {t15 : Value} {t16 : Value} {t17 : Value} {H : Heap} (I : Nat → Int → Int → Heap → Prop) (n : Nat) (h0 : I n t3 t4 H)
    (hstep : ∀ (n : Nat) (t3 : Int) (t4 : Int) (ys : Fr) (H : Heap), I n t3 t4 H →
    (
 bif (decide (t4 < ((t0l : Nat) : Int))) then (
 inB t4 t0l ∧
 asRow t0 fun i1 i2 =>
 ∃ a3 i4, H.cell i1 (i2 + (t4.toNat * 1)) = some (.slice a3 i4 0) ∧
 ∃ k5, k5 < n ∧
 I k5 (IntKind.i64.wrap (t3 + ((i4 : Nat) : Int))) (IntKind.i64.wrap (t4 + 1)) H)
 else (
 K0 [(.slice t0 t0l 0), undef, (.int .i64 0), (.int .i64 t3), (.int .i64 t4), (.int .i64 t4), (.slice t0 t0l 0), (.int .i64 ((t0l : Nat) : Int)), (.bool false), (ys.getD 9 undef), (ys.getD 10 undef), (ys.getD 11 undef), (ys.getD 12 undef), (ys.getD 13 undef), (ys.getD 14 undef), (ys.getD 15 undef), (ys.getD 16 undef), (ys.getD 17 undef), undef] H))) :
    LA en L_crossbarkit_Total_0 [(.slice t0 t0l 0), undef, (.int .i64 0), (.int .i64 t3), (.int .i64 t4), t5, t6, t7, t8, t9, t10, t11, t12, t13, t14, t15, t16, t17, undef] H [(X.exit 0, K0)] := by
  refine LA_rule (Z := []) (fun m xs H' => AS.asInt .i64 (xs.getD 3 undef) fun t3 => AS.asInt .i64 (xs.getD 4 undef) fun t4 => I m t3 t4 H') ?_ n H ?_
  · intro n H
    suffices hs : ∀ s5 : Value, ∀ s6 : Value, ∀ s7 : Value, ∀ s8 : Value, ∀ s11 : Value, ∀ s12 : Value, ∀ s13 : Value, ∀ s14 : Value, ∀ s15 : Value, ∀ s16 : Value, ∀ s17 : Value, ∀ s3 : Value, ∀ s9 : Value, ∀ s10 : Value, ∀ s4 : Value, ((AS.asInt .i64 s3 fun t3 => AS.asInt .i64 s4 fun t4 => I n t3 t4 H) → wpCode en L_crossbarkit_Total_0 [] [(.slice t0 t0l 0), undef, (.int .i64 0), s3, s4, s5, s6, s7, s8, s9, s10, s11, s12, s13, s14, s15, s16, s17, undef] H (loopQ (fun m xs H' => AS.asInt .i64 (xs.getD 3 undef) fun t3 => AS.asInt .i64 (xs.getD 4 undef) fun t4 => I m t3 t4 H') n [(X.exit 0, K0)])) by
      apply turnInto hs
      kernel_rfl
    intro s5 s6 s7 s8 s11 s12 s13 s14 s15 s16 s17 s3 s9 s10 s4 hP
    replace hP := asInt_elim hP
    obtain ⟨t3, rfl, hP⟩ := hP
    replace hP := asInt_elim hP
    obtain ⟨t4, rfl, hP⟩ := hP
    apply turnInto (hstep n t3 t4 [(.slice t0 t0l 0), undef, (.int .i64 0), (.int .i64 t3), (.int .i64 t4), s5, s6, s7, s8, s9, s10, s11, s12, s13, s14, s15, s16, s17, undef] H hP)
    kernel_rfl
  · apply turnInto h0
    kernel_rfl


/-! crossbarkit_CopyOp -/

theorem vc_crossbarkit_CopyOp (x0_0 : Int) (x0_1 : Int) (x0_2 : Option Addr) (x0_2l : Nat) (x0_3 : Int) (x0_4 : Int) (H : Heap) (R : Value → Heap → Prop) :
    (
 nwH H (.cells true 0 [(.int .i64 x0_0), (.int .u64 x0_1), (.slice x0_2 x0_2l 0), (.int .i64 x0_3), (.int .i64 x0_4)]) fun i1 H2 =>
 nwH H2 (.cells true 0 [(.int .i64 0), (.int .u64 0), (.slice none 0 0), (.int .i64 0), (.int .i64 0)]) fun i3 H4 =>
 ∃ a5 i6, H4.cell i1 2 = some (.slice a5 i6 0) ∧
 CA en F.crossbarkit_CopyWords [(.slice a5 i6 0)] H4 fun v7 H8 =>
 ∃ a9 i10, v7 = (.slice a9 i10 0) ∧
 stc H8 i1 2 [(.slice a9 i10 0)] fun H11 =>
 ∃ n12, ∃ n13, ∃ a14 i15, ∃ n16, ∃ n17, H11.cellsAt i1 0 5 = some [(.int .i64 n12), (.int .u64 n13), (.slice a14 i15 0), (.int .i64 n16), (.int .i64 n17)] ∧
 stc H11 i3 0 [(.int .i64 n12), (.int .u64 n13), (.slice a14 i15 0), (.int .i64 n16), (.int .i64 n17)] fun H18 =>
 ∃ n19, ∃ n20, ∃ a21 i22, ∃ n23, ∃ n24, H18.cellsAt i3 0 5 = some [(.int .i64 n19), (.int .u64 n20), (.slice a21 i22 0), (.int .i64 n23), (.int .i64 n24)] ∧
 R (.agg #[(.int .i64 n19), (.int .u64 n20), (.slice a21 i22 0), (.int .i64 n23), (.int .i64 n24)]) H18) →
    CA en F.crossbarkit_CopyOp [(.agg #[(.int .i64 x0_0), (.int .u64 x0_1), (.slice x0_2 x0_2l 0), (.int .i64 x0_3), (.int .i64 x0_4)])] H R := by
  intro h
  refine wpFn_ok (Z := []) (fn := Go.Proofs.Try.f53) ?_ ?_ ?_
  · kernel_rfl
  · kernel_rfl
  · apply turnInto h
    kernel_rfl


/-! crossbarkit_SpoilWords -/
noncomputable def L_crossbarkit_SpoilWords_0 : Code := loopAt Go.Proofs.Try.f54 0

theorem vc_crossbarkit_SpoilWords (x0 : Option Addr) (x0l : Nat) (H : Heap) (R : Value → Heap → Prop) :
    (
 LA en L_crossbarkit_SpoilWords_0 [(.slice x0 x0l 0), undef, (.int .i64 0), undef, undef, undef, undef, undef, undef, undef, undef, undef, undef, undef, undef] H [(X.exit 0, fun (x1 : Fr) (H2 : Heap) =>
 R undef H2)]) →
    CA en F.crossbarkit_SpoilWords [(.slice x0 x0l 0)] H R := by
  intro h
  refine wpFn_ok (Z := [[]]) (fn := Go.Proofs.Try.f54) ?_ ?_ ?_
  · kernel_rfl
  · kernel_rfl
  · apply turnInto h
    kernel_rfl

theorem use_crossbarkit_SpoilWords_0 {t0 : Option Addr} {t0l : Nat} {K0 : Fr → Heap → Prop} {t2 : Int} {t3 : Value} {t4 : Value} {t5 : Value} {t6 : Value} {t7 : Value} {t8 : Value} {t9 : Value} {t10 : Value} {t11 : Value} {t12 : Value} {t13 : Value} {t14 : Value} {H : Heap} (I : Nat → Int → Heap → Prop) (n : Nat) (h0 : I n t2 H)
    (hstep : ∀ (n : Nat) (t2 : Int) (ys : Fr) (H : Heap), I n t2 H →
    (
 bif (decide (t2 < ((t0l : Nat) : Int))) then (
 CA en F.crossbarkit_markWords [(.int .i64 (IntKind.i64.wrap (t2 + 7)))] H fun v1 H2 =>
 ∃ n3, v1 = (.int .u64 n3) ∧
 inB t2 t0l ∧
 asRow t0 fun i4 i5 =>
 stc H2 i4 (i5 + (t2.toNat * 1)) [(.int .u64 n3)] fun H6 =>
 ∃ k7, k7 < n ∧
 I k7 (IntKind.i64.wrap (t2 + 1)) H6)
 else (
 K0 [(.slice t0 t0l 0), undef, (.int .i64 t2), (.int .i64 t2), (.slice t0 t0l 0), (.int .i64 ((t0l : Nat) : Int)), (.bool false), (ys.getD 7 undef), (ys.getD 8 undef), (ys.getD 9 undef), (ys.getD 10 undef), (ys.getD 11 undef), (ys.getD 12 undef), (ys.getD 13 undef), (ys.getD 14 undef)] H))) :
    LA en L_crossbarkit_SpoilWords_0 [(.slice t0 t0l 0), undef, (.int .i64 t2), t3, t4, t5, t6, t7, t8, t9, t10, t11, t12, t13, t14] H [(X.exit 0, K0)] := by
  refine LA_rule (Z := []) (fun m xs H' => AS.asInt .i64 (xs.getD 2 undef) fun t2 => I m t2 H') ?_ n H ?_
  · intro n H
    suffices hs : ∀ s3 : Value, ∀ s4 : Value, ∀ s5 : Value, ∀ s6 : Value, ∀ s9 : Value, ∀ s10 : Value, ∀ s11 : Value, ∀ s12 : Value, ∀ s13 : Value, ∀ s14 : Value, ∀ s7 : Value, ∀ s8 : Value, ∀ s2 : Value, ((AS.asInt .i64 s2 fun t2 => I n t2 H) → wpCode en L_crossbarkit_SpoilWords_0 [] [(.slice t0 t0l 0), undef, s2, s3, s4, s5, s6, s7, s8, s9, s10, s11, s12, s13, s14] H (loopQ (fun m xs H' => AS.asInt .i64 (xs.getD 2 undef) fun t2 => I m t2 H') n [(X.exit 0, K0)])) by
      apply turnInto hs
      kernel_rfl
    intro s3 s4 s5 s6 s9 s10 s11 s12 s13 s14 s7 s8 s2 hP
    replace hP := asInt_elim hP
    obtain ⟨t2, rfl, hP⟩ := hP
    apply turnInto (hstep n t2 [(.slice t0 t0l 0), undef, (.int .i64 t2), s3, s4, s5, s6, s7, s8, s9, s10, s11, s12, s13, s14] H hP)
    kernel_rfl
  · apply turnInto h0
    kernel_rfl


/-! crossbarkit_CopyRes -/

theorem vc_crossbarkit_CopyRes (x0_0 : Int) (x0_1 : Option Addr) (x0_1l : Nat) (x0_2 : Int) (x0_3 : Int) (H : Heap) (R : Value → Heap → Prop) :
    (
 nwH H (.cells true 0 [(.int .i64 x0_0), (.slice x0_1 x0_1l 0), (.int .u64 x0_2), (.int .i64 x0_3)]) fun i1 H2 =>
 nwH H2 (.cells true 0 [(.int .i64 0), (.slice none 0 0), (.int .u64 0), (.int .i64 0)]) fun i3 H4 =>
 ∃ a5 i6, H4.cell i1 1 = some (.slice a5 i6 0) ∧
 CA en F.crossbarkit_CopyWords [(.slice a5 i6 0)] H4 fun v7 H8 =>
 ∃ a9 i10, v7 = (.slice a9 i10 0) ∧
 stc H8 i1 1 [(.slice a9 i10 0)] fun H11 =>
 ∃ n12, ∃ a13 i14, ∃ n15, ∃ n16, H11.cellsAt i1 0 4 = some [(.int .i64 n12), (.slice a13 i14 0), (.int .u64 n15), (.int .i64 n16)] ∧
 stc H11 i3 0 [(.int .i64 n12), (.slice a13 i14 0), (.int .u64 n15), (.int .i64 n16)] fun H17 =>
 ∃ n18, ∃ a19 i20, ∃ n21, ∃ n22, H17.cellsAt i3 0 4 = some [(.int .i64 n18), (.slice a19 i20 0), (.int .u64 n21), (.int .i64 n22)] ∧
 R (.agg #[(.int .i64 n18), (.slice a19 i20 0), (.int .u64 n21), (.int .i64 n22)]) H17) →
    CA en F.crossbarkit_CopyRes [(.agg #[(.int .i64 x0_0), (.slice x0_1 x0_1l 0), (.int .u64 x0_2), (.int .i64 x0_3)])] H R := by
  intro h
  refine wpFn_ok (Z := []) (fn := Go.Proofs.Try.f55) ?_ ?_ ?_
  · kernel_rfl
  · kernel_rfl
  · apply turnInto h
    kernel_rfl


/-! crossbarkit_SameRes -/

theorem vc_crossbarkit_SameRes (x0_0 : Int) (x0_1 : Option Addr) (x0_1l : Nat) (x0_2 : Int) (x0_3 : Int) (x1_0 : Int) (x1_1 : Option Addr) (x1_1l : Nat) (x1_2 : Int) (x1_3 : Int) (H : Heap) (R : Value → Heap → Prop) :
    (
 nwH H (.cells true 0 [(.int .i64 x0_0), (.slice x0_1 x0_1l 0), (.int .u64 x0_2), (.int .i64 x0_3)]) fun i1 H2 =>
 nwH H2 (.cells true 0 [(.int .i64 x1_0), (.slice x1_1 x1_1l 0), (.int .u64 x1_2), (.int .i64 x1_3)]) fun i3 H4 =>
 ∃ n5, H4.cell i1 3 = some (.int .i64 n5) ∧
 ∃ n6, H4.cell i3 3 = some (.int .i64 n6) ∧
 bif (n5 == n6) then (
 ∃ n7, ∃ a8 i9, ∃ n10, ∃ n11, H4.cellsAt i1 0 4 = some [(.int .i64 n7), (.slice a8 i9 0), (.int .u64 n10), (.int .i64 n11)] ∧
 ∃ n12, ∃ a13 i14, ∃ n15, ∃ n16, H4.cellsAt i3 0 4 = some [(.int .i64 n12), (.slice a13 i14 0), (.int .u64 n15), (.int .i64 n16)] ∧
 CA en F.crossbarkit_LikeRes [(.agg #[(.int .i64 n7), (.slice a8 i9 0), (.int .u64 n10), (.int .i64 n11)]), (.agg #[(.int .i64 n12), (.slice a13 i14 0), (.int .u64 n15), (.int .i64 n16)])] H4 fun v17 H18 =>
 ∃ b19, v17 = (.bool b19) ∧
 R (.bool b19) H18)
 else (
 R (.bool false) H4)) →
    CA en F.crossbarkit_SameRes [(.agg #[(.int .i64 x0_0), (.slice x0_1 x0_1l 0), (.int .u64 x0_2), (.int .i64 x0_3)]), (.agg #[(.int .i64 x1_0), (.slice x1_1 x1_1l 0), (.int .u64 x1_2), (.int .i64 x1_3)])] H R := by
  intro h
  refine wpFn_ok (Z := []) (fn := Go.Proofs.Try.f56) ?_ ?_ ?_
  · kernel_rfl
  · kernel_rfl
  · apply turnInto h
    kernel_rfl


/-! crossbarkit_kinds -/

theorem vc_crossbarkit_kinds (x0 : Int) (H : Heap) (R : Value → Heap → Prop) :
    (
 bif (x0 == 1) then (
 nwH H (.cells true 1 [(.int .i64 1), (.int .i64 2), (.int .i64 4)]) fun i1 H2 =>
 R (.slice (some ⟨i1, 0, none⟩) 3 0) H2)
 else (
 bif (x0 == 2) then (
 nwH H (.cells true 1 [(.int .i64 1), (.int .i64 2), (.int .i64 4)]) fun i3 H4 =>
 R (.slice (some ⟨i3, 0, none⟩) 3 0) H4)
 else (
 bif (x0 == 3) then (
 nwH H (.cells true 1 [(.int .i64 1), (.int .i64 2), (.int .i64 4)]) fun i5 H6 =>
 R (.slice (some ⟨i5, 0, none⟩) 3 0) H6)
 else (
 bif (x0 == 4) then (
 nwH H (.cells true 1 [(.int .i64 1), (.int .i64 2), (.int .i64 3), (.int .i64 4), (.int .i64 5)]) fun i7 H8 =>
 R (.slice (some ⟨i7, 0, none⟩) 5 0) H8)
 else (
 bif (x0 == 5) then (
 nwH H (.cells true 1 [(.int .i64 1), (.int .i64 2), (.int .i64 3), (.int .i64 4), (.int .i64 5)]) fun i9 H10 =>
 R (.slice (some ⟨i9, 0, none⟩) 5 0) H10)
 else (
 bif (x0 == 6) then (
 nwH H (.cells true 1 [(.int .i64 6), (.int .i64 7), (.int .i64 8)]) fun i11 H12 =>
 R (.slice (some ⟨i11, 0, none⟩) 3 0) H12)
 else (
 bif (x0 == 7) then (
 nwH H (.cells true 1 [(.int .i64 6), (.int .i64 7), (.int .i64 8)]) fun i13 H14 =>
 R (.slice (some ⟨i13, 0, none⟩) 3 0) H14)
 else (
 bif (x0 == 8) then (
 nwH H (.cells true 1 [(.int .i64 6), (.int .i64 8)]) fun i15 H16 =>
 R (.slice (some ⟨i15, 0, none⟩) 2 0) H16)
 else (
 nwH H (.cells true 1 [(.int .i64 1), (.int .i64 2), (.int .i64 3), (.int .i64 4)]) fun i17 H18 =>
 R (.slice (some ⟨i17, 0, none⟩) 4 0) H18))))))))) →
    CA en F.crossbarkit_kinds [(.int .i64 x0)] H R := by
  intro h
  refine wpFn_ok (Z := []) (fn := Go.Proofs.Try.f67) ?_ ?_ ?_
  · kernel_rfl
  · kernel_rfl
  · apply turnInto h
    kernel_rfl


/-! crossbarkit_CopyWords -/
noncomputable def L_crossbarkit_CopyWords_0 : Code := loopAt Go.Proofs.Try.f68 0

theorem vc_crossbarkit_CopyWords (x0 : Option Addr) (x0l : Nat) (H : Heap) (R : Value → Heap → Prop) :
    (
 LA en L_crossbarkit_CopyWords_0 [(.slice x0 x0l 0), undef, (.slice none 0 0), (.slice none 0 0), (.int .i64 0), undef, undef, undef, undef, undef, undef, undef, undef, undef, undef, undef, undef, undef, undef] H [(X.exit 0, fun (x1 : Fr) (H2 : Heap) =>
 asSl (x1.getD 3 undef) fun a3 i4 =>
 R (.slice a3 i4 0) H2)]) →
    CA en F.crossbarkit_CopyWords [(.slice x0 x0l 0)] H R := by
  intro h
  refine wpFn_ok (Z := [[(3, (.slice none 0 0))]]) (fn := Go.Proofs.Try.f68) ?_ ?_ ?_
  · kernel_rfl
  · kernel_rfl
  · apply turnInto h
    kernel_rfl

theorem use_crossbarkit_CopyWords_0 {t0 : Option Addr} {t0l : Nat} {K0 : Fr → Heap → Prop} {t3 : Option Addr} {t3l : Nat} {t4 : Int} {t5 : Value} {t6 : Value} {t7 : Value} {t8 : Value} {t9 : Value} {t10 : Value} {t11 : Value} {t12 : Value} {t13 : Value} {t14 : Value} {t15 : Value} {t16 : Value} {t17 : Value} {H : Heap} (I : Nat → Option Addr → Nat → Int → Heap → Prop) (n : Nat) (h0 : I n t3 t3l t4 H)
    (hstep : ∀ (n : Nat) (t3 : Option Addr) (t3l : Nat) (t4 : Int) (ys : Fr) (H : Heap), I n t3 t3l t4 H →
    (
 bif (decide (t4 < ((t0l : Nat) : Int))) then (
 inB t4 t0l ∧
 asRow t0 fun i1 i2 =>
 ∃ n3, H.cell i1 (i2 + (t4.toNat * 1)) = some (.int .u64 n3) ∧
 nwH H (.cells true 1 [(.int .u64 n3)]) fun i4 H5 =>
 ∃ l6, rowOf H5 1 (some ⟨i4, 0, none⟩) 1 = some l6 ∧
 apd H5 8 1 t3 t3l 1 l6 fun a7 i8 H9 =>
 ∃ k10, k10 < n ∧
 I k10 a7 i8 (IntKind.i64.wrap (t4 + 1)) H9)
 else (
 K0 [(.slice t0 t0l 0), undef, (.slice none 0 0), (.slice t3 t3l 0), (.int .i64 t4), (.int .i64 t4), (.slice t0 t0l 0), (.int .i64 ((t0l : Nat) : Int)), (.bool false), (ys.getD 9 undef), (ys.getD 10 undef), (ys.getD 11 undef), (ys.getD 12 undef), (ys.getD 13 undef), (ys.getD 14 undef), (ys.getD 15 undef), (ys.getD 16 undef), (ys.getD 17 undef), undef] H))) :
    LA en L_crossbarkit_CopyWords_0 [(.slice t0 t0l 0), undef, (.slice none 0 0), (.slice t3 t3l 0), (.int .i64 t4), t5, t6, t7, t8, t9, t10, t11, t12, t13, t14, t15, t16, t17, undef] H [(X.exit 0, K0)] := by
  refine LA_rule (Z := []) (fun m xs H' => asSl (xs.getD 3 undef) fun t3 t3l => AS.asInt .i64 (xs.getD 4 undef) fun t4 => I m t3 t3l t4 H') ?_ n H ?_
  · intro n H
    suffices hs : ∀ s5 : Value, ∀ s6 : Value, ∀ s7 : Value, ∀ s8 : Value, ∀ s11 : Value, ∀ s12 : Value, ∀ s13 : Value, ∀ s14 : Value, ∀ s15 : Value, ∀ s16 : Value, ∀ s17 : Value, ∀ s3 : Value, ∀ s9 : Value, ∀ s10 : Value, ∀ s4 : Value, ((asSl s3 fun t3 t3l => AS.asInt .i64 s4 fun t4 => I n t3 t3l t4 H) → wpCode en L_crossbarkit_CopyWords_0 [] [(.slice t0 t0l 0), undef, (.slice none 0 0), s3, s4, s5, s6, s7, s8, s9, s10, s11, s12, s13, s14, s15, s16, s17, undef] H (loopQ (fun m xs H' => asSl (xs.getD 3 undef) fun t3 t3l => AS.asInt .i64 (xs.getD 4 undef) fun t4 => I m t3 t3l t4 H') n [(X.exit 0, K0)])) by
      apply turnInto hs
      kernel_rfl
    intro s5 s6 s7 s8 s11 s12 s13 s14 s15 s16 s17 s3 s9 s10 s4 hP
    replace hP := asSl_elim hP
    obtain ⟨t3, t3l, rfl, hP⟩ := hP
    replace hP := asInt_elim hP
    obtain ⟨t4, rfl, hP⟩ := hP
    apply turnInto (hstep n t3 t3l t4 [(.slice t0 t0l 0), undef, (.slice none 0 0), (.slice t3 t3l 0), (.int .i64 t4), s5, s6, s7, s8, s9, s10, s11, s12, s13, s14, s15, s16, s17, undef] H hP)
    kernel_rfl
  · apply turnInto h0
    kernel_rfl


/-! crossbarkit_markWords -/

theorem vc_crossbarkit_markWords (x0 : Int) (H : Heap) (R : Value → Heap → Prop) :
    (
 R (.int .u64 (IntKind.u64.wrap (7001 + (IntKind.u64.wrap (13 * (IntKind.u64.wrap x0)))))) H) →
    CA en F.crossbarkit_markWords [(.int .i64 x0)] H R := by
  intro h
  refine wpFn_ok (Z := []) (fn := Go.Proofs.Try.f69) ?_ ?_ ?_
  · kernel_rfl
  · kernel_rfl
  · apply turnInto h
    kernel_rfl


/-! crossbarkit_LikeRes -/

theorem vc_crossbarkit_LikeRes (x0_0 : Int) (x0_1 : Option Addr) (x0_1l : Nat) (x0_2 : Int) (x0_3 : Int) (x1_0 : Int) (x1_1 : Option Addr) (x1_1l : Nat) (x1_2 : Int) (x1_3 : Int) (H : Heap) (R : Value → Heap → Prop) :
    (
 nwH H (.cells true 0 [(.int .i64 x0_0), (.slice x0_1 x0_1l 0), (.int .u64 x0_2), (.int .i64 x0_3)]) fun i1 H2 =>
 nwH H2 (.cells true 0 [(.int .i64 x1_0), (.slice x1_1 x1_1l 0), (.int .u64 x1_2), (.int .i64 x1_3)]) fun i3 H4 =>
 ∃ n5, H4.cell i1 0 = some (.int .i64 n5) ∧
 ∃ n6, H4.cell i3 0 = some (.int .i64 n6) ∧
 bif (n5 == n6) then (
 ∃ n7, H4.cell i1 2 = some (.int .u64 n7) ∧
 ∃ n8, H4.cell i3 2 = some (.int .u64 n8) ∧
 bif (n7 == n8) then (
 ∃ a9 i10, H4.cell i1 1 = some (.slice a9 i10 0) ∧
 ∃ a11 i12, H4.cell i3 1 = some (.slice a11 i12 0) ∧
 CA en F.crossbarkit_SameWords [(.slice a9 i10 0), (.slice a11 i12 0)] H4 fun v13 H14 =>
 ∃ b15, v13 = (.bool b15) ∧
 R (.bool b15) H14)
 else (
 R (.bool false) H4))
 else (
 R (.bool false) H4)) →
    CA en F.crossbarkit_LikeRes [(.agg #[(.int .i64 x0_0), (.slice x0_1 x0_1l 0), (.int .u64 x0_2), (.int .i64 x0_3)]), (.agg #[(.int .i64 x1_0), (.slice x1_1 x1_1l 0), (.int .u64 x1_2), (.int .i64 x1_3)])] H R := by
  intro h
  refine wpFn_ok (Z := []) (fn := Go.Proofs.Try.f70) ?_ ?_ ?_
  · kernel_rfl
  · kernel_rfl
  · apply turnInto h
    kernel_rfl


/-! crossbarkit_SameWords -/
noncomputable def L_crossbarkit_SameWords_0 : Code := loopAt Go.Proofs.Try.f78 0

theorem vc_crossbarkit_SameWords (x0 : Option Addr) (x0l : Nat) (x1 : Option Addr) (x1l : Nat) (H : Heap) (R : Value → Heap → Prop) :
    (
 bif (((x0l : Nat) : Int) != ((x1l : Nat) : Int)) then (
 R (.bool false) H)
 else (
 LA en L_crossbarkit_SameWords_0 [(.slice x0 x0l 0), (.slice x1 x1l 0), undef, undef, (.bool false), (.int .i64 0), (.slice x0 x0l 0), (.int .i64 ((x0l : Nat) : Int)), (.slice x1 x1l 0), (.int .i64 ((x1l : Nat) : Int)), (.bool false), undef, undef, undef, undef, undef, undef, undef, undef, undef, undef, undef, undef, undef, undef, undef] H [(X.exit 0, fun (x1 : Fr) (H2 : Heap) =>
 AS.asBool (x1.getD 4 undef) fun b3 =>
 R (.bool true) H2),
 (X.ret, fun (x4 : Fr) (H5 : Heap) =>
 AS.asBool (x4.getD 4 undef) fun b6 =>
 R (.bool b6) H5)])) →
    CA en F.crossbarkit_SameWords [(.slice x0 x0l 0), (.slice x1 x1l 0)] H R := by
  intro h
  refine wpFn_ok (Z := [[(4, (.bool false))]]) (fn := Go.Proofs.Try.f78) ?_ ?_ ?_
  · kernel_rfl
  · kernel_rfl
  · apply turnInto h
    kernel_rfl

theorem use_crossbarkit_SameWords_0 {t0 : Option Addr} {t0l : Nat} {t1 : Option Addr} {t1l : Nat} {t6 : Option Addr} {t6l : Nat} {t7 : Int} {t8 : Option Addr} {t8l : Nat} {t9 : Int} {K0 : Fr → Heap → Prop} {K1 : Fr → Heap → Prop} {t4 : Bool} {t5 : Int} {t11 : Value} {t12 : Value} {t13 : Value} {t14 : Value} {t15 : Value} {t16 : Value} {t17 : Value} {t18 : Value} {t19 : Value} {t20 : Value} {t21 : Value} {t22 : Value} {t23 : Value} {t24 : Value} {t25 : Value} {H : Heap} (I : Nat → Bool → Int → Heap → Prop) (n : Nat) (h0 : I n t4 t5 H)
    (hstep : ∀ (n : Nat) (t4 : Bool) (t5 : Int) (ys : Fr) (H : Heap), I n t4 t5 H →
    (
 bif (decide (t5 < ((t0l : Nat) : Int))) then (
 inB t5 t0l ∧
 asRow t0 fun i1 i2 =>
 ∃ n3, (H.bump 9).cell i1 (i2 + (t5.toNat * 1)) = some (.int .u64 n3) ∧
 inB t5 t1l ∧
 asRow t1 fun i4 i5 =>
 ∃ n6, (H.bump 9).cell i4 (i5 + (t5.toNat * 1)) = some (.int .u64 n6) ∧
 (
 bif (n3 != n6) then (
 K1 [(.slice t0 t0l 0), (.slice t1 t1l 0), undef, undef, (.bool false), (.int .i64 t5), (.slice t6 t6l 0), (.int .i64 t7), (.slice t8 t8l 0), (.int .i64 t9), (.bool false), (.int .i64 t5), (.slice t0 t0l 0), (.int .i64 ((t0l : Nat) : Int)), (.bool true), (ys.getD 15 undef), (ys.getD 16 undef), (.slice t0 t0l 0), (.int .i64 t5), (.pointer (some ⟨i1, (i2 + (t5.toNat * 1)), none⟩)), (.int .u64 n3), (.slice t1 t1l 0), (.int .i64 t5), (.pointer (some ⟨i4, (i5 + (t5.toNat * 1)), none⟩)), (.int .u64 n6), (.bool true)] (H.bump 9))
 else (
 ∃ k7, k7 < n ∧
 I k7 t4 (IntKind.i64.wrap (t5 + 1)) (H.bump 9))) ∧
 True)
 else (
 K0 [(.slice t0 t0l 0), (.slice t1 t1l 0), undef, undef, (.bool t4), (.int .i64 t5), (.slice t6 t6l 0), (.int .i64 t7), (.slice t8 t8l 0), (.int .i64 t9), (.bool false), (.int .i64 t5), (.slice t0 t0l 0), (.int .i64 ((t0l : Nat) : Int)), (.bool false), (ys.getD 15 undef), (ys.getD 16 undef), (ys.getD 17 undef), (ys.getD 18 undef), (ys.getD 19 undef), (ys.getD 20 undef), (ys.getD 21 undef), (ys.getD 22 undef), (ys.getD 23 undef), (ys.getD 24 undef), (ys.getD 25 undef)] H))) :
    LA en L_crossbarkit_SameWords_0 [(.slice t0 t0l 0), (.slice t1 t1l 0), undef, undef, (.bool t4), (.int .i64 t5), (.slice t6 t6l 0), (.int .i64 t7), (.slice t8 t8l 0), (.int .i64 t9), (.bool false), t11, t12, t13, t14, t15, t16, t17, t18, t19, t20, t21, t22, t23, t24, t25] H [(X.exit 0, K0), (X.ret, K1)] := by
  refine LA_rule (Z := []) (fun m xs H' => AS.asBool (xs.getD 4 undef) fun t4 => AS.asInt .i64 (xs.getD 5 undef) fun t5 => I m t4 t5 H') ?_ n H ?_
  · intro n H
    suffices hs : ∀ s11 : Value, ∀ s12 : Value, ∀ s13 : Value, ∀ s14 : Value, ∀ s17 : Value, ∀ s18 : Value, ∀ s19 : Value, ∀ s20 : Value, ∀ s21 : Value, ∀ s22 : Value, ∀ s23 : Value, ∀ s24 : Value, ∀ s25 : Value, ∀ s4 : Value, ∀ s15 : Value, ∀ s16 : Value, ∀ s5 : Value, ((AS.asBool s4 fun t4 => AS.asInt .i64 s5 fun t5 => I n t4 t5 H) → wpCode en L_crossbarkit_SameWords_0 [] [(.slice t0 t0l 0), (.slice t1 t1l 0), undef, undef, s4, s5, (.slice t6 t6l 0), (.int .i64 t7), (.slice t8 t8l 0), (.int .i64 t9), (.bool false), s11, s12, s13, s14, s15, s16, s17, s18, s19, s20, s21, s22, s23, s24, s25] H (loopQ (fun m xs H' => AS.asBool (xs.getD 4 undef) fun t4 => AS.asInt .i64 (xs.getD 5 undef) fun t5 => I m t4 t5 H') n [(X.exit 0, K0), (X.ret, K1)])) by
      apply turnInto hs
      kernel_rfl
    intro s11 s12 s13 s14 s17 s18 s19 s20 s21 s22 s23 s24 s25 s4 s15 s16 s5 hP
    replace hP := asBool_elim hP
    obtain ⟨t4, rfl, hP⟩ := hP
    replace hP := asInt_elim hP
    obtain ⟨t5, rfl, hP⟩ := hP
    apply turnInto (hstep n t4 t5 [(.slice t0 t0l 0), (.slice t1 t1l 0), undef, undef, (.bool t4), (.int .i64 t5), (.slice t6 t6l 0), (.int .i64 t7), (.slice t8 t8l 0), (.int .i64 t9), (.bool false), s11, s12, s13, s14, s15, s16, s17, s18, s19, s20, s21, s22, s23, s24, s25] H hP)
    kernel_rfl
  · apply turnInto h0
    kernel_rfl

end Go.Proofs.Ytlkmdcncpdadbaa
