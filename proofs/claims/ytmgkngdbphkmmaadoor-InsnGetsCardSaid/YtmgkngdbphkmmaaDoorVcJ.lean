/-
  What functions of this seat's program need (printed by a program, checked by the kernel).
-/
import Derived.Test.YtmgkngdbphkmmaaDoorNames
import Derived.Test.YtmgkngdbphkmmaaDoorAs41
namespace Go.Proofs.YtmgkngdbphkmmaaDoor
open Go Go.AS Go.RowKit
set_option linter.unusedVariables false
set_option maxRecDepth 100000

/-! crossbarkit_SameBytes -/
noncomputable def L_crossbarkit_SameBytes_0 : Code := loopAt Go.Proofs.Tryd.f16 0

theorem vc_crossbarkit_SameBytes (x0 : Option Addr) (x0l : Nat) (x1 : Option Addr) (x1l : Nat) (H : Heap) (R : Value → Heap → Prop) :
    (
 bif (((x0l : Nat) : Int) != ((x1l : Nat) : Int)) then (
 R (.bool false) H)
 else (
 LA en L_crossbarkit_SameBytes_0 [(.slice x0 x0l 0), (.slice x1 x1l 0), undef, undef, (.bool false), (.int .i64 0), (.slice x0 x0l 0), (.int .i64 ((x0l : Nat) : Int)), (.slice x1 x1l 0), (.int .i64 ((x1l : Nat) : Int)), (.bool false), undef, undef, undef, undef, undef, undef, undef, undef, undef, undef, undef, undef, undef, undef, undef] H [(X.exit 0, fun (y1 : Fr) (H2 : Heap) =>
 AS.asBool (y1.getD 4 undef) fun b3 =>
 R (.bool true) H2),
 (X.ret, fun (y4 : Fr) (H5 : Heap) =>
 AS.asBool (y4.getD 4 undef) fun b6 =>
 R (.bool b6) H5)])) →
    CA en F.crossbarkit_SameBytes [(.slice x0 x0l 0), (.slice x1 x1l 0)] H R := by
  intro h
  refine wpFn_ok (Z := [[(4, (.bool false))]]) (fn := Go.Proofs.Tryd.f16) ?_ ?_ ?_
  · kernel_rfl
  · kernel_rfl
  · apply turnInto h
    kernel_rfl

theorem use_crossbarkit_SameBytes_0 {t0 : Option Addr} {t0l : Nat} {t1 : Option Addr} {t1l : Nat} {t6 : Option Addr} {t6l : Nat} {t7 : Int} {t8 : Option Addr} {t8l : Nat} {t9 : Int} {K0 : Fr → Heap → Prop} {K1 : Fr → Heap → Prop} {t4 : Bool} {t5 : Int} {t11 : Value} {t12 : Value} {t13 : Value} {t14 : Value} {t15 : Value} {t16 : Value} {t17 : Value} {t18 : Value} {t19 : Value} {t20 : Value} {t21 : Value} {t22 : Value} {t23 : Value} {t24 : Value} {t25 : Value} {H : Heap} (I : Nat → Bool → Int → Heap → Prop) (n : Nat) (h0 : I n t4 t5 H)
    (hstep : ∀ (n : Nat) (t4 : Bool) (t5 : Int) (ys : Fr) (H : Heap), I n t4 t5 H →
    (
 bif (decide (t5 < ((t0l : Nat) : Int))) then (
 inB t5 t0l ∧
 asRow t0 fun i1 i2 =>
 ∃ n3, (H.bump 9).cell i1 (i2 + (t5.toNat * 1)) = some (.int .u8 n3) ∧
 inB t5 t1l ∧
 asRow t1 fun i4 i5 =>
 ∃ n6, (H.bump 9).cell i4 (i5 + (t5.toNat * 1)) = some (.int .u8 n6) ∧
 (
 bif (n3 != n6) then (
 K1 [(.slice t0 t0l 0), (.slice t1 t1l 0), undef, undef, (.bool false), (.int .i64 t5), (.slice t6 t6l 0), (.int .i64 t7), (.slice t8 t8l 0), (.int .i64 t9), (.bool false), (.int .i64 t5), (.slice t0 t0l 0), (.int .i64 ((t0l : Nat) : Int)), (.bool true), (ys.getD 15 undef), (ys.getD 16 undef), (.slice t0 t0l 0), (.int .i64 t5), (.pointer (some ⟨i1, (i2 + (t5.toNat * 1)), none⟩)), (.int .u8 n3), (.slice t1 t1l 0), (.int .i64 t5), (.pointer (some ⟨i4, (i5 + (t5.toNat * 1)), none⟩)), (.int .u8 n6), (.bool true)] (H.bump 9))
 else (
 ∃ k7, k7 < n ∧
 I k7 t4 (IntKind.i64.wrap (t5 + 1)) (H.bump 9))) ∧
 True)
 else (
 K0 [(.slice t0 t0l 0), (.slice t1 t1l 0), undef, undef, (.bool t4), (.int .i64 t5), (.slice t6 t6l 0), (.int .i64 t7), (.slice t8 t8l 0), (.int .i64 t9), (.bool false), (.int .i64 t5), (.slice t0 t0l 0), (.int .i64 ((t0l : Nat) : Int)), (.bool false), (ys.getD 15 undef), (ys.getD 16 undef), (ys.getD 17 undef), (ys.getD 18 undef), (ys.getD 19 undef), (ys.getD 20 undef), (ys.getD 21 undef), (ys.getD 22 undef), (ys.getD 23 undef), (ys.getD 24 undef), (ys.getD 25 undef)] H))) :
    LA en L_crossbarkit_SameBytes_0 [(.slice t0 t0l 0), (.slice t1 t1l 0), undef, undef, (.bool t4), (.int .i64 t5), (.slice t6 t6l 0), (.int .i64 t7), (.slice t8 t8l 0), (.int .i64 t9), (.bool false), t11, t12, t13, t14, t15, t16, t17, t18, t19, t20, t21, t22, t23, t24, t25] H [(X.exit 0, K0), (X.ret, K1)] := by
  refine LA_rule (Z := []) (fun m xs H' => AS.asBool (xs.getD 4 undef) fun t4 => AS.asInt .i64 (xs.getD 5 undef) fun t5 => I m t4 t5 H') ?_ n H ?_
  · intro n H
    suffices hs : ∀ s11 : Value, ∀ s12 : Value, ∀ s13 : Value, ∀ s14 : Value, ∀ s17 : Value, ∀ s18 : Value, ∀ s19 : Value, ∀ s20 : Value, ∀ s21 : Value, ∀ s22 : Value, ∀ s23 : Value, ∀ s24 : Value, ∀ s25 : Value, ∀ s4 : Value, ∀ s15 : Value, ∀ s16 : Value, ∀ s5 : Value, ((AS.asBool s4 fun t4 => AS.asInt .i64 s5 fun t5 => I n t4 t5 H) → wpCode en L_crossbarkit_SameBytes_0 [] [(.slice t0 t0l 0), (.slice t1 t1l 0), undef, undef, s4, s5, (.slice t6 t6l 0), (.int .i64 t7), (.slice t8 t8l 0), (.int .i64 t9), (.bool false), s11, s12, s13, s14, s15, s16, s17, s18, s19, s20, s21, s22, s23, s24, s25] H (loopQ (fun m xs H' => AS.asBool (xs.getD 4 undef) fun t4 => AS.asInt .i64 (xs.getD 5 undef) fun t5 => I m t4 t5 H') n [(X.exit 0, K0), (X.ret, K1)])) by
      apply turnInto hs
      kernel_rfl
    intro s11 s12 s13 s14 s17 s18 s19 s20 s21 s22 s23 s24 s25 s4 s15 s16 s5 hP
    replace hP := asBool_elim hP
    obtain ⟨t4, rfl, hP⟩ := hP
    replace hP := asInt_elim hP
    obtain ⟨t5, rfl, hP⟩ := hP
    apply turnInto (hstep n t4 t5 [(.slice t0 t0l 0), (.slice t1 t1l 0), undef, undef, (.bool t4), (.int .i64 t5), (.slice t6 t6l 0), (.int .i64 t7), (.slice t8 t8l 0), (.int .i64 t9), (.bool false), s11, s12, s13, s14, s15, s16, s17, s18, s19, s20, s21, s22, s23, s24, s25] H hP)
    kernel_rfl
  · apply turnInto h0
    kernel_rfl


/-! crossbarkit_SameInsns -/
noncomputable def L_crossbarkit_SameInsns_0 : Code := loopAt Go.Proofs.Tryd.f22 0

theorem vc_crossbarkit_SameInsns (x0 : Option Addr) (x0l : Nat) (x1 : Option Addr) (x1l : Nat) (H : Heap) (R : Value → Heap → Prop) :
    (
 bif (((x0l : Nat) : Int) != ((x1l : Nat) : Int)) then (
 R (.bool false) H)
 else (
 LA en L_crossbarkit_SameInsns_0 [(.slice x0 x0l 0), (.slice x1 x1l 0), undef, undef, (.bool false), (.int .i64 0), (.slice x0 x0l 0), (.int .i64 ((x0l : Nat) : Int)), (.slice x1 x1l 0), (.int .i64 ((x1l : Nat) : Int)), (.bool false), undef, undef, undef, undef, undef, undef, undef, undef, undef, undef, undef, undef, undef, undef, undef] H [(X.exit 0, fun (y1 : Fr) (H2 : Heap) =>
 AS.asBool (y1.getD 4 undef) fun b3 =>
 R (.bool true) H2),
 (X.ret, fun (y4 : Fr) (H5 : Heap) =>
 AS.asBool (y4.getD 4 undef) fun b6 =>
 R (.bool b6) H5)])) →
    CA en F.crossbarkit_SameInsns [(.slice x0 x0l 0), (.slice x1 x1l 0)] H R := by
  intro h
  refine wpFn_ok (Z := [[(4, (.bool false))]]) (fn := Go.Proofs.Tryd.f22) ?_ ?_ ?_
  · kernel_rfl
  · kernel_rfl
  · apply turnInto h
    kernel_rfl

theorem use_crossbarkit_SameInsns_0 {t0 : Option Addr} {t0l : Nat} {t1 : Option Addr} {t1l : Nat} {t6 : Option Addr} {t6l : Nat} {t7 : Int} {t8 : Option Addr} {t8l : Nat} {t9 : Int} {K0 : Fr → Heap → Prop} {K1 : Fr → Heap → Prop} {t4 : Bool} {t5 : Int} {t11 : Value} {t12 : Value} {t13 : Value} {t14 : Value} {t15 : Value} {t16 : Value} {t17 : Value} {t18 : Value} {t19 : Value} {t20 : Value} {t21 : Value} {t22 : Value} {t23 : Value} {t24 : Value} {t25 : Value} {H : Heap} (I : Nat → Bool → Int → Heap → Prop) (n : Nat) (h0 : I n t4 t5 H)
    (hstep : ∀ (n : Nat) (t4 : Bool) (t5 : Int) (ys : Fr) (H : Heap), I n t4 t5 H →
    (
 bif (decide (t5 < ((t0l : Nat) : Int))) then (
 inB t5 t0l ∧
 asRow t0 fun i1 i2 =>
 ∃ n3, ∃ n4, ∃ n5, ∃ n6, ∃ n7, (H.bump 9).cellsAt i1 (i2 + (t5.toNat * 5)) 5 = some [(.int .i64 n3), (.int .i64 n4), (.int .i64 n5), (.int .i64 n6), (.int .i64 n7)] ∧
 inB t5 t1l ∧
 asRow t1 fun i8 i9 =>
 ∃ n10, ∃ n11, ∃ n12, ∃ n13, ∃ n14, (H.bump 9).cellsAt i8 (i9 + (t5.toNat * 5)) 5 = some [(.int .i64 n10), (.int .i64 n11), (.int .i64 n12), (.int .i64 n13), (.int .i64 n14)] ∧
 (
 bif (!((n3 == n10) && ((n4 == n11) && ((n5 == n12) && ((n6 == n13) && (n7 == n14)))))) then (
 K1 [(.slice t0 t0l 0), (.slice t1 t1l 0), undef, undef, (.bool false), (.int .i64 t5), (.slice t6 t6l 0), (.int .i64 t7), (.slice t8 t8l 0), (.int .i64 t9), (.bool false), (.int .i64 t5), (.slice t0 t0l 0), (.int .i64 ((t0l : Nat) : Int)), (.bool true), (ys.getD 15 undef), (ys.getD 16 undef), (.slice t0 t0l 0), (.int .i64 t5), (.pointer (some ⟨i1, (i2 + (t5.toNat * 5)), none⟩)), (.agg #[(.int .i64 n3), (.int .i64 n4), (.int .i64 n5), (.int .i64 n6), (.int .i64 n7)]), (.slice t1 t1l 0), (.int .i64 t5), (.pointer (some ⟨i8, (i9 + (t5.toNat * 5)), none⟩)), (.agg #[(.int .i64 n10), (.int .i64 n11), (.int .i64 n12), (.int .i64 n13), (.int .i64 n14)]), (.bool true)] (H.bump 9))
 else (
 ∃ k15, k15 < n ∧
 I k15 t4 (IntKind.i64.wrap (t5 + 1)) (H.bump 9))) ∧
 True)
 else (
 K0 [(.slice t0 t0l 0), (.slice t1 t1l 0), undef, undef, (.bool t4), (.int .i64 t5), (.slice t6 t6l 0), (.int .i64 t7), (.slice t8 t8l 0), (.int .i64 t9), (.bool false), (.int .i64 t5), (.slice t0 t0l 0), (.int .i64 ((t0l : Nat) : Int)), (.bool false), (ys.getD 15 undef), (ys.getD 16 undef), (ys.getD 17 undef), (ys.getD 18 undef), (ys.getD 19 undef), (ys.getD 20 undef), (ys.getD 21 undef), (ys.getD 22 undef), (ys.getD 23 undef), (ys.getD 24 undef), (ys.getD 25 undef)] H))) :
    LA en L_crossbarkit_SameInsns_0 [(.slice t0 t0l 0), (.slice t1 t1l 0), undef, undef, (.bool t4), (.int .i64 t5), (.slice t6 t6l 0), (.int .i64 t7), (.slice t8 t8l 0), (.int .i64 t9), (.bool false), t11, t12, t13, t14, t15, t16, t17, t18, t19, t20, t21, t22, t23, t24, t25] H [(X.exit 0, K0), (X.ret, K1)] := by
  refine LA_rule (Z := []) (fun m xs H' => AS.asBool (xs.getD 4 undef) fun t4 => AS.asInt .i64 (xs.getD 5 undef) fun t5 => I m t4 t5 H') ?_ n H ?_
  · intro n H
    suffices hs : ∀ s11 : Value, ∀ s12 : Value, ∀ s13 : Value, ∀ s14 : Value, ∀ s17 : Value, ∀ s18 : Value, ∀ s19 : Value, ∀ s20 : Value, ∀ s21 : Value, ∀ s22 : Value, ∀ s23 : Value, ∀ s24 : Value, ∀ s25 : Value, ∀ s4 : Value, ∀ s15 : Value, ∀ s16 : Value, ∀ s5 : Value, ((AS.asBool s4 fun t4 => AS.asInt .i64 s5 fun t5 => I n t4 t5 H) → wpCode en L_crossbarkit_SameInsns_0 [] [(.slice t0 t0l 0), (.slice t1 t1l 0), undef, undef, s4, s5, (.slice t6 t6l 0), (.int .i64 t7), (.slice t8 t8l 0), (.int .i64 t9), (.bool false), s11, s12, s13, s14, s15, s16, s17, s18, s19, s20, s21, s22, s23, s24, s25] H (loopQ (fun m xs H' => AS.asBool (xs.getD 4 undef) fun t4 => AS.asInt .i64 (xs.getD 5 undef) fun t5 => I m t4 t5 H') n [(X.exit 0, K0), (X.ret, K1)])) by
      apply turnInto hs
      kernel_rfl
    intro s11 s12 s13 s14 s17 s18 s19 s20 s21 s22 s23 s24 s25 s4 s15 s16 s5 hP
    replace hP := asBool_elim hP
    obtain ⟨t4, rfl, hP⟩ := hP
    replace hP := asInt_elim hP
    obtain ⟨t5, rfl, hP⟩ := hP
    apply turnInto (hstep n t4 t5 [(.slice t0 t0l 0), (.slice t1 t1l 0), undef, undef, (.bool t4), (.int .i64 t5), (.slice t6 t6l 0), (.int .i64 t7), (.slice t8 t8l 0), (.int .i64 t9), (.bool false), s11, s12, s13, s14, s15, s16, s17, s18, s19, s20, s21, s22, s23, s24, s25] H hP)
    kernel_rfl
  · apply turnInto h0
    kernel_rfl


/-! crossbarkit_CopyBytes -/
noncomputable def L_crossbarkit_CopyBytes_0 : Code := loopAt Go.Proofs.Tryd.f26 0

theorem vc_crossbarkit_CopyBytes (x0 : Option Addr) (x0l : Nat) (H : Heap) (R : Value → Heap → Prop) :
    (
 LA en L_crossbarkit_CopyBytes_0 [(.slice x0 x0l 0), undef, (.slice none 0 0), (.slice none 0 0), (.int .i64 0), undef, undef, undef, undef, undef, undef, undef, undef, undef, undef, undef, undef, undef, undef] H [(X.exit 0, fun (y1 : Fr) (H2 : Heap) =>
 asSl (y1.getD 3 undef) fun a3 i4 =>
 R (.slice a3 i4 0) H2)]) →
    CA en F.crossbarkit_CopyBytes [(.slice x0 x0l 0)] H R := by
  intro h
  refine wpFn_ok (Z := [[(3, (.slice none 0 0))]]) (fn := Go.Proofs.Tryd.f26) ?_ ?_ ?_
  · kernel_rfl
  · kernel_rfl
  · apply turnInto h
    kernel_rfl

theorem use_crossbarkit_CopyBytes_0 {t0 : Option Addr} {t0l : Nat} {K0 : Fr → Heap → Prop} {t3 : Option Addr} {t3l : Nat} {t4 : Int} {t5 : Value} {t6 : Value} {t7 : Value} {t8 : Value} {t9 : Value} {t10 : Value} {t11 : Value} {t12 : Value} {t13 : Value} {t14 : Value} {t15 : Value} {t16 : Value} {t17 : Value} {H : Heap} (I : Nat → Option Addr → Nat → Int → Heap → Prop) (n : Nat) (h0 : I n t3 t3l t4 H)
    (hstep : ∀ (n : Nat) (t3 : Option Addr) (t3l : Nat) (t4 : Int) (ys : Fr) (H : Heap), I n t3 t3l t4 H →
    (
 bif (decide (t4 < ((t0l : Nat) : Int))) then (
 inB t4 t0l ∧
 asRow t0 fun i1 i2 =>
 ∃ n3, H.cell i1 (i2 + (t4.toNat * 1)) = some (.int .u8 n3) ∧
 nwH H (.cells true 1 [(.int .u8 n3)]) fun i4 H5 =>
 ∃ l6, rowOf H5 1 (some ⟨i4, 0, none⟩) 1 = some l6 ∧
 apd H5 1 1 t3 t3l 1 l6 fun a7 i8 H9 =>
 ∃ k10, k10 < n ∧
 I k10 a7 i8 (IntKind.i64.wrap (t4 + 1)) H9)
 else (
 K0 [(.slice t0 t0l 0), undef, (.slice none 0 0), (.slice t3 t3l 0), (.int .i64 t4), (.int .i64 t4), (.slice t0 t0l 0), (.int .i64 ((t0l : Nat) : Int)), (.bool false), (ys.getD 9 undef), (ys.getD 10 undef), (ys.getD 11 undef), (ys.getD 12 undef), (ys.getD 13 undef), (ys.getD 14 undef), (ys.getD 15 undef), (ys.getD 16 undef), (ys.getD 17 undef), undef] H))) :
    LA en L_crossbarkit_CopyBytes_0 [(.slice t0 t0l 0), undef, (.slice none 0 0), (.slice t3 t3l 0), (.int .i64 t4), t5, t6, t7, t8, t9, t10, t11, t12, t13, t14, t15, t16, t17, undef] H [(X.exit 0, K0)] := by
  refine LA_rule (Z := []) (fun m xs H' => asSl (xs.getD 3 undef) fun t3 t3l => AS.asInt .i64 (xs.getD 4 undef) fun t4 => I m t3 t3l t4 H') ?_ n H ?_
  · intro n H
    suffices hs : ∀ s5 : Value, ∀ s6 : Value, ∀ s7 : Value, ∀ s8 : Value, ∀ s11 : Value, ∀ s12 : Value, ∀ s13 : Value, ∀ s14 : Value, ∀ s15 : Value, ∀ s16 : Value, ∀ s17 : Value, ∀ s3 : Value, ∀ s9 : Value, ∀ s10 : Value, ∀ s4 : Value, ((asSl s3 fun t3 t3l => AS.asInt .i64 s4 fun t4 => I n t3 t3l t4 H) → wpCode en L_crossbarkit_CopyBytes_0 [] [(.slice t0 t0l 0), undef, (.slice none 0 0), s3, s4, s5, s6, s7, s8, s9, s10, s11, s12, s13, s14, s15, s16, s17, undef] H (loopQ (fun m xs H' => asSl (xs.getD 3 undef) fun t3 t3l => AS.asInt .i64 (xs.getD 4 undef) fun t4 => I m t3 t3l t4 H') n [(X.exit 0, K0)])) by
      apply turnInto hs
      kernel_rfl
    intro s5 s6 s7 s8 s11 s12 s13 s14 s15 s16 s17 s3 s9 s10 s4 hP
    replace hP := asSl_elim hP
    obtain ⟨t3, t3l, rfl, hP⟩ := hP
    replace hP := asInt_elim hP
    obtain ⟨t4, rfl, hP⟩ := hP
    apply turnInto (hstep n t3 t3l t4 [(.slice t0 t0l 0), undef, (.slice none 0 0), (.slice t3 t3l 0), (.int .i64 t4), s5, s6, s7, s8, s9, s10, s11, s12, s13, s14, s15, s16, s17, undef] H hP)
    kernel_rfl
  · apply turnInto h0
    kernel_rfl


/-! crossbarkit_CopyInsns -/
noncomputable def L_crossbarkit_CopyInsns_0 : Code := loopAt Go.Proofs.Tryd.f25 0

theorem vc_crossbarkit_CopyInsns (x0 : Option Addr) (x0l : Nat) (H : Heap) (R : Value → Heap → Prop) :
    (
 LA en L_crossbarkit_CopyInsns_0 [(.slice x0 x0l 0), undef, (.slice none 0 0), (.slice none 0 0), (.int .i64 0), undef, undef, undef, undef, undef, undef, undef, undef, undef, undef, undef, undef, undef, undef] H [(X.exit 0, fun (y1 : Fr) (H2 : Heap) =>
 asSl (y1.getD 3 undef) fun a3 i4 =>
 R (.slice a3 i4 0) H2)]) →
    CA en F.crossbarkit_CopyInsns [(.slice x0 x0l 0)] H R := by
  intro h
  refine wpFn_ok (Z := [[(3, (.slice none 0 0))]]) (fn := Go.Proofs.Tryd.f25) ?_ ?_ ?_
  · kernel_rfl
  · kernel_rfl
  · apply turnInto h
    kernel_rfl

theorem use_crossbarkit_CopyInsns_0 {t0 : Option Addr} {t0l : Nat} {K0 : Fr → Heap → Prop} {t3 : Option Addr} {t3l : Nat} {t4 : Int} {t5 : Value} {t6 : Value} {t7 : Value} {t8 : Value} {t9 : Value} {t10 : Value} {t11 : Value} {t12 : Value} {t13 : Value} {t14 : Value} {t15 : Value} {t16 : Value} {t17 : Value} {H : Heap} (I : Nat → Option Addr → Nat → Int → Heap → Prop) (n : Nat) (h0 : I n t3 t3l t4 H)
    (hstep : ∀ (n : Nat) (t3 : Option Addr) (t3l : Nat) (t4 : Int) (ys : Fr) (H : Heap), I n t3 t3l t4 H →
    (
 bif (decide (t4 < ((t0l : Nat) : Int))) then (
 inB t4 t0l ∧
 asRow t0 fun i1 i2 =>
 ∃ n3, ∃ n4, ∃ n5, ∃ n6, ∃ n7, H.cellsAt i1 (i2 + (t4.toNat * 5)) 5 = some [(.int .i64 n3), (.int .i64 n4), (.int .i64 n5), (.int .i64 n6), (.int .i64 n7)] ∧
 nwH H (.cells true 5 [(.int .i64 n3), (.int .i64 n4), (.int .i64 n5), (.int .i64 n6), (.int .i64 n7)]) fun i8 H9 =>
 ∃ l10, rowOf H9 5 (some ⟨i8, 0, none⟩) 1 = some l10 ∧
 apd H9 40 5 t3 t3l 1 l10 fun a11 i12 H13 =>
 ∃ k14, k14 < n ∧
 I k14 a11 i12 (IntKind.i64.wrap (t4 + 1)) H13)
 else (
 K0 [(.slice t0 t0l 0), undef, (.slice none 0 0), (.slice t3 t3l 0), (.int .i64 t4), (.int .i64 t4), (.slice t0 t0l 0), (.int .i64 ((t0l : Nat) : Int)), (.bool false), (ys.getD 9 undef), (ys.getD 10 undef), (ys.getD 11 undef), (ys.getD 12 undef), (ys.getD 13 undef), (ys.getD 14 undef), (ys.getD 15 undef), (ys.getD 16 undef), (ys.getD 17 undef), undef] H))) :
    LA en L_crossbarkit_CopyInsns_0 [(.slice t0 t0l 0), undef, (.slice none 0 0), (.slice t3 t3l 0), (.int .i64 t4), t5, t6, t7, t8, t9, t10, t11, t12, t13, t14, t15, t16, t17, undef] H [(X.exit 0, K0)] := by
  refine LA_rule (Z := []) (fun m xs H' => asSl (xs.getD 3 undef) fun t3 t3l => AS.asInt .i64 (xs.getD 4 undef) fun t4 => I m t3 t3l t4 H') ?_ n H ?_
  · intro n H
    suffices hs : ∀ s5 : Value, ∀ s6 : Value, ∀ s7 : Value, ∀ s8 : Value, ∀ s11 : Value, ∀ s12 : Value, ∀ s13 : Value, ∀ s14 : Value, ∀ s15 : Value, ∀ s16 : Value, ∀ s17 : Value, ∀ s3 : Value, ∀ s9 : Value, ∀ s10 : Value, ∀ s4 : Value, ((asSl s3 fun t3 t3l => AS.asInt .i64 s4 fun t4 => I n t3 t3l t4 H) → wpCode en L_crossbarkit_CopyInsns_0 [] [(.slice t0 t0l 0), undef, (.slice none 0 0), s3, s4, s5, s6, s7, s8, s9, s10, s11, s12, s13, s14, s15, s16, s17, undef] H (loopQ (fun m xs H' => asSl (xs.getD 3 undef) fun t3 t3l => AS.asInt .i64 (xs.getD 4 undef) fun t4 => I m t3 t3l t4 H') n [(X.exit 0, K0)])) by
      apply turnInto hs
      kernel_rfl
    intro s5 s6 s7 s8 s11 s12 s13 s14 s15 s16 s17 s3 s9 s10 s4 hP
    replace hP := asSl_elim hP
    obtain ⟨t3, t3l, rfl, hP⟩ := hP
    replace hP := asInt_elim hP
    obtain ⟨t4, rfl, hP⟩ := hP
    apply turnInto (hstep n t3 t3l t4 [(.slice t0 t0l 0), undef, (.slice none 0 0), (.slice t3 t3l 0), (.int .i64 t4), s5, s6, s7, s8, s9, s10, s11, s12, s13, s14, s15, s16, s17, undef] H hP)
    kernel_rfl
  · apply turnInto h0
    kernel_rfl


/-! crossbarkit_Pick -/

theorem vc_crossbarkit_Pick (x0 : Int) (x1 : Int) (H : Heap) (R : Value → Heap → Prop) :
    (
 bif (decide (x1 < 1)) then (
 R (.int .i64 0) H)
 else (
 nz x1 ∧
 bif (decide ((Int.tmod x0 x1) < 0)) then (
 R (.int .i64 (IntKind.i64.wrap ((Int.tmod x0 x1) + x1))) H)
 else (
 R (.int .i64 (Int.tmod x0 x1)) H))) →
    CA en F.crossbarkit_Pick [(.int .i64 x0), (.int .i64 x1)] H R := by
  intro h
  refine wpFn_ok (Z := []) (fn := Go.Proofs.Tryd.f28) ?_ ?_ ?_
  · kernel_rfl
  · kernel_rfl
  · apply turnInto h
    kernel_rfl


/-! crossbarlaw02_InsnPuts -/

theorem vc_crossbarlaw02_InsnPuts (x0 : Option Addr) (x0l : Nat) (H : Heap) (R : Value → Heap → Prop) :
    (
 bif (decide (((x0l : Nat) : Int) > 300)) then (
 CA en F.crossbarlaw02_known [] H fun v1 H2 =>
 ∃ b3, v1 = (.bool b3) ∧
 R (.bool b3) H2)
 else (
 CA en F.crossbarkit_LentInsns [(.slice x0 x0l 0)] H fun v4 H5 =>
 ∃ a6 i7, v4 = (.slice a6 i7 0) ∧
 inS ((x0l : Nat) : Int) i7 ∧
 slK H5 a6 5 0 ((x0l : Nat) : Int).toNat fun v8 =>
 CA en F.insn_Put [v8] H5 fun v9 H10 =>
 ∃ a11 i12, ∃ n13, v9 = (.tuple #[(.slice a11 i12 0), (.int .i64 n13)]) ∧
 CA en F.crossbarref02_Put [(.slice x0 x0l 0)] H10 fun v14 H15 =>
 ∃ a16 i17, ∃ n18, v14 = (.tuple #[(.slice a16 i17 0), (.int .i64 n18)]) ∧
 bif (n13 != n18) then (
 R (.bool false) H15)
 else (
 CA en F.crossbarkit_SameBytes [(.slice a11 i12 0), (.slice a16 i17 0)] H15 fun v19 H20 =>
 ∃ b21, v19 = (.bool b21) ∧
 bif (!b21) then (
 R (.bool false) H20)
 else (
 CA en F.crossbarkit_KeptInsns [(.slice a6 i7 0), (.slice x0 x0l 0)] H20 fun v22 H23 =>
 ∃ b24, v22 = (.bool b24) ∧
 bif (!b24) then (
 R (.bool false) H23)
 else (
 CA en F.crossbarkit_SpoilBytes [(.slice a11 i12 0)] H23 fun v25 H26 =>
 v25 = undef ∧
 CA en F.insn_Put [(.slice x0 x0l 0)] H26 fun v27 H28 =>
 ∃ a29 i30, ∃ n31, v27 = (.tuple #[(.slice a29 i30 0), (.int .i64 n31)]) ∧
 CA en F.crossbarkit_SameBytes [(.slice a29 i30 0), (.slice a16 i17 0)] H28 fun v32 H33 =>
 ∃ b34, v32 = (.bool b34) ∧
 bif b34 then (
 CA en F.crossbarlaw02_known [] H33 fun v35 H36 =>
 ∃ b37, v35 = (.bool b37) ∧
 R (.bool b37) H36)
 else (
 R (.bool false) H33)))))) →
    CA en F.crossbarlaw02_InsnPuts [(.slice x0 x0l 0)] H R := by
  intro h
  refine wpFn_ok (Z := []) (fn := Go.Proofs.Tryd.f3) ?_ ?_ ?_
  · kernel_rfl
  · kernel_rfl
  · apply turnInto h
    kernel_rfl


/-! crossbarlaw02_InsnGets -/

theorem vc_crossbarlaw02_InsnGets (x0 : Option Addr) (x0l : Nat) (H : Heap) (R : Value → Heap → Prop) :
    (
 bif (decide (((x0l : Nat) : Int) > 8192)) then (
 CA en F.crossbarlaw02_known [] H fun v1 H2 =>
 ∃ b3, v1 = (.bool b3) ∧
 R (.bool b3) H2)
 else (
 CA en F.crossbarkit_LentBytes [(.slice x0 x0l 0)] H fun v4 H5 =>
 ∃ a6 i7, v4 = (.slice a6 i7 0) ∧
 inS ((x0l : Nat) : Int) i7 ∧
 slK H5 a6 1 0 ((x0l : Nat) : Int).toNat fun v8 =>
 CA en F.insn_Get [v8] H5 fun v9 H10 =>
 ∃ a11 i12, ∃ n13, v9 = (.tuple #[(.slice a11 i12 0), (.int .i64 n13)]) ∧
 CA en F.crossbarref02_Get [(.slice x0 x0l 0)] H10 fun v14 H15 =>
 ∃ a16 i17, ∃ n18, v14 = (.tuple #[(.slice a16 i17 0), (.int .i64 n18)]) ∧
 bif (n13 != n18) then (
 R (.bool false) H15)
 else (
 CA en F.crossbarkit_SameInsns [(.slice a11 i12 0), (.slice a16 i17 0)] H15 fun v19 H20 =>
 ∃ b21, v19 = (.bool b21) ∧
 bif (!b21) then (
 R (.bool false) H20)
 else (
 CA en F.crossbarkit_KeptBytes [(.slice a6 i7 0), (.slice x0 x0l 0)] H20 fun v22 H23 =>
 ∃ b24, v22 = (.bool b24) ∧
 bif (!b24) then (
 R (.bool false) H23)
 else (
 CA en F.crossbarkit_SpoilInsns [(.slice a11 i12 0)] H23 fun v25 H26 =>
 v25 = undef ∧
 CA en F.insn_Get [(.slice x0 x0l 0)] H26 fun v27 H28 =>
 ∃ a29 i30, ∃ n31, v27 = (.tuple #[(.slice a29 i30 0), (.int .i64 n31)]) ∧
 CA en F.crossbarkit_SameInsns [(.slice a29 i30 0), (.slice a16 i17 0)] H28 fun v32 H33 =>
 ∃ b34, v32 = (.bool b34) ∧
 bif b34 then (
 CA en F.crossbarlaw02_known [] H33 fun v35 H36 =>
 ∃ b37, v35 = (.bool b37) ∧
 R (.bool b37) H36)
 else (
 R (.bool false) H33)))))) →
    CA en F.crossbarlaw02_InsnGets [(.slice x0 x0l 0)] H R := by
  intro h
  refine wpFn_ok (Z := []) (fn := Go.Proofs.Tryd.f4) ?_ ?_ ?_
  · kernel_rfl
  · kernel_rfl
  · apply turnInto h
    kernel_rfl


/-! crossbarlaw02_InsnBack -/
noncomputable def L_crossbarlaw02_InsnBack_0 : Code := loopAt Go.Proofs.Tryd.f5 0

theorem vc_crossbarlaw02_InsnBack (x0 : Option Addr) (x0l : Nat) (x1 : Option Addr) (x1l : Nat) (H : Heap) (R : Value → Heap → Prop) :
    (
 bif (decide ((IntKind.i64.wrap (((x0l : Nat) : Int) + ((x1l : Nat) : Int))) > 256)) then (
 CA en F.crossbarlaw02_known [] H fun v1 H2 =>
 ∃ b3, v1 = (.bool b3) ∧
 R (.bool b3) H2)
 else (
 CA en F.insn_Put [(.slice x0 x0l 0)] H fun v4 H5 =>
 ∃ a6 i7, ∃ n8, v4 = (.tuple #[(.slice a6 i7 0), (.int .i64 n8)]) ∧
 CA en F.insn_Put [(.slice x1 x1l 0)] H5 fun v9 H10 =>
 ∃ a11 i12, ∃ n13, v9 = (.tuple #[(.slice a11 i12 0), (.int .i64 n13)]) ∧
 bif (n8 != 0) then (
 bif (n8 == 0) then (
 bif (n13 == 0) then (
 CA en F.crossbarlaw02_known [] H10 fun v14 H15 =>
 ∃ b16, v14 = (.bool b16) ∧
 R (.bool b16) H15)
 else (
 bif (((i12 : Nat) : Int) == 0) then (
 CA en F.crossbarlaw02_known [] H10 fun v17 H18 =>
 ∃ b19, v17 = (.bool b19) ∧
 R (.bool b19) H18)
 else (
 R (.bool false) H10)))
 else (
 bif (((i7 : Nat) : Int) == 0) then (
 bif (n13 == 0) then (
 CA en F.crossbarlaw02_known [] H10 fun v20 H21 =>
 ∃ b22, v20 = (.bool b22) ∧
 R (.bool b22) H21)
 else (
 bif (((i12 : Nat) : Int) == 0) then (
 CA en F.crossbarlaw02_known [] H10 fun v23 H24 =>
 ∃ b25, v23 = (.bool b25) ∧
 R (.bool b25) H24)
 else (
 R (.bool false) H10)))
 else (
 R (.bool false) H10)))
 else (
 bif (n13 != 0) then (
 bif (n8 == 0) then (
 bif (n13 == 0) then (
 CA en F.crossbarlaw02_known [] H10 fun v26 H27 =>
 ∃ b28, v26 = (.bool b28) ∧
 R (.bool b28) H27)
 else (
 bif (((i12 : Nat) : Int) == 0) then (
 CA en F.crossbarlaw02_known [] H10 fun v29 H30 =>
 ∃ b31, v29 = (.bool b31) ∧
 R (.bool b31) H30)
 else (
 R (.bool false) H10)))
 else (
 bif (((i7 : Nat) : Int) == 0) then (
 bif (n13 == 0) then (
 CA en F.crossbarlaw02_known [] H10 fun v32 H33 =>
 ∃ b34, v32 = (.bool b34) ∧
 R (.bool b34) H33)
 else (
 bif (((i12 : Nat) : Int) == 0) then (
 CA en F.crossbarlaw02_known [] H10 fun v35 H36 =>
 ∃ b37, v35 = (.bool b37) ∧
 R (.bool b37) H36)
 else (
 R (.bool false) H10)))
 else (
 R (.bool false) H10)))
 else (
 CA en F.crossbarkit_CopyInsns [(.slice x0 x0l 0)] H10 fun v38 H39 =>
 ∃ a40 i41, v38 = (.slice a40 i41 0) ∧
 ∃ l42, rowOf H39 5 x1 x1l = some l42 ∧
 apd H39 40 5 a40 i41 x1l l42 fun a43 i44 H45 =>
 LA en L_crossbarlaw02_InsnBack_0 [(.slice x0 x0l 0), (.slice x1 x1l 0), undef, undef, (.bool false), (.slice a6 i7 0), (.int .i64 n8), (.slice a11 i12 0), (.int .i64 n13), (.slice a43 i44 0), (.int .i64 0), (.int .i64 0), undef, undef, undef, undef, (.slice x0 x0l 0), (.int .i64 ((x0l : Nat) : Int)), (.slice x1 x1l 0), (.int .i64 ((x1l : Nat) : Int)), (.int .i64 (IntKind.i64.wrap (((x0l : Nat) : Int) + ((x1l : Nat) : Int)))), (.bool false), undef, (.tuple #[(.slice a6 i7 0), (.int .i64 n8)]), (.slice x0 x0l 0), (.tuple #[(.slice a6 i7 0), (.int .i64 n8)]), (.slice a6 i7 0), (.int .i64 n8), (.tuple #[(.slice a11 i12 0), (.int .i64 n13)]), (.slice x1 x1l 0), (.tuple #[(.slice a11 i12 0), (.int .i64 n13)]), (.slice a11 i12 0), (.int .i64 n13), (.int .i64 n8), (.bool (n8 != 0)), (.bool false), (.int .i64 n13), (.bool (n13 != 0)), (.bool false), undef, undef, undef, undef, undef, undef, undef, undef, undef, undef, undef, undef, undef, undef, undef, undef, undef, undef, undef, (.slice x0 x0l 0), (.slice a40 i41 0), (.slice x1 x1l 0), (.slice a43 i44 0), undef, undef, undef, undef, undef, undef, undef, undef, undef, undef, undef, undef, undef, undef, undef, undef, undef, undef, undef, undef, undef, undef, undef, undef, undef, undef, undef, undef, undef, undef, undef, undef, undef, undef, undef, undef, undef, undef, undef, undef, undef, undef, undef, undef, undef, undef, undef, undef, undef, undef, undef, undef, undef, undef] H45 [(X.exit 0, fun (y46 : Fr) (H47 : Heap) =>
 AS.asInt .i64 (y46.getD 10 undef) fun n48 =>
 CA en F.insn_Put [(.slice a43 i44 0)] H47 fun v49 H50 =>
 ∃ a51 i52, ∃ n53, v49 = (.tuple #[(.slice a51 i52 0), (.int .i64 n53)]) ∧
 CA en F.insn_Get [(.slice a51 i52 0)] H50 fun v54 H55 =>
 ∃ a56 i57, ∃ n58, v54 = (.tuple #[(.slice a56 i57 0), (.int .i64 n58)]) ∧
 bif (n53 == 0) then (
 bif (n58 == 0) then (
 bif (((i52 : Nat) : Int) == n48) then (
 CA en F.crossbarkit_CopyBytes [(.slice a6 i7 0)] H55 fun v59 H60 =>
 ∃ a61 i62, v59 = (.slice a61 i62 0) ∧
 ∃ l63, rowOf H60 1 a11 i12 = some l63 ∧
 apd H60 1 1 a61 i62 i12 l63 fun a64 i65 H66 =>
 CA en F.crossbarkit_SameBytes [(.slice a51 i52 0), (.slice a64 i65 0)] H66 fun v67 H68 =>
 ∃ b69, v67 = (.bool b69) ∧
 bif b69 then (
 CA en F.crossbarkit_SameInsns [(.slice a56 i57 0), (.slice a43 i44 0)] H68 fun v70 H71 =>
 ∃ b72, v70 = (.bool b72) ∧
 bif b72 then (
 CA en F.crossbarlaw02_known [] H71 fun v73 H74 =>
 ∃ b75, v73 = (.bool b75) ∧
 R (.bool b75) H74)
 else (
 R (.bool false) H71))
 else (
 R (.bool false) H68))
 else (
 R (.bool false) H55))
 else (
 R (.bool false) H55))
 else (
 R (.bool false) H55))])))) →
    CA en F.crossbarlaw02_InsnBack [(.slice x0 x0l 0), (.slice x1 x1l 0)] H R := by
  intro h
  refine wpFn_ok (Z := [[(10, (.int .i64 0))]]) (fn := Go.Proofs.Tryd.f5) ?_ ?_ ?_
  · kernel_rfl
  · kernel_rfl
  · apply turnInto h
    kernel_rfl

theorem use_crossbarlaw02_InsnBack_0 {t0 : Option Addr} {t0l : Nat} {t1 : Option Addr} {t1l : Nat} {t5 : Option Addr} {t5l : Nat} {t6 : Int} {t7 : Option Addr} {t7l : Nat} {t8 : Int} {t9 : Option Addr} {t9l : Nat} {t16 : Option Addr} {t16l : Nat} {t17 : Int} {t18 : Option Addr} {t18l : Nat} {t19 : Int} {t20 : Int} {t23_0 : Option Addr} {t23_0l : Nat} {t23_1 : Int} {t24 : Option Addr} {t24l : Nat} {t25_0 : Option Addr} {t25_0l : Nat} {t25_1 : Int} {t26 : Option Addr} {t26l : Nat} {t27 : Int} {t28_0 : Option Addr} {t28_0l : Nat} {t28_1 : Int} {t29 : Option Addr} {t29l : Nat} {t30_0 : Option Addr} {t30_0l : Nat} {t30_1 : Int} {t31 : Option Addr} {t31l : Nat} {t32 : Int} {t33 : Int} {t34 : Bool} {t36 : Int} {t37 : Bool} {t58 : Option Addr} {t58l : Nat} {t59 : Option Addr} {t59l : Nat} {t60 : Option Addr} {t60l : Nat} {t61 : Option Addr} {t61l : Nat} {K0 : Fr → Heap → Prop} {t10 : Int} {t11 : Int} {t62 : Value} {t63 : Value} {t64 : Value} {t65 : Value} {t66 : Value} {t67 : Value} {t68 : Value} {t69 : Value} {t70 : Value} {t71 : Value} {t72 : Value} {t73 : Value} {t74 : Value} {t75 : Value} {t76 : Value} {t77 : Value} {H : Heap} (I : Nat → Int → Int → Heap → Prop) (n : Nat) (h0 : I n t10 t11 H)
    (hstep : ∀ (n : Nat) (t10 : Int) (t11 : Int) (ys : Fr) (H : Heap), I n t10 t11 H →
    (
 bif (decide (t11 < ((t9l : Nat) : Int))) then (
 inB t11 t9l ∧
 asRow t9 fun i1 i2 =>
 ∃ n3, H.cell i1 (i2 + (t11.toNat * 5)) = some (.int .i64 n3) ∧
 bif (n3 == 24) then (
 ∃ k4, k4 < n ∧
 I k4 (IntKind.i64.wrap ((IntKind.i64.wrap (t10 + 8)) + 8)) (IntKind.i64.wrap (t11 + 1)) H)
 else (
 ∃ k5, k5 < n ∧
 I k5 (IntKind.i64.wrap (t10 + 8)) (IntKind.i64.wrap (t11 + 1)) H))
 else (
 K0 [(.slice t0 t0l 0), (.slice t1 t1l 0), undef, undef, (.bool false), (.slice t5 t5l 0), (.int .i64 t6), (.slice t7 t7l 0), (.int .i64 t8), (.slice t9 t9l 0), (.int .i64 t10), (.int .i64 t11), undef, undef, undef, undef, (.slice t16 t16l 0), (.int .i64 t17), (.slice t18 t18l 0), (.int .i64 t19), (.int .i64 t20), (.bool false), undef, (.tuple #[(.slice t23_0 t23_0l 0), (.int .i64 t23_1)]), (.slice t24 t24l 0), (.tuple #[(.slice t25_0 t25_0l 0), (.int .i64 t25_1)]), (.slice t26 t26l 0), (.int .i64 t27), (.tuple #[(.slice t28_0 t28_0l 0), (.int .i64 t28_1)]), (.slice t29 t29l 0), (.tuple #[(.slice t30_0 t30_0l 0), (.int .i64 t30_1)]), (.slice t31 t31l 0), (.int .i64 t32), (.int .i64 t33), (.bool t34), (.bool false), (.int .i64 t36), (.bool t37), (.bool false), undef, undef, undef, undef, undef, undef, undef, undef, undef, undef, undef, undef, undef, undef, undef, undef, undef, undef, undef, (.slice t58 t58l 0), (.slice t59 t59l 0), (.slice t60 t60l 0), (.slice t61 t61l 0), (.int .i64 t11), (.slice t9 t9l 0), (.int .i64 ((t9l : Nat) : Int)), (.bool false), (ys.getD 66 undef), (ys.getD 67 undef), (ys.getD 68 undef), (ys.getD 69 undef), (ys.getD 70 undef), (ys.getD 71 undef), (ys.getD 72 undef), (ys.getD 73 undef), (ys.getD 74 undef), (ys.getD 75 undef), (ys.getD 76 undef), (ys.getD 77 undef), undef, undef, undef, undef, undef, undef, undef, undef, undef, undef, undef, undef, undef, undef, undef, undef, undef, undef, undef, undef, undef, undef, undef, undef, undef, undef, undef, undef, undef, undef, undef, undef, undef, undef, undef, undef, undef, undef] H))) :
    LA en L_crossbarlaw02_InsnBack_0 [(.slice t0 t0l 0), (.slice t1 t1l 0), undef, undef, (.bool false), (.slice t5 t5l 0), (.int .i64 t6), (.slice t7 t7l 0), (.int .i64 t8), (.slice t9 t9l 0), (.int .i64 t10), (.int .i64 t11), undef, undef, undef, undef, (.slice t16 t16l 0), (.int .i64 t17), (.slice t18 t18l 0), (.int .i64 t19), (.int .i64 t20), (.bool false), undef, (.tuple #[(.slice t23_0 t23_0l 0), (.int .i64 t23_1)]), (.slice t24 t24l 0), (.tuple #[(.slice t25_0 t25_0l 0), (.int .i64 t25_1)]), (.slice t26 t26l 0), (.int .i64 t27), (.tuple #[(.slice t28_0 t28_0l 0), (.int .i64 t28_1)]), (.slice t29 t29l 0), (.tuple #[(.slice t30_0 t30_0l 0), (.int .i64 t30_1)]), (.slice t31 t31l 0), (.int .i64 t32), (.int .i64 t33), (.bool t34), (.bool false), (.int .i64 t36), (.bool t37), (.bool false), undef, undef, undef, undef, undef, undef, undef, undef, undef, undef, undef, undef, undef, undef, undef, undef, undef, undef, undef, (.slice t58 t58l 0), (.slice t59 t59l 0), (.slice t60 t60l 0), (.slice t61 t61l 0), t62, t63, t64, t65, t66, t67, t68, t69, t70, t71, t72, t73, t74, t75, t76, t77, undef, undef, undef, undef, undef, undef, undef, undef, undef, undef, undef, undef, undef, undef, undef, undef, undef, undef, undef, undef, undef, undef, undef, undef, undef, undef, undef, undef, undef, undef, undef, undef, undef, undef, undef, undef, undef, undef] H [(X.exit 0, K0)] := by
  refine LA_rule (Z := []) (fun m xs H' => AS.asInt .i64 (xs.getD 10 undef) fun t10 => AS.asInt .i64 (xs.getD 11 undef) fun t11 => I m t10 t11 H') ?_ n H ?_
  · intro n H
    suffices hs : ∀ s62 : Value, ∀ s63 : Value, ∀ s64 : Value, ∀ s65 : Value, ∀ s68 : Value, ∀ s69 : Value, ∀ s10 : Value, ∀ s70 : Value, ∀ s71 : Value, ∀ s72 : Value, ∀ s73 : Value, ∀ s74 : Value, ∀ s75 : Value, ∀ s76 : Value, ∀ s77 : Value, ∀ s66 : Value, ∀ s67 : Value, ∀ s11 : Value, ((AS.asInt .i64 s10 fun t10 => AS.asInt .i64 s11 fun t11 => I n t10 t11 H) → wpCode en L_crossbarlaw02_InsnBack_0 [] [(.slice t0 t0l 0), (.slice t1 t1l 0), undef, undef, (.bool false), (.slice t5 t5l 0), (.int .i64 t6), (.slice t7 t7l 0), (.int .i64 t8), (.slice t9 t9l 0), s10, s11, undef, undef, undef, undef, (.slice t16 t16l 0), (.int .i64 t17), (.slice t18 t18l 0), (.int .i64 t19), (.int .i64 t20), (.bool false), undef, (.tuple #[(.slice t23_0 t23_0l 0), (.int .i64 t23_1)]), (.slice t24 t24l 0), (.tuple #[(.slice t25_0 t25_0l 0), (.int .i64 t25_1)]), (.slice t26 t26l 0), (.int .i64 t27), (.tuple #[(.slice t28_0 t28_0l 0), (.int .i64 t28_1)]), (.slice t29 t29l 0), (.tuple #[(.slice t30_0 t30_0l 0), (.int .i64 t30_1)]), (.slice t31 t31l 0), (.int .i64 t32), (.int .i64 t33), (.bool t34), (.bool false), (.int .i64 t36), (.bool t37), (.bool false), undef, undef, undef, undef, undef, undef, undef, undef, undef, undef, undef, undef, undef, undef, undef, undef, undef, undef, undef, (.slice t58 t58l 0), (.slice t59 t59l 0), (.slice t60 t60l 0), (.slice t61 t61l 0), s62, s63, s64, s65, s66, s67, s68, s69, s70, s71, s72, s73, s74, s75, s76, s77, undef, undef, undef, undef, undef, undef, undef, undef, undef, undef, undef, undef, undef, undef, undef, undef, undef, undef, undef, undef, undef, undef, undef, undef, undef, undef, undef, undef, undef, undef, undef, undef, undef, undef, undef, undef, undef, undef] H (loopQ (fun m xs H' => AS.asInt .i64 (xs.getD 10 undef) fun t10 => AS.asInt .i64 (xs.getD 11 undef) fun t11 => I m t10 t11 H') n [(X.exit 0, K0)])) by
      apply turnInto hs
      kernel_rfl
    intro s62 s63 s64 s65 s68 s69 s10 s70 s71 s72 s73 s74 s75 s76 s77 s66 s67 s11 hP
    replace hP := asInt_elim hP
    obtain ⟨t10, rfl, hP⟩ := hP
    replace hP := asInt_elim hP
    obtain ⟨t11, rfl, hP⟩ := hP
    apply turnInto (hstep n t10 t11 [(.slice t0 t0l 0), (.slice t1 t1l 0), undef, undef, (.bool false), (.slice t5 t5l 0), (.int .i64 t6), (.slice t7 t7l 0), (.int .i64 t8), (.slice t9 t9l 0), (.int .i64 t10), (.int .i64 t11), undef, undef, undef, undef, (.slice t16 t16l 0), (.int .i64 t17), (.slice t18 t18l 0), (.int .i64 t19), (.int .i64 t20), (.bool false), undef, (.tuple #[(.slice t23_0 t23_0l 0), (.int .i64 t23_1)]), (.slice t24 t24l 0), (.tuple #[(.slice t25_0 t25_0l 0), (.int .i64 t25_1)]), (.slice t26 t26l 0), (.int .i64 t27), (.tuple #[(.slice t28_0 t28_0l 0), (.int .i64 t28_1)]), (.slice t29 t29l 0), (.tuple #[(.slice t30_0 t30_0l 0), (.int .i64 t30_1)]), (.slice t31 t31l 0), (.int .i64 t32), (.int .i64 t33), (.bool t34), (.bool false), (.int .i64 t36), (.bool t37), (.bool false), undef, undef, undef, undef, undef, undef, undef, undef, undef, undef, undef, undef, undef, undef, undef, undef, undef, undef, undef, (.slice t58 t58l 0), (.slice t59 t59l 0), (.slice t60 t60l 0), (.slice t61 t61l 0), s62, s63, s64, s65, s66, s67, s68, s69, s70, s71, s72, s73, s74, s75, s76, s77, undef, undef, undef, undef, undef, undef, undef, undef, undef, undef, undef, undef, undef, undef, undef, undef, undef, undef, undef, undef, undef, undef, undef, undef, undef, undef, undef, undef, undef, undef, undef, undef, undef, undef, undef, undef, undef, undef] H hP)
    kernel_rfl
  · apply turnInto h0
    kernel_rfl


/-! crossbarlaw02_InsnAgain -/
noncomputable def L_crossbarlaw02_InsnAgain_0 : Code := loopAt Go.Proofs.Tryd.f6 0

theorem vc_crossbarlaw02_InsnAgain (x0 : Option Addr) (x0l : Nat) (x1 : Int) (H : Heap) (R : Value → Heap → Prop) :
    (
 bif (decide (((x0l : Nat) : Int) > 8192)) then (
 CA en F.crossbarlaw02_known [] H fun v1 H2 =>
 ∃ b3, v1 = (.bool b3) ∧
 R (.bool b3) H2)
 else (
 CA en F.insn_Get [(.slice x0 x0l 0)] H fun v4 H5 =>
 ∃ a6 i7, ∃ n8, v4 = (.tuple #[(.slice a6 i7 0), (.int .i64 n8)]) ∧
 bif (n8 != 0) then (
 bif (((i7 : Nat) : Int) == 0) then (
 CA en F.crossbarlaw02_known [] H5 fun v9 H10 =>
 ∃ b11, v9 = (.bool b11) ∧
 R (.bool b11) H10)
 else (
 R (.bool false) H5))
 else (
 LA en L_crossbarlaw02_InsnAgain_0 [(.slice x0 x0l 0), (.int .i64 x1), undef, undef, (.bool false), (.slice a6 i7 0), (.int .i64 n8), (.int .i64 0), undef, undef, undef, undef, undef, undef, (.slice x0 x0l 0), (.int .i64 ((x0l : Nat) : Int)), (.bool false), undef, (.tuple #[(.slice a6 i7 0), (.int .i64 n8)]), (.slice x0 x0l 0), (.tuple #[(.slice a6 i7 0), (.int .i64 n8)]), (.slice a6 i7 0), (.int .i64 n8), (.int .i64 n8), (.bool false), undef, undef, undef, undef, undef, undef, undef, undef, undef, undef, undef, undef, undef, undef, undef, undef, undef, undef, undef, undef, undef, undef, undef, undef, undef, undef, undef, undef, undef, undef, undef, undef, undef, undef, undef, undef, undef, undef, undef, undef, undef, undef, undef, undef, undef, undef, undef, undef, undef, undef, undef, undef, undef, undef, undef, undef, undef, undef, undef, undef, undef, undef, undef, undef, undef, undef, undef, undef, undef, undef, undef, undef, undef, undef, undef, undef, undef, undef, undef, undef, undef, undef, undef, undef, undef, undef] H5 [(X.exit 0, fun (y12 : Fr) (H13 : Heap) =>
 AS.asBool (y12.getD 4 undef) fun b14 =>
 CA en F.insn_Put [(.slice a6 i7 0)] H13 fun v15 H16 =>
 ∃ a17 i18, ∃ n19, v15 = (.tuple #[(.slice a17 i18 0), (.int .i64 n19)]) ∧
 CA en F.crossbarkit_Pick [(.int .i64 x1), (.int .i64 (IntKind.i64.wrap (((x0l : Nat) : Int) + 1)))] H16 fun v20 H21 =>
 ∃ n22, v20 = (.int .i64 n22) ∧
 inS n22 x0l ∧
 slK H21 x0 1 0 n22.toNat fun v23 =>
 CA en F.insn_Get [v23] H21 fun v24 H25 =>
 ∃ a26 i27, ∃ n28, v24 = (.tuple #[(.slice a26 i27 0), (.int .i64 n28)]) ∧
 bif (n19 != 0) then (
 R (.bool false) H25)
 else (
 CA en F.crossbarkit_SameBytes [(.slice a17 i18 0), (.slice x0 x0l 0)] H25 fun v29 H30 =>
 ∃ b31, v29 = (.bool b31) ∧
 bif (!b31) then (
 R (.bool false) H30)
 else (
 bif (n28 == 0) then (
 CA en F.insn_Put [(.slice a26 i27 0)] H30 fun v32 H33 =>
 ∃ a34 i35, ∃ n36, v32 = (.tuple #[(.slice a34 i35 0), (.int .i64 n36)]) ∧
 bif (n36 == 0) then (
 bif (((i35 : Nat) : Int) == n22) then (
 bif (decide (((i27 : Nat) : Int) ≤ ((i7 : Nat) : Int))) then (
 inS ((i27 : Nat) : Int) i7 ∧
 slK H33 a6 5 0 ((i27 : Nat) : Int).toNat fun v37 =>
 CA en F.crossbarkit_SameInsns [(.slice a26 i27 0), v37] H33 fun v38 H39 =>
 ∃ b40, v38 = (.bool b40) ∧
 bif b40 then (
 CA en F.crossbarlaw02_known [] H39 fun v41 H42 =>
 ∃ b43, v41 = (.bool b43) ∧
 R (.bool b43) H42)
 else (
 R (.bool false) H39))
 else (
 R (.bool false) H33))
 else (
 R (.bool false) H33))
 else (
 R (.bool false) H33))
 else (
 bif (n28 == 20) then (
 bif (((i27 : Nat) : Int) == 0) then (
 CA en F.crossbarlaw02_known [] H30 fun v44 H45 =>
 ∃ b46, v44 = (.bool b46) ∧
 R (.bool b46) H45)
 else (
 R (.bool false) H30))
 else (
 R (.bool false) H30))))),
 (X.ret, fun (y47 : Fr) (H48 : Heap) =>
 AS.asBool (y47.getD 4 undef) fun b49 =>
 R (.bool b49) H48)]))) →
    CA en F.crossbarlaw02_InsnAgain [(.slice x0 x0l 0), (.int .i64 x1)] H R := by
  intro h
  refine wpFn_ok (Z := [[(4, (.bool false))]]) (fn := Go.Proofs.Tryd.f6) ?_ ?_ ?_
  · kernel_rfl
  · kernel_rfl
  · apply turnInto h
    kernel_rfl

theorem use_crossbarlaw02_InsnAgain_0 {t0 : Option Addr} {t0l : Nat} {t1 : Int} {t5 : Option Addr} {t5l : Nat} {t6 : Int} {t14 : Option Addr} {t14l : Nat} {t15 : Int} {t18_0 : Option Addr} {t18_0l : Nat} {t18_1 : Int} {t19 : Option Addr} {t19l : Nat} {t20_0 : Option Addr} {t20_0l : Nat} {t20_1 : Int} {t21 : Option Addr} {t21l : Nat} {t22 : Int} {t23 : Int} {K0 : Fr → Heap → Prop} {K1 : Fr → Heap → Prop} {t4 : Bool} {t7 : Int} {t31 : Value} {t32 : Value} {t33 : Value} {t34 : Value} {t35 : Value} {t36 : Value} {t37 : Value} {t38 : Value} {t39 : Value} {t40 : Value} {t41 : Value} {t42 : Value} {H : Heap} (I : Nat → Bool → Int → Heap → Prop) (n : Nat) (h0 : I n t4 t7 H)
    (hstep : ∀ (n : Nat) (t4 : Bool) (t7 : Int) (ys : Fr) (H : Heap), I n t4 t7 H →
    (
 bif (decide (t7 < ((t5l : Nat) : Int))) then (
 inB t7 t5l ∧
 asRow t5 fun i1 i2 =>
 ∃ n3, ∃ n4, ∃ n5, ∃ n6, ∃ n7, H.cellsAt i1 (i2 + (t7.toNat * 5)) 5 = some [(.int .i64 n3), (.int .i64 n4), (.int .i64 n5), (.int .i64 n6), (.int .i64 n7)] ∧
 CA en F.insn_Check [(.agg #[(.int .i64 n3), (.int .i64 n4), (.int .i64 n5), (.int .i64 n6), (.int .i64 n7)])] H fun v8 H9 =>
 ∃ n10, v8 = (.int .i64 n10) ∧
 bif (n10 != 0) then (
 K1 [(.slice t0 t0l 0), (.int .i64 t1), undef, undef, (.bool false), (.slice t5 t5l 0), (.int .i64 t6), (.int .i64 t7), undef, undef, undef, undef, undef, undef, (.slice t14 t14l 0), (.int .i64 t15), (.bool false), undef, (.tuple #[(.slice t18_0 t18_0l 0), (.int .i64 t18_1)]), (.slice t19 t19l 0), (.tuple #[(.slice t20_0 t20_0l 0), (.int .i64 t20_1)]), (.slice t21 t21l 0), (.int .i64 t22), (.int .i64 t23), (.bool false), undef, undef, undef, undef, undef, undef, (.int .i64 t7), (.slice t5 t5l 0), (.int .i64 ((t5l : Nat) : Int)), (.bool true), (ys.getD 35 undef), (ys.getD 36 undef), (.slice t5 t5l 0), (.int .i64 t7), (.pointer (some ⟨i1, (i2 + (t7.toNat * 5)), none⟩)), (.agg #[(.int .i64 n3), (.int .i64 n4), (.int .i64 n5), (.int .i64 n6), (.int .i64 n7)]), (.int .i64 n10), (.bool true), undef, undef, undef, undef, undef, undef, undef, undef, undef, undef, undef, undef, undef, undef, undef, undef, undef, undef, undef, undef, undef, undef, undef, undef, undef, undef, undef, undef, undef, undef, undef, undef, undef, undef, undef, undef, undef, undef, undef, undef, undef, undef, undef, undef, undef, undef, undef, undef, undef, undef, undef, undef, undef, undef, undef, undef, undef, undef, undef, undef, undef, undef, undef, undef, undef, undef, undef, undef] H9)
 else (
 ∃ k11, k11 < n ∧
 I k11 t4 (IntKind.i64.wrap (t7 + 1)) H9))
 else (
 K0 [(.slice t0 t0l 0), (.int .i64 t1), undef, undef, (.bool t4), (.slice t5 t5l 0), (.int .i64 t6), (.int .i64 t7), undef, undef, undef, undef, undef, undef, (.slice t14 t14l 0), (.int .i64 t15), (.bool false), undef, (.tuple #[(.slice t18_0 t18_0l 0), (.int .i64 t18_1)]), (.slice t19 t19l 0), (.tuple #[(.slice t20_0 t20_0l 0), (.int .i64 t20_1)]), (.slice t21 t21l 0), (.int .i64 t22), (.int .i64 t23), (.bool false), undef, undef, undef, undef, undef, undef, (.int .i64 t7), (.slice t5 t5l 0), (.int .i64 ((t5l : Nat) : Int)), (.bool false), (ys.getD 35 undef), (ys.getD 36 undef), (ys.getD 37 undef), (ys.getD 38 undef), (ys.getD 39 undef), (ys.getD 40 undef), (ys.getD 41 undef), (ys.getD 42 undef), undef, undef, undef, undef, undef, undef, undef, undef, undef, undef, undef, undef, undef, undef, undef, undef, undef, undef, undef, undef, undef, undef, undef, undef, undef, undef, undef, undef, undef, undef, undef, undef, undef, undef, undef, undef, undef, undef, undef, undef, undef, undef, undef, undef, undef, undef, undef, undef, undef, undef, undef, undef, undef, undef, undef, undef, undef, undef, undef, undef, undef, undef, undef, undef, undef, undef, undef, undef] H))) :
    LA en L_crossbarlaw02_InsnAgain_0 [(.slice t0 t0l 0), (.int .i64 t1), undef, undef, (.bool t4), (.slice t5 t5l 0), (.int .i64 t6), (.int .i64 t7), undef, undef, undef, undef, undef, undef, (.slice t14 t14l 0), (.int .i64 t15), (.bool false), undef, (.tuple #[(.slice t18_0 t18_0l 0), (.int .i64 t18_1)]), (.slice t19 t19l 0), (.tuple #[(.slice t20_0 t20_0l 0), (.int .i64 t20_1)]), (.slice t21 t21l 0), (.int .i64 t22), (.int .i64 t23), (.bool false), undef, undef, undef, undef, undef, undef, t31, t32, t33, t34, t35, t36, t37, t38, t39, t40, t41, t42, undef, undef, undef, undef, undef, undef, undef, undef, undef, undef, undef, undef, undef, undef, undef, undef, undef, undef, undef, undef, undef, undef, undef, undef, undef, undef, undef, undef, undef, undef, undef, undef, undef, undef, undef, undef, undef, undef, undef, undef, undef, undef, undef, undef, undef, undef, undef, undef, undef, undef, undef, undef, undef, undef, undef, undef, undef, undef, undef, undef, undef, undef, undef, undef, undef, undef, undef, undef] H [(X.exit 0, K0), (X.ret, K1)] := by
  refine LA_rule (Z := []) (fun m xs H' => AS.asBool (xs.getD 4 undef) fun t4 => AS.asInt .i64 (xs.getD 7 undef) fun t7 => I m t4 t7 H') ?_ n H ?_
  · intro n H
    suffices hs : ∀ s31 : Value, ∀ s32 : Value, ∀ s33 : Value, ∀ s34 : Value, ∀ s37 : Value, ∀ s38 : Value, ∀ s39 : Value, ∀ s40 : Value, ∀ s41 : Value, ∀ s42 : Value, ∀ s4 : Value, ∀ s35 : Value, ∀ s36 : Value, ∀ s7 : Value, ((AS.asBool s4 fun t4 => AS.asInt .i64 s7 fun t7 => I n t4 t7 H) → wpCode en L_crossbarlaw02_InsnAgain_0 [] [(.slice t0 t0l 0), (.int .i64 t1), undef, undef, s4, (.slice t5 t5l 0), (.int .i64 t6), s7, undef, undef, undef, undef, undef, undef, (.slice t14 t14l 0), (.int .i64 t15), (.bool false), undef, (.tuple #[(.slice t18_0 t18_0l 0), (.int .i64 t18_1)]), (.slice t19 t19l 0), (.tuple #[(.slice t20_0 t20_0l 0), (.int .i64 t20_1)]), (.slice t21 t21l 0), (.int .i64 t22), (.int .i64 t23), (.bool false), undef, undef, undef, undef, undef, undef, s31, s32, s33, s34, s35, s36, s37, s38, s39, s40, s41, s42, undef, undef, undef, undef, undef, undef, undef, undef, undef, undef, undef, undef, undef, undef, undef, undef, undef, undef, undef, undef, undef, undef, undef, undef, undef, undef, undef, undef, undef, undef, undef, undef, undef, undef, undef, undef, undef, undef, undef, undef, undef, undef, undef, undef, undef, undef, undef, undef, undef, undef, undef, undef, undef, undef, undef, undef, undef, undef, undef, undef, undef, undef, undef, undef, undef, undef, undef, undef] H (loopQ (fun m xs H' => AS.asBool (xs.getD 4 undef) fun t4 => AS.asInt .i64 (xs.getD 7 undef) fun t7 => I m t4 t7 H') n [(X.exit 0, K0), (X.ret, K1)])) by
      apply turnInto hs
      kernel_rfl
    intro s31 s32 s33 s34 s37 s38 s39 s40 s41 s42 s4 s35 s36 s7 hP
    replace hP := asBool_elim hP
    obtain ⟨t4, rfl, hP⟩ := hP
    replace hP := asInt_elim hP
    obtain ⟨t7, rfl, hP⟩ := hP
    apply turnInto (hstep n t4 t7 [(.slice t0 t0l 0), (.int .i64 t1), undef, undef, (.bool t4), (.slice t5 t5l 0), (.int .i64 t6), (.int .i64 t7), undef, undef, undef, undef, undef, undef, (.slice t14 t14l 0), (.int .i64 t15), (.bool false), undef, (.tuple #[(.slice t18_0 t18_0l 0), (.int .i64 t18_1)]), (.slice t19 t19l 0), (.tuple #[(.slice t20_0 t20_0l 0), (.int .i64 t20_1)]), (.slice t21 t21l 0), (.int .i64 t22), (.int .i64 t23), (.bool false), undef, undef, undef, undef, undef, undef, s31, s32, s33, s34, s35, s36, s37, s38, s39, s40, s41, s42, undef, undef, undef, undef, undef, undef, undef, undef, undef, undef, undef, undef, undef, undef, undef, undef, undef, undef, undef, undef, undef, undef, undef, undef, undef, undef, undef, undef, undef, undef, undef, undef, undef, undef, undef, undef, undef, undef, undef, undef, undef, undef, undef, undef, undef, undef, undef, undef, undef, undef, undef, undef, undef, undef, undef, undef, undef, undef, undef, undef, undef, undef, undef, undef, undef, undef, undef, undef] H hP)
    kernel_rfl
  · apply turnInto h0
    kernel_rfl


/-! crossbarlaw02_InsnKnown -/
noncomputable def L_crossbarlaw02_InsnKnown_0 : Code := loopAt Go.Proofs.Tryd.f7 0
noncomputable def L_crossbarlaw02_InsnKnown_1 : Code := loopAt Go.Proofs.Tryd.f7 1

/-! crossbarlaw02_known -/

theorem vc_crossbarlaw02_known (H : Heap) (R : Value → Heap → Prop) :
    (
 nwH H (.cells true 1 [(.int .u8 183), (.int .u8 2), (.int .u8 0), (.int .u8 0), (.int .u8 255), (.int .u8 255), (.int .u8 255), (.int .u8 255)]) fun i1 H2 =>
 CA en F.crossbarlaw02_bytes [(.agg #[(.int .i64 183), (.int .i64 2), (.int .i64 0), (.int .i64 0), (.int .i64 (-1))]), (.slice (some ⟨i1, 0, none⟩) 8 0)] H2 fun v3 H4 =>
 ∃ b5, v3 = (.bool b5) ∧
 bif b5 then (
 CA en F.insn_Check [(.agg #[(.int .i64 149), (.int .i64 0), (.int .i64 0), (.int .i64 0), (.int .i64 0)])] H4 fun v6 H7 =>
 ∃ n8, v6 = (.int .i64 n8) ∧
 bif (n8 == 0) then (
 CA en F.insn_Check [(.agg #[(.int .i64 7), (.int .i64 10), (.int .i64 0), (.int .i64 0), (.int .i64 0)])] H7 fun v9 H10 =>
 ∃ n11, v9 = (.int .i64 n11) ∧
 R (.bool (n11 == 8)) H10)
 else (
 R (.bool false) H7))
 else (
 R (.bool false) H4)) →
    CA en F.crossbarlaw02_known [] H R := by
  intro h
  refine wpFn_ok (Z := []) (fn := Go.Proofs.Tryd.f12) ?_ ?_ ?_
  · kernel_rfl
  · kernel_rfl
  · apply turnInto h
    kernel_rfl


/-! crossbarlaw02_bytes -/

theorem vc_crossbarlaw02_bytes (x0_0 : Int) (x0_1 : Int) (x0_2 : Int) (x0_3 : Int) (x0_4 : Int) (x1 : Option Addr) (x1l : Nat) (H : Heap) (R : Value → Heap → Prop) :
    (
 nwH H (.cells true 0 [(.int .i64 x0_0), (.int .i64 x0_1), (.int .i64 x0_2), (.int .i64 x0_3), (.int .i64 x0_4)]) fun i1 H2 =>
 ∃ n3, ∃ n4, ∃ n5, ∃ n6, ∃ n7, H2.cellsAt i1 0 5 = some [(.int .i64 n3), (.int .i64 n4), (.int .i64 n5), (.int .i64 n6), (.int .i64 n7)] ∧
 nwH H2 (.cells true 5 [(.int .i64 n3), (.int .i64 n4), (.int .i64 n5), (.int .i64 n6), (.int .i64 n7)]) fun i8 H9 =>
 CA en F.insn_Put [(.slice (some ⟨i8, 0, none⟩) 1 0)] H9 fun v10 H11 =>
 ∃ a12 i13, ∃ n14, v10 = (.tuple #[(.slice a12 i13 0), (.int .i64 n14)]) ∧
 bif (n14 == 0) then (
 CA en F.crossbarkit_SameBytes [(.slice a12 i13 0), (.slice x1 x1l 0)] H11 fun v15 H16 =>
 ∃ b17, v15 = (.bool b17) ∧
 R (.bool b17) H16)
 else (
 R (.bool false) H11)) →
    CA en F.crossbarlaw02_bytes [(.agg #[(.int .i64 x0_0), (.int .i64 x0_1), (.int .i64 x0_2), (.int .i64 x0_3), (.int .i64 x0_4)]), (.slice x1 x1l 0)] H R := by
  intro h
  refine wpFn_ok (Z := []) (fn := Go.Proofs.Tryd.f29) ?_ ?_ ?_
  · kernel_rfl
  · kernel_rfl
  · apply turnInto h
    kernel_rfl


/-! crossbarlaw02_many -/
noncomputable def L_crossbarlaw02_many_0 : Code := loopAt Go.Proofs.Tryd.f30 0

theorem vc_crossbarlaw02_many (x0 : Int) (x1_0 : Int) (x1_1 : Int) (x1_2 : Int) (x1_3 : Int) (x1_4 : Int) (H : Heap) (R : Value → Heap → Prop) :
    (
 nwH H (.cells true 0 [(.int .i64 x1_0), (.int .i64 x1_1), (.int .i64 x1_2), (.int .i64 x1_3), (.int .i64 x1_4)]) fun i1 H2 =>
 LA en L_crossbarlaw02_many_0 [(.int .i64 x0), (.agg #[(.int .i64 x1_0), (.int .i64 x1_1), (.int .i64 x1_2), (.int .i64 x1_3), (.int .i64 x1_4)]), undef, (.pointer (some ⟨i1, 0, none⟩)), (.int .i64 0), (.int .i64 0), (.int .i64 0), undef, undef, undef, undef, undef, undef, undef, undef, undef, undef, undef, undef, undef, undef, undef, undef, undef, undef] H2 [(X.exit 0, fun (y3 : Fr) (H4 : Heap) =>
 AS.asInt .i64 (y3.getD 5 undef) fun n5 =>
 R (.int .i64 n5) H4)]) →
    CA en F.crossbarlaw02_many [(.int .i64 x0), (.agg #[(.int .i64 x1_0), (.int .i64 x1_1), (.int .i64 x1_2), (.int .i64 x1_3), (.int .i64 x1_4)])] H R := by
  intro h
  refine wpFn_ok (Z := [[(5, (.int .i64 0))]]) (fn := Go.Proofs.Tryd.f30) ?_ ?_ ?_
  · kernel_rfl
  · kernel_rfl
  · apply turnInto h
    kernel_rfl

end Go.Proofs.YtmgkngdbphkmmaaDoor
