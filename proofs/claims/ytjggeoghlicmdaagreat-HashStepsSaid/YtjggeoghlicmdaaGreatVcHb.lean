/-
  What functions of this seat's program need (printed by a program, checked by the kernel).
-/
import Derived.Test.YtjggeoghlicmdaaGreatNames
import Derived.Test.YtjggeoghlicmdaaGreatAs41
namespace Go.Proofs.YtjggeoghlicmdaaGreat
open Go Go.AS Go.RowKit
set_option linter.unusedVariables false
set_option maxRecDepth 100000
set_option maxHeartbeats 2000000

/-! crossbarlaw15_made -/
noncomputable def L_crossbarlaw15_made_0 : Code := loopAt Go.Proofs.Tryz.f26 0

theorem vc_crossbarlaw15_made (x0 : Int) (x1 : Int) (x2 : Int) (H : Heap) (R : Value → Heap → Prop) :
    (
 CA en F.smem_New [(.int .i64 x2)] H fun v1 H2 =>
 ∃ a3, v1 = (.pointer a3) ∧
 bif a3.isNone then (
 R (.tuple #[(.pointer none), (.pointer none), (.pointer none)]) H2)
 else (
 CA en F.grace_New [(.int .i64 10), (.pointer a3)] H2 fun v4 H5 =>
 ∃ a6, v4 = (.pointer a6) ∧
 bif a6.isNone then (
 R (.tuple #[(.pointer none), (.pointer none), (.pointer none)]) H5)
 else (
 LA en L_crossbarlaw15_made_0 [(.int .i64 x0), (.int .i64 x1), (.int .i64 x2), undef, undef, undef, (.pointer none), (.pointer none), (.pointer none), (.pointer a3), (.pointer a6), (.int .i64 0), undef, undef, (.int .i64 x2), (.pointer a3), (.pointer a3), (.bool false), (.pointer a3), (.pointer a6), (.pointer a6), (.bool false), undef, undef, undef, undef, undef, undef, undef, undef, undef, undef, undef, undef, undef, undef, undef, undef, undef, undef, undef, undef, undef, undef] H5 [(X.exit 0, fun (y7 : Fr) (H8 : Heap) =>
 asPtr (y7.getD 6 undef) fun a9 =>
 asPtr (y7.getD 7 undef) fun a10 =>
 asPtr (y7.getD 8 undef) fun a11 =>
 CA en F.hash_New [(.pointer a3), (.pointer a6), (.agg #[(.int .i64 4), (.int .i64 x0), (.int .i64 1), (.int .i64 x1), (.int .i64 0)])] H8 fun v12 H13 =>
 ∃ a14, ∃ n15, v12 = (.tuple #[(.pointer a14), (.int .i64 n15)]) ∧
 bif (n15 != 0) then (
 R (.tuple #[(.pointer none), (.pointer none), (.pointer none)]) H13)
 else (
 R (.tuple #[(.pointer a14), (.pointer a3), (.pointer a6)]) H13)),
 (X.ret, fun (y16 : Fr) (H17 : Heap) =>
 asPtr (y16.getD 6 undef) fun a18 =>
 asPtr (y16.getD 7 undef) fun a19 =>
 asPtr (y16.getD 8 undef) fun a20 =>
 R (.tuple #[(.pointer a18), (.pointer a19), (.pointer a20)]) H17)]))) →
    CA en F.crossbarlaw15_made [(.int .i64 x0), (.int .i64 x1), (.int .i64 x2)] H R := by
  intro h
  refine wpFn_ok (Z := [[(6, (.pointer none)), (7, (.pointer none)), (8, (.pointer none))]]) (fn := Go.Proofs.Tryz.f26) ?_ ?_ ?_
  · kernel_rfl
  · kernel_rfl
  · apply turnInto h
    kernel_rfl

theorem use_crossbarlaw15_made_0 {t0 : Int} {t1 : Int} {t2 : Int} {t9 : Option Addr} {t10 : Option Addr} {t14 : Int} {t15 : Option Addr} {t16 : Option Addr} {t18 : Option Addr} {t19 : Option Addr} {t20 : Option Addr} {K0 : Fr → Heap → Prop} {K1 : Fr → Heap → Prop} {t6 : Option Addr} {t7 : Option Addr} {t8 : Option Addr} {t11 : Int} {t22 : Value} {t23 : Value} {t24 : Value} {t25 : Value} {t26 : Value} {t27 : Value} {t28 : Value} {t29 : Value} {H : Heap} (I : Nat → Option Addr → Option Addr → Option Addr → Int → Heap → Prop) (n : Nat) (h0 : I n t6 t7 t8 t11 H)
    (hstep : ∀ (n : Nat) (t6 : Option Addr) (t7 : Option Addr) (t8 : Option Addr) (t11 : Int) (ys : Fr) (H : Heap), I n t6 t7 t8 t11 H →
    (
 bif (decide (t11 < 10)) then (
 CA en F.grace_Grace_Enter [(.pointer t10), (.int .i64 t11)] H fun v1 H2 =>
 ∃ b3, v1 = (.bool b3) ∧
 bif (!b3) then (
 K1 [(.int .i64 t0), (.int .i64 t1), (.int .i64 t2), undef, undef, undef, (.pointer none), (.pointer none), (.pointer none), (.pointer t9), (.pointer t10), (.int .i64 t11), undef, undef, (.int .i64 t14), (.pointer t15), (.pointer t16), (.bool false), (.pointer t18), (.pointer t19), (.pointer t20), (.bool false), (.int .i64 t11), (.bool true), (ys.getD 24 undef), (ys.getD 25 undef), (.pointer t10), (.int .i64 t11), (.bool b3), (.bool true), undef, undef, undef, undef, undef, undef, undef, undef, undef, undef, undef, undef, undef, undef] H2)
 else (
 ∃ k4, k4 < n ∧
 I k4 t6 t7 t8 (IntKind.i64.wrap (t11 + 1)) H2))
 else (
 K0 [(.int .i64 t0), (.int .i64 t1), (.int .i64 t2), undef, undef, undef, (.pointer t6), (.pointer t7), (.pointer t8), (.pointer t9), (.pointer t10), (.int .i64 t11), undef, undef, (.int .i64 t14), (.pointer t15), (.pointer t16), (.bool false), (.pointer t18), (.pointer t19), (.pointer t20), (.bool false), (.int .i64 t11), (.bool false), (ys.getD 24 undef), (ys.getD 25 undef), (ys.getD 26 undef), (ys.getD 27 undef), (ys.getD 28 undef), (ys.getD 29 undef), undef, undef, undef, undef, undef, undef, undef, undef, undef, undef, undef, undef, undef, undef] H))) :
    LA en L_crossbarlaw15_made_0 [(.int .i64 t0), (.int .i64 t1), (.int .i64 t2), undef, undef, undef, (.pointer t6), (.pointer t7), (.pointer t8), (.pointer t9), (.pointer t10), (.int .i64 t11), undef, undef, (.int .i64 t14), (.pointer t15), (.pointer t16), (.bool false), (.pointer t18), (.pointer t19), (.pointer t20), (.bool false), t22, t23, t24, t25, t26, t27, t28, t29, undef, undef, undef, undef, undef, undef, undef, undef, undef, undef, undef, undef, undef, undef] H [(X.exit 0, K0), (X.ret, K1)] := by
  refine LA_rule (Z := []) (fun m xs H' => asPtr (xs.getD 6 undef) fun t6 => asPtr (xs.getD 7 undef) fun t7 => asPtr (xs.getD 8 undef) fun t8 => AS.asInt .i64 (xs.getD 11 undef) fun t11 => I m t6 t7 t8 t11 H') ?_ n H ?_
  · intro n H
    suffices hs : ∀ s22 : Value, ∀ s23 : Value, ∀ s26 : Value, ∀ s27 : Value, ∀ s28 : Value, ∀ s29 : Value, ∀ s6 : Value, ∀ s7 : Value, ∀ s8 : Value, ∀ s24 : Value, ∀ s25 : Value, ∀ s11 : Value, ((asPtr s6 fun t6 => asPtr s7 fun t7 => asPtr s8 fun t8 => AS.asInt .i64 s11 fun t11 => I n t6 t7 t8 t11 H) → wpCode en L_crossbarlaw15_made_0 [] [(.int .i64 t0), (.int .i64 t1), (.int .i64 t2), undef, undef, undef, s6, s7, s8, (.pointer t9), (.pointer t10), s11, undef, undef, (.int .i64 t14), (.pointer t15), (.pointer t16), (.bool false), (.pointer t18), (.pointer t19), (.pointer t20), (.bool false), s22, s23, s24, s25, s26, s27, s28, s29, undef, undef, undef, undef, undef, undef, undef, undef, undef, undef, undef, undef, undef, undef] H (loopQ (fun m xs H' => asPtr (xs.getD 6 undef) fun t6 => asPtr (xs.getD 7 undef) fun t7 => asPtr (xs.getD 8 undef) fun t8 => AS.asInt .i64 (xs.getD 11 undef) fun t11 => I m t6 t7 t8 t11 H') n [(X.exit 0, K0), (X.ret, K1)])) by
      apply turnInto hs
      kernel_rfl
    intro s22 s23 s26 s27 s28 s29 s6 s7 s8 s24 s25 s11 hP
    replace hP := asPtr_elim hP
    obtain ⟨t6, rfl, hP⟩ := hP
    replace hP := asPtr_elim hP
    obtain ⟨t7, rfl, hP⟩ := hP
    replace hP := asPtr_elim hP
    obtain ⟨t8, rfl, hP⟩ := hP
    replace hP := asInt_elim hP
    obtain ⟨t11, rfl, hP⟩ := hP
    apply turnInto (hstep n t6 t7 t8 t11 [(.int .i64 t0), (.int .i64 t1), (.int .i64 t2), undef, undef, undef, (.pointer t6), (.pointer t7), (.pointer t8), (.pointer t9), (.pointer t10), (.int .i64 t11), undef, undef, (.int .i64 t14), (.pointer t15), (.pointer t16), (.bool false), (.pointer t18), (.pointer t19), (.pointer t20), (.bool false), s22, s23, s24, s25, s26, s27, s28, s29, undef, undef, undef, undef, undef, undef, undef, undef, undef, undef, undef, undef, undef, undef] H hP)
    kernel_rfl
  · apply turnInto h0
    kernel_rfl


/-! crossbarlaw15_finish -/
noncomputable def L_crossbarlaw15_finish_0 : Code := loopAt Go.Proofs.Tryz.f27 0

theorem vc_crossbarlaw15_finish (x0 : Option Addr) (x1 : Int) (H : Heap) (R : Value → Heap → Prop) :
    (
 nwH H (.cells true 0 [(.int .i64 0), (.slice none 0 0), (.int .u64 0), (.int .i64 0)]) fun i1 H2 =>
 bif x0.isNone then (
 stc H2 i1 0 [(.int .i64 0), (.slice none 0 0), (.int .u64 0), (.int .i64 0)] fun H3 =>
 ∃ n4, ∃ a5 i6, ∃ n7, ∃ n8, H3.cellsAt i1 0 4 = some [(.int .i64 n4), (.slice a5 i6 0), (.int .u64 n7), (.int .i64 n8)] ∧
 R (.tuple #[(.agg #[(.int .i64 n4), (.slice a5 i6 0), (.int .u64 n7), (.int .i64 n8)]), (.bool false)]) H3)
 else (
 LA en L_crossbarlaw15_finish_0 [(.pointer x0), (.int .i64 x1), undef, undef, (.pointer (some ⟨i1, 0, none⟩)), (.bool false), (.int .i64 0), (.int .i64 0), undef, undef, (.pointer x0), (.bool false), undef, undef, undef, undef, undef, undef, undef, undef, undef, undef, undef, undef, undef, undef, undef, undef, undef, undef, undef, undef] H2 [(X.exit 0, fun (y9 : Fr) (H10 : Heap) =>
 AS.asBool (y9.getD 5 undef) fun b11 =>
 stc H10 i1 0 [(.int .i64 0), (.slice none 0 0), (.int .u64 0), (.int .i64 0)] fun H12 =>
 ∃ n13, ∃ a14 i15, ∃ n16, ∃ n17, H12.cellsAt i1 0 4 = some [(.int .i64 n13), (.slice a14 i15 0), (.int .u64 n16), (.int .i64 n17)] ∧
 R (.tuple #[(.agg #[(.int .i64 n13), (.slice a14 i15 0), (.int .u64 n16), (.int .i64 n17)]), (.bool false)]) H12),
 (X.ret, fun (y18 : Fr) (H19 : Heap) =>
 AS.asBool (y18.getD 5 undef) fun b20 =>
 ∃ n21, ∃ a22 i23, ∃ n24, ∃ n25, H19.cellsAt i1 0 4 = some [(.int .i64 n21), (.slice a22 i23 0), (.int .u64 n24), (.int .i64 n25)] ∧
 R (.tuple #[(.agg #[(.int .i64 n21), (.slice a22 i23 0), (.int .u64 n24), (.int .i64 n25)]), (.bool b20)]) H19)])) →
    CA en F.crossbarlaw15_finish [(.pointer x0), (.int .i64 x1)] H R := by
  intro h
  refine wpFn_ok (Z := [[(5, (.bool false))]]) (fn := Go.Proofs.Tryz.f27) ?_ ?_ ?_
  · kernel_rfl
  · kernel_rfl
  · apply turnInto h
    kernel_rfl

theorem use_crossbarlaw15_finish_0 {t0 : Option Addr} {t1 : Int} {t4 : Nat} {t10 : Option Addr} {K0 : Fr → Heap → Prop} {K1 : Fr → Heap → Prop} {t5 : Bool} {t6 : Int} {t7 : Int} {t8 : Value} {t9 : Value} {t13 : Value} {t14 : Value} {t15 : Value} {t16 : Value} {t17 : Value} {t18 : Value} {t19 : Value} {t20 : Value} {t21 : Value} {t22 : Value} {t23 : Value} {t24 : Value} {t25 : Value} {t26 : Value} {t27 : Value} {t28 : Value} {t29 : Value} {t30 : Value} {H : Heap} (I : Nat → Bool → Int → Int → Heap → Prop) (n : Nat) (h0 : I n t5 t6 t7 H)
    (hstep : ∀ (n : Nat) (t5 : Bool) (t6 : Int) (t7 : Int) (ys : Fr) (H : Heap), I n t5 t6 t7 H →
    (
 bif (decide (t7 < t1)) then (
 CA en F.hash_Run_Step [(.pointer t0)] H fun v1 H2 =>
 ∃ b3, ∃ b4, v1 = (.tuple #[(.bool b3), (.bool b4)]) ∧
 bif b3 then (
 bif b4 then (
 CA en F.hash_Run_Result [(.pointer t0)] H2 fun v5 H6 =>
 ∃ n7, ∃ a8 i9, ∃ n10, ∃ n11, v5 = (.agg #[(.int .i64 n7), (.slice a8 i9 0), (.int .u64 n10), (.int .i64 n11)]) ∧
 stc H6 t4 0 [(.int .i64 n7), (.slice a8 i9 0), (.int .u64 n10), (.int .i64 n11)] fun H12 =>
 K1 [(.pointer t0), (.int .i64 t1), undef, undef, (.pointer (some ⟨t4, 0, none⟩)), (.bool ((IntKind.i64.wrap (t6 + 1)) == 1)), (.int .i64 (IntKind.i64.wrap (t6 + 1))), (.int .i64 t7), (.bool b3), (.bool b4), (.pointer t10), (.bool false), undef, (.int .i64 t7), (.int .i64 t1), (.bool true), (ys.getD 16 undef), (ys.getD 17 undef), (.tuple #[(.bool b3), (.bool b4)]), (.pointer t0), (.tuple #[(.bool b3), (.bool b4)]), (.bool b3), (.bool b4), (.bool true), (.int .i64 t6), (.int .i64 (IntKind.i64.wrap (t6 + 1))), (.bool true), (.pointer t0), (.agg #[(.int .i64 n7), (.slice a8 i9 0), (.int .u64 n10), (.int .i64 n11)]), (.int .i64 (IntKind.i64.wrap (t6 + 1))), (.bool ((IntKind.i64.wrap (t6 + 1)) == 1)), undef] H12)
 else (
 ∃ k13, k13 < n ∧
 I k13 t5 (IntKind.i64.wrap (t6 + 1)) (IntKind.i64.wrap (t7 + 1)) H2))
 else (
 bif b4 then (
 CA en F.hash_Run_Result [(.pointer t0)] H2 fun v14 H15 =>
 ∃ n16, ∃ a17 i18, ∃ n19, ∃ n20, v14 = (.agg #[(.int .i64 n16), (.slice a17 i18 0), (.int .u64 n19), (.int .i64 n20)]) ∧
 stc H15 t4 0 [(.int .i64 n16), (.slice a17 i18 0), (.int .u64 n19), (.int .i64 n20)] fun H21 =>
 K1 [(.pointer t0), (.int .i64 t1), undef, undef, (.pointer (some ⟨t4, 0, none⟩)), (.bool (t6 == 1)), (.int .i64 t6), (.int .i64 t7), (.bool b3), (.bool b4), (.pointer t10), (.bool false), undef, (.int .i64 t7), (.int .i64 t1), (.bool true), (ys.getD 16 undef), (ys.getD 17 undef), (.tuple #[(.bool b3), (.bool b4)]), (.pointer t0), (.tuple #[(.bool b3), (.bool b4)]), (.bool b3), (.bool b4), (.bool false), (ys.getD 24 undef), (ys.getD 25 undef), (.bool true), (.pointer t0), (.agg #[(.int .i64 n16), (.slice a17 i18 0), (.int .u64 n19), (.int .i64 n20)]), (.int .i64 t6), (.bool (t6 == 1)), undef] H21)
 else (
 ∃ k22, k22 < n ∧
 I k22 t5 t6 (IntKind.i64.wrap (t7 + 1)) H2)))
 else (
 K0 [(.pointer t0), (.int .i64 t1), undef, undef, (.pointer (some ⟨t4, 0, none⟩)), (.bool t5), (.int .i64 t6), (.int .i64 t7), (ys.getD 8 undef), (ys.getD 9 undef), (.pointer t10), (.bool false), undef, (.int .i64 t7), (.int .i64 t1), (.bool false), (ys.getD 16 undef), (ys.getD 17 undef), (ys.getD 18 undef), (ys.getD 19 undef), (ys.getD 20 undef), (ys.getD 21 undef), (ys.getD 22 undef), (ys.getD 23 undef), (ys.getD 24 undef), (ys.getD 25 undef), (ys.getD 26 undef), (ys.getD 27 undef), (ys.getD 28 undef), (ys.getD 29 undef), (ys.getD 30 undef), undef] H))) :
    LA en L_crossbarlaw15_finish_0 [(.pointer t0), (.int .i64 t1), undef, undef, (.pointer (some ⟨t4, 0, none⟩)), (.bool t5), (.int .i64 t6), (.int .i64 t7), t8, t9, (.pointer t10), (.bool false), undef, t13, t14, t15, t16, t17, t18, t19, t20, t21, t22, t23, t24, t25, t26, t27, t28, t29, t30, undef] H [(X.exit 0, K0), (X.ret, K1)] := by
  refine LA_rule (Z := []) (fun m xs H' => AS.asBool (xs.getD 5 undef) fun t5 => AS.asInt .i64 (xs.getD 6 undef) fun t6 => AS.asInt .i64 (xs.getD 7 undef) fun t7 => I m t5 t6 t7 H') ?_ n H ?_
  · intro n H
    suffices hs : ∀ s13 : Value, ∀ s14 : Value, ∀ s15 : Value, ∀ s19 : Value, ∀ s20 : Value, ∀ s18 : Value, ∀ s21 : Value, ∀ s22 : Value, ∀ s8 : Value, ∀ s9 : Value, ∀ s23 : Value, ∀ s24 : Value, ∀ s25 : Value, ∀ s6 : Value, ∀ s26 : Value, ∀ s27 : Value, ∀ s28 : Value, ∀ s29 : Value, ∀ s30 : Value, ∀ s5 : Value, ∀ s16 : Value, ∀ s17 : Value, ∀ s7 : Value, ((AS.asBool s5 fun t5 => AS.asInt .i64 s6 fun t6 => AS.asInt .i64 s7 fun t7 => I n t5 t6 t7 H) → wpCode en L_crossbarlaw15_finish_0 [] [(.pointer t0), (.int .i64 t1), undef, undef, (.pointer (some ⟨t4, 0, none⟩)), s5, s6, s7, s8, s9, (.pointer t10), (.bool false), undef, s13, s14, s15, s16, s17, s18, s19, s20, s21, s22, s23, s24, s25, s26, s27, s28, s29, s30, undef] H (loopQ (fun m xs H' => AS.asBool (xs.getD 5 undef) fun t5 => AS.asInt .i64 (xs.getD 6 undef) fun t6 => AS.asInt .i64 (xs.getD 7 undef) fun t7 => I m t5 t6 t7 H') n [(X.exit 0, K0), (X.ret, K1)])) by
      apply turnInto hs
      kernel_rfl
    intro s13 s14 s15 s19 s20 s18 s21 s22 s8 s9 s23 s24 s25 s6 s26 s27 s28 s29 s30 s5 s16 s17 s7 hP
    replace hP := asBool_elim hP
    obtain ⟨t5, rfl, hP⟩ := hP
    replace hP := asInt_elim hP
    obtain ⟨t6, rfl, hP⟩ := hP
    replace hP := asInt_elim hP
    obtain ⟨t7, rfl, hP⟩ := hP
    apply turnInto (hstep n t5 t6 t7 [(.pointer t0), (.int .i64 t1), undef, undef, (.pointer (some ⟨t4, 0, none⟩)), (.bool t5), (.int .i64 t6), (.int .i64 t7), s8, s9, (.pointer t10), (.bool false), undef, s13, s14, s15, s16, s17, s18, s19, s20, s21, s22, s23, s24, s25, s26, s27, s28, s29, s30, undef] H hP)
    kernel_rfl
  · apply turnInto h0
    kernel_rfl


/-! crossbarlaw15_gives -/

theorem vc_crossbarlaw15_gives (x0 : Option Addr) (x1_0 : Int) (x1_1 : Int) (x1_2 : Option Addr) (x1_2l : Nat) (x1_3 : Int) (x1_4 : Int) (x2 : Int) (x3 : Int) (H : Heap) (R : Value → Heap → Prop) :
    (
 nwH H (.cells true 0 [(.int .i64 x1_0), (.int .u64 x1_1), (.slice x1_2 x1_2l 0), (.int .i64 x1_3), (.int .i64 x1_4)]) fun i1 H2 =>
 ∃ n3, ∃ n4, ∃ a5 i6, ∃ n7, ∃ n8, H2.cellsAt i1 0 5 = some [(.int .i64 n3), (.int .u64 n4), (.slice a5 i6 0), (.int .i64 n7), (.int .i64 n8)] ∧
 CA en F.hash_Map_Begin [(.pointer x0), (.agg #[(.int .i64 n3), (.int .u64 n4), (.slice a5 i6 0), (.int .i64 n7), (.int .i64 n8)])] H2 fun v9 H10 =>
 ∃ a11, v9 = (.pointer a11) ∧
 CA en F.crossbarlaw15_finish [(.pointer a11), (.int .i64 1100)] H10 fun v12 H13 =>
 ∃ n14, ∃ a15 i16, ∃ n17, ∃ n18, ∃ b19, v12 = (.tuple #[(.agg #[(.int .i64 n14), (.slice a15 i16 0), (.int .u64 n17), (.int .i64 n18)]), (.bool b19)]) ∧
 nwH H13 (.cells true 0 [(.int .i64 0), (.slice none 0 0), (.int .u64 0), (.int .i64 0)]) fun i20 H21 =>
 stc H21 i20 0 [(.int .i64 n14), (.slice a15 i16 0), (.int .u64 n17), (.int .i64 n18)] fun H22 =>
 bif (!b19) then (
 R (.bool false) H22)
 else (
 ∃ n23, H22.cell i20 0 = some (.int .i64 n23) ∧
 bif (n23 != x2) then (
 R (.bool false) H22)
 else (
 bif (x2 == 0) then (
 ∃ n24, H22.cell i1 0 = some (.int .i64 n24) ∧
 bif (n24 == 1) then (
 ∃ a25 i26, H22.cell i20 1 = some (.slice a25 i26 0) ∧
 nwH H22 (.cells true 1 [(.int .u64 x3)]) fun i27 H28 =>
 CA en F.crossbarkit_SameWords [(.slice a25 i26 0), (.slice (some ⟨i27, 0, none⟩) 1 0)] H28 fun v29 H30 =>
 ∃ b31, v29 = (.bool b31) ∧
 R (.bool b31) H30)
 else (
 ∃ n32, H22.cell i1 0 = some (.int .i64 n32) ∧
 bif (n32 == 5) then (
 ∃ a33 i34, H22.cell i20 1 = some (.slice a33 i34 0) ∧
 nwH H22 (.cells true 1 [(.int .u64 x3)]) fun i35 H36 =>
 CA en F.crossbarkit_SameWords [(.slice a33 i34 0), (.slice (some ⟨i35, 0, none⟩) 1 0)] H36 fun v37 H38 =>
 ∃ b39, v37 = (.bool b39) ∧
 R (.bool b39) H38)
 else (
 ∃ a40 i41, H22.cell i20 1 = some (.slice a40 i41 0) ∧
 bif (((i41 : Nat) : Int) == 0) then (
 ∃ n42, H22.cell i20 2 = some (.int .u64 n42) ∧
 R (.bool (n42 == x3)) H22)
 else (
 R (.bool false) H22))))
 else (
 ∃ a43 i44, H22.cell i20 1 = some (.slice a43 i44 0) ∧
 bif (((i44 : Nat) : Int) == 0) then (
 ∃ n45, H22.cell i20 2 = some (.int .u64 n45) ∧
 R (.bool (n45 == x3)) H22)
 else (
 R (.bool false) H22))))) →
    CA en F.crossbarlaw15_gives [(.pointer x0), (.agg #[(.int .i64 x1_0), (.int .u64 x1_1), (.slice x1_2 x1_2l 0), (.int .i64 x1_3), (.int .i64 x1_4)]), (.int .i64 x2), (.int .u64 x3)] H R := by
  intro h
  refine wpFn_ok (Z := []) (fn := Go.Proofs.Tryz.f31) ?_ ?_ ?_
  · kernel_rfl
  · kernel_rfl
  · apply turnInto h
    kernel_rfl


/-! crossbarlaw15_update -/

theorem vc_crossbarlaw15_update (x0 : Int) (x1 : Int) (x2 : Int) (H : Heap) (R : Value → Heap → Prop) :
    (
 nwH H (.cells true 0 [(.int .i64 0), (.int .u64 0), (.slice none 0 0), (.int .i64 0), (.int .i64 0)]) fun i1 H2 =>
 nwH H2 (.cells true 1 [(.int .u64 x1)]) fun i3 H4 =>
 stc H4 i1 0 [(.int .i64 2), (.int .u64 x0), (.slice (some ⟨i3, 0, none⟩) 1 0), (.int .i64 x2), (.int .i64 0)] fun H5 =>
 ∃ n6, ∃ n7, ∃ a8 i9, ∃ n10, ∃ n11, H5.cellsAt i1 0 5 = some [(.int .i64 n6), (.int .u64 n7), (.slice a8 i9 0), (.int .i64 n10), (.int .i64 n11)] ∧
 R (.agg #[(.int .i64 n6), (.int .u64 n7), (.slice a8 i9 0), (.int .i64 n10), (.int .i64 n11)]) H5) →
    CA en F.crossbarlaw15_update [(.int .u64 x0), (.int .u64 x1), (.int .i64 x2)] H R := by
  intro h
  refine wpFn_ok (Z := []) (fn := Go.Proofs.Tryz.f29) ?_ ?_ ?_
  · kernel_rfl
  · kernel_rfl
  · apply turnInto h
    kernel_rfl


/-! crossbarlaw15_on -/

theorem vc_crossbarlaw15_on (x0 : Int) (x1 : Int) (H : Heap) (R : Value → Heap → Prop) :
    (
 nwH H (.cells true 0 [(.int .i64 0), (.int .u64 0), (.slice none 0 0), (.int .i64 0), (.int .i64 0)]) fun i1 H2 =>
 stc H2 i1 0 [(.int .i64 x0), (.int .u64 x1), (.slice none 0 0), (.int .i64 0), (.int .i64 0)] fun H3 =>
 ∃ n4, ∃ n5, ∃ a6 i7, ∃ n8, ∃ n9, H3.cellsAt i1 0 5 = some [(.int .i64 n4), (.int .u64 n5), (.slice a6 i7 0), (.int .i64 n8), (.int .i64 n9)] ∧
 R (.agg #[(.int .i64 n4), (.int .u64 n5), (.slice a6 i7 0), (.int .i64 n8), (.int .i64 n9)]) H3) →
    CA en F.crossbarlaw15_on [(.int .i64 x0), (.int .u64 x1)] H R := by
  intro h
  refine wpFn_ok (Z := []) (fn := Go.Proofs.Tryz.f32) ?_ ?_ ?_
  · kernel_rfl
  · kernel_rfl
  · apply turnInto h
    kernel_rfl

end Go.Proofs.YtjggeoghlicmdaaGreat
