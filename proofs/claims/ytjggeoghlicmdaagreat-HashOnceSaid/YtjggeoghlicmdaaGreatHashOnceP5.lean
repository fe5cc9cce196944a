/-
  hashOnce.proved: part 5 of its proof. No condition.
  Written by a program out of the texts VcLr VcHb HashM.
-/
import Derived.Test.YtjggeoghlicmdaaGreatHashOnceP4
namespace Go.Proofs.YtjggeoghlicmdaaGreat
open Go Go.AS Go.RowKit
set_option linter.unusedVariables false
set_option maxRecDepth 100000
set_option maxHeartbeats 2000000
theorem vc_slices_Clone_uint64_uint64 (x0 : Option Addr) (x0l : Nat) (H : Heap) (R : Value → Heap → Prop) :
    (
 bif x0.isNone then (
 R (.slice none 0 0) H)
 else (
 nwH H (.cells true 1 []) fun i1 H2 =>
 ∃ l3, rowOf H2 1 x0 x0l = some l3 ∧
 apd H2 8 1 (some ⟨i1, 0, none⟩) 0 x0l l3 fun a4 i5 H6 =>
 R (.slice a4 i5 0) H6)) →
    CA en F.slices_Clone_uint64_uint64 [(.slice x0 x0l 0)] H R := by
  intro h
  refine wpFn_ok (Z := []) (fn := Go.Proofs.Tryz.f76) ?_ ?_ ?_
  · kernel_rfl
  · kernel_rfl
  · apply turnInto h
    kernel_rfl
end Go.Proofs.YtjggeoghlicmdaaGreat
namespace Go.Proofs.YtjggeoghlicmdaaGreat
open Go Go.AS Go.RowKit
set_option linter.unusedVariables false
set_option maxRecDepth 100000
set_option maxHeartbeats 2000000
noncomputable def L_crossbarlaw15_made_0 : Code := loopAt Go.Proofs.Tryz.f26 0
theorem vc_crossbarlaw15_made (x0 : Int) (x1 : Int) (x2 : Int) (H : Heap) (R : Value → Heap → Prop) :
    (
 CA en F.smem_New [(.int .i64 x2)] H fun v1 H2 =>
 ∃ a3, v1 = (.pointer a3) ∧
 bif a3.isNone then (
 R (.tuple #[(.pointer none), (.pointer none), (.pointer none)]) H2)
 else (
 CA en F.grace_New [(.int .i64 10), (.pointer a3)] H2 fun v4 H5 =>
 ∃ a6, v4 = (.pointer a6) ∧
 bif a6.isNone then (
 R (.tuple #[(.pointer none), (.pointer none), (.pointer none)]) H5)
 else (
 LA en L_crossbarlaw15_made_0 [(.int .i64 x0), (.int .i64 x1), (.int .i64 x2), undef, undef, undef, (.pointer none), (.pointer none), (.pointer none), (.pointer a3), (.pointer a6), (.int .i64 0), undef, undef, (.int .i64 x2), (.pointer a3), (.pointer a3), (.bool false), (.pointer a3), (.pointer a6), (.pointer a6), (.bool false), undef, undef, undef, undef, undef, undef, undef, undef, undef, undef, undef, undef, undef, undef, undef, undef, undef, undef, undef, undef, undef, undef] H5 [(X.exit 0, fun (y7 : Fr) (H8 : Heap) =>
 asPtr (y7.getD 6 undef) fun a9 =>
 asPtr (y7.getD 7 undef) fun a10 =>
 asPtr (y7.getD 8 undef) fun a11 =>
 CA en F.hash_New [(.pointer a3), (.pointer a6), (.agg #[(.int .i64 4), (.int .i64 x0), (.int .i64 1), (.int .i64 x1), (.int .i64 0)])] H8 fun v12 H13 =>
 ∃ a14, ∃ n15, v12 = (.tuple #[(.pointer a14), (.int .i64 n15)]) ∧
 bif (n15 != 0) then (
 R (.tuple #[(.pointer none), (.pointer none), (.pointer none)]) H13)
 else (
 R (.tuple #[(.pointer a14), (.pointer a3), (.pointer a6)]) H13)),
 (X.ret, fun (y16 : Fr) (H17 : Heap) =>
 asPtr (y16.getD 6 undef) fun a18 =>
 asPtr (y16.getD 7 undef) fun a19 =>
 asPtr (y16.getD 8 undef) fun a20 =>
 R (.tuple #[(.pointer a18), (.pointer a19), (.pointer a20)]) H17)]))) →
    CA en F.crossbarlaw15_made [(.int .i64 x0), (.int .i64 x1), (.int .i64 x2)] H R := by
  intro h
  refine wpFn_ok (Z := [[(6, (.pointer none)), (7, (.pointer none)), (8, (.pointer none))]]) (fn := Go.Proofs.Tryz.f26) ?_ ?_ ?_
  · kernel_rfl
  · kernel_rfl
  · apply turnInto h
    kernel_rfl
theorem use_crossbarlaw15_made_0 {t0 : Int} {t1 : Int} {t2 : Int} {t9 : Option Addr} {t10 : Option Addr} {t14 : Int} {t15 : Option Addr} {t16 : Option Addr} {t18 : Option Addr} {t19 : Option Addr} {t20 : Option Addr} {K0 : Fr → Heap → Prop} {K1 : Fr → Heap → Prop} {t6 : Option Addr} {t7 : Option Addr} {t8 : Option Addr} {t11 : Int} {t22 : Value} {t23 : Value} {t24 : Value} {t25 : Value} {t26 : Value} {t27 : Value} {t28 : Value} {t29 : Value} {H : Heap} (I : Nat → Option Addr → Option Addr → Option Addr → Int → Heap → Prop) (n : Nat) (h0 : I n t6 t7 t8 t11 H)
    (hstep : ∀ (n : Nat) (t6 : Option Addr) (t7 : Option Addr) (t8 : Option Addr) (t11 : Int) (ys : Fr) (H : Heap), I n t6 t7 t8 t11 H →
    (
 bif (decide (t11 < 10)) then (
 CA en F.grace_Grace_Enter [(.pointer t10), (.int .i64 t11)] H fun v1 H2 =>
 ∃ b3, v1 = (.bool b3) ∧
 bif (!b3) then (
 K1 [(.int .i64 t0), (.int .i64 t1), (.int .i64 t2), undef, undef, undef, (.pointer none), (.pointer none), (.pointer none), (.pointer t9), (.pointer t10), (.int .i64 t11), undef, undef, (.int .i64 t14), (.pointer t15), (.pointer t16), (.bool false), (.pointer t18), (.pointer t19), (.pointer t20), (.bool false), (.int .i64 t11), (.bool true), (ys.getD 24 undef), (ys.getD 25 undef), (.pointer t10), (.int .i64 t11), (.bool b3), (.bool true), undef, undef, undef, undef, undef, undef, undef, undef, undef, undef, undef, undef, undef, undef] H2)
 else (
 ∃ k4, k4 < n ∧
 I k4 t6 t7 t8 (IntKind.i64.wrap (t11 + 1)) H2))
 else (
 K0 [(.int .i64 t0), (.int .i64 t1), (.int .i64 t2), undef, undef, undef, (.pointer t6), (.pointer t7), (.pointer t8), (.pointer t9), (.pointer t10), (.int .i64 t11), undef, undef, (.int .i64 t14), (.pointer t15), (.pointer t16), (.bool false), (.pointer t18), (.pointer t19), (.pointer t20), (.bool false), (.int .i64 t11), (.bool false), (ys.getD 24 undef), (ys.getD 25 undef), (ys.getD 26 undef), (ys.getD 27 undef), (ys.getD 28 undef), (ys.getD 29 undef), undef, undef, undef, undef, undef, undef, undef, undef, undef, undef, undef, undef, undef, undef] H))) :
    LA en L_crossbarlaw15_made_0 [(.int .i64 t0), (.int .i64 t1), (.int .i64 t2), undef, undef, undef, (.pointer t6), (.pointer t7), (.pointer t8), (.pointer t9), (.pointer t10), (.int .i64 t11), undef, undef, (.int .i64 t14), (.pointer t15), (.pointer t16), (.bool false), (.pointer t18), (.pointer t19), (.pointer t20), (.bool false), t22, t23, t24, t25, t26, t27, t28, t29, undef, undef, undef, undef, undef, undef, undef, undef, undef, undef, undef, undef, undef, undef] H [(X.exit 0, K0), (X.ret, K1)] := by
  refine LA_rule (Z := []) (fun m xs H' => asPtr (xs.getD 6 undef) fun t6 => asPtr (xs.getD 7 undef) fun t7 => asPtr (xs.getD 8 undef) fun t8 => AS.asInt .i64 (xs.getD 11 undef) fun t11 => I m t6 t7 t8 t11 H') ?_ n H ?_
  · intro n H
    suffices hs : ∀ s22 : Value, ∀ s23 : Value, ∀ s26 : Value, ∀ s27 : Value, ∀ s28 : Value, ∀ s29 : Value, ∀ s6 : Value, ∀ s7 : Value, ∀ s8 : Value, ∀ s24 : Value, ∀ s25 : Value, ∀ s11 : Value, ((asPtr s6 fun t6 => asPtr s7 fun t7 => asPtr s8 fun t8 => AS.asInt .i64 s11 fun t11 => I n t6 t7 t8 t11 H) → wpCode en L_crossbarlaw15_made_0 [] [(.int .i64 t0), (.int .i64 t1), (.int .i64 t2), undef, undef, undef, s6, s7, s8, (.pointer t9), (.pointer t10), s11, undef, undef, (.int .i64 t14), (.pointer t15), (.pointer t16), (.bool false), (.pointer t18), (.pointer t19), (.pointer t20), (.bool false), s22, s23, s24, s25, s26, s27, s28, s29, undef, undef, undef, undef, undef, undef, undef, undef, undef, undef, undef, undef, undef, undef] H (loopQ (fun m xs H' => asPtr (xs.getD 6 undef) fun t6 => asPtr (xs.getD 7 undef) fun t7 => asPtr (xs.getD 8 undef) fun t8 => AS.asInt .i64 (xs.getD 11 undef) fun t11 => I m t6 t7 t8 t11 H') n [(X.exit 0, K0), (X.ret, K1)])) by
      apply turnInto hs
      kernel_rfl
    intro s22 s23 s26 s27 s28 s29 s6 s7 s8 s24 s25 s11 hP
    replace hP := asPtr_elim hP
    obtain ⟨t6, rfl, hP⟩ := hP
    replace hP := asPtr_elim hP
    obtain ⟨t7, rfl, hP⟩ := hP
    replace hP := asPtr_elim hP
    obtain ⟨t8, rfl, hP⟩ := hP
    replace hP := asInt_elim hP
    obtain ⟨t11, rfl, hP⟩ := hP
    apply turnInto (hstep n t6 t7 t8 t11 [(.int .i64 t0), (.int .i64 t1), (.int .i64 t2), undef, undef, undef, (.pointer t6), (.pointer t7), (.pointer t8), (.pointer t9), (.pointer t10), (.int .i64 t11), undef, undef, (.int .i64 t14), (.pointer t15), (.pointer t16), (.bool false), (.pointer t18), (.pointer t19), (.pointer t20), (.bool false), s22, s23, s24, s25, s26, s27, s28, s29, undef, undef, undef, undef, undef, undef, undef, undef, undef, undef, undef, undef, undef, undef] H hP)
    kernel_rfl
  · apply turnInto h0
    kernel_rfl
noncomputable def L_crossbarlaw15_finish_0 : Code := loopAt Go.Proofs.Tryz.f27 0
theorem vc_crossbarlaw15_finish (x0 : Option Addr) (x1 : Int) (H : Heap) (R : Value → Heap → Prop) :
    (
 nwH H (.cells true 0 [(.int .i64 0), (.slice none 0 0), (.int .u64 0), (.int .i64 0)]) fun i1 H2 =>
 bif x0.isNone then (
 stc H2 i1 0 [(.int .i64 0), (.slice none 0 0), (.int .u64 0), (.int .i64 0)] fun H3 =>
 ∃ n4, ∃ a5 i6, ∃ n7, ∃ n8, H3.cellsAt i1 0 4 = some [(.int .i64 n4), (.slice a5 i6 0), (.int .u64 n7), (.int .i64 n8)] ∧
 R (.tuple #[(.agg #[(.int .i64 n4), (.slice a5 i6 0), (.int .u64 n7), (.int .i64 n8)]), (.bool false)]) H3)
 else (
 LA en L_crossbarlaw15_finish_0 [(.pointer x0), (.int .i64 x1), undef, undef, (.pointer (some ⟨i1, 0, none⟩)), (.bool false), (.int .i64 0), (.int .i64 0), undef, undef, (.pointer x0), (.bool false), undef, undef, undef, undef, undef, undef, undef, undef, undef, undef, undef, undef, undef, undef, undef, undef, undef, undef, undef, undef] H2 [(X.exit 0, fun (y9 : Fr) (H10 : Heap) =>
 AS.asBool (y9.getD 5 undef) fun b11 =>
 stc H10 i1 0 [(.int .i64 0), (.slice none 0 0), (.int .u64 0), (.int .i64 0)] fun H12 =>
 ∃ n13, ∃ a14 i15, ∃ n16, ∃ n17, H12.cellsAt i1 0 4 = some [(.int .i64 n13), (.slice a14 i15 0), (.int .u64 n16), (.int .i64 n17)] ∧
 R (.tuple #[(.agg #[(.int .i64 n13), (.slice a14 i15 0), (.int .u64 n16), (.int .i64 n17)]), (.bool false)]) H12),
 (X.ret, fun (y18 : Fr) (H19 : Heap) =>
 AS.asBool (y18.getD 5 undef) fun b20 =>
 ∃ n21, ∃ a22 i23, ∃ n24, ∃ n25, H19.cellsAt i1 0 4 = some [(.int .i64 n21), (.slice a22 i23 0), (.int .u64 n24), (.int .i64 n25)] ∧
 R (.tuple #[(.agg #[(.int .i64 n21), (.slice a22 i23 0), (.int .u64 n24), (.int .i64 n25)]), (.bool b20)]) H19)])) →
    CA en F.crossbarlaw15_finish [(.pointer x0), (.int .i64 x1)] H R := by
  intro h
  refine wpFn_ok (Z := [[(5, (.bool false))]]) (fn := Go.Proofs.Tryz.f27) ?_ ?_ ?_
  · kernel_rfl
  · kernel_rfl
  · apply turnInto h
    kernel_rfl
theorem use_crossbarlaw15_finish_0 {t0 : Option Addr} {t1 : Int} {t4 : Nat} {t10 : Option Addr} {K0 : Fr → Heap → Prop} {K1 : Fr → Heap → Prop} {t5 : Bool} {t6 : Int} {t7 : Int} {t8 : Value} {t9 : Value} {t13 : Value} {t14 : Value} {t15 : Value} {t16 : Value} {t17 : Value} {t18 : Value} {t19 : Value} {t20 : Value} {t21 : Value} {t22 : Value} {t23 : Value} {t24 : Value} {t25 : Value} {t26 : Value} {t27 : Value} {t28 : Value} {t29 : Value} {t30 : Value} {H : Heap} (I : Nat → Bool → Int → Int → Heap → Prop) (n : Nat) (h0 : I n t5 t6 t7 H)
    (hstep : ∀ (n : Nat) (t5 : Bool) (t6 : Int) (t7 : Int) (ys : Fr) (H : Heap), I n t5 t6 t7 H →
    (
 bif (decide (t7 < t1)) then (
 CA en F.hash_Run_Step [(.pointer t0)] H fun v1 H2 =>
 ∃ b3, ∃ b4, v1 = (.tuple #[(.bool b3), (.bool b4)]) ∧
 bif b3 then (
 bif b4 then (
 CA en F.hash_Run_Result [(.pointer t0)] H2 fun v5 H6 =>
 ∃ n7, ∃ a8 i9, ∃ n10, ∃ n11, v5 = (.agg #[(.int .i64 n7), (.slice a8 i9 0), (.int .u64 n10), (.int .i64 n11)]) ∧
 stc H6 t4 0 [(.int .i64 n7), (.slice a8 i9 0), (.int .u64 n10), (.int .i64 n11)] fun H12 =>
 K1 [(.pointer t0), (.int .i64 t1), undef, undef, (.pointer (some ⟨t4, 0, none⟩)), (.bool ((IntKind.i64.wrap (t6 + 1)) == 1)), (.int .i64 (IntKind.i64.wrap (t6 + 1))), (.int .i64 t7), (.bool b3), (.bool b4), (.pointer t10), (.bool false), undef, (.int .i64 t7), (.int .i64 t1), (.bool true), (ys.getD 16 undef), (ys.getD 17 undef), (.tuple #[(.bool b3), (.bool b4)]), (.pointer t0), (.tuple #[(.bool b3), (.bool b4)]), (.bool b3), (.bool b4), (.bool true), (.int .i64 t6), (.int .i64 (IntKind.i64.wrap (t6 + 1))), (.bool true), (.pointer t0), (.agg #[(.int .i64 n7), (.slice a8 i9 0), (.int .u64 n10), (.int .i64 n11)]), (.int .i64 (IntKind.i64.wrap (t6 + 1))), (.bool ((IntKind.i64.wrap (t6 + 1)) == 1)), undef] H12)
 else (
 ∃ k13, k13 < n ∧
 I k13 t5 (IntKind.i64.wrap (t6 + 1)) (IntKind.i64.wrap (t7 + 1)) H2))
 else (
 bif b4 then (
 CA en F.hash_Run_Result [(.pointer t0)] H2 fun v14 H15 =>
 ∃ n16, ∃ a17 i18, ∃ n19, ∃ n20, v14 = (.agg #[(.int .i64 n16), (.slice a17 i18 0), (.int .u64 n19), (.int .i64 n20)]) ∧
 stc H15 t4 0 [(.int .i64 n16), (.slice a17 i18 0), (.int .u64 n19), (.int .i64 n20)] fun H21 =>
 K1 [(.pointer t0), (.int .i64 t1), undef, undef, (.pointer (some ⟨t4, 0, none⟩)), (.bool (t6 == 1)), (.int .i64 t6), (.int .i64 t7), (.bool b3), (.bool b4), (.pointer t10), (.bool false), undef, (.int .i64 t7), (.int .i64 t1), (.bool true), (ys.getD 16 undef), (ys.getD 17 undef), (.tuple #[(.bool b3), (.bool b4)]), (.pointer t0), (.tuple #[(.bool b3), (.bool b4)]), (.bool b3), (.bool b4), (.bool false), (ys.getD 24 undef), (ys.getD 25 undef), (.bool true), (.pointer t0), (.agg #[(.int .i64 n16), (.slice a17 i18 0), (.int .u64 n19), (.int .i64 n20)]), (.int .i64 t6), (.bool (t6 == 1)), undef] H21)
 else (
 ∃ k22, k22 < n ∧
 I k22 t5 t6 (IntKind.i64.wrap (t7 + 1)) H2)))
 else (
 K0 [(.pointer t0), (.int .i64 t1), undef, undef, (.pointer (some ⟨t4, 0, none⟩)), (.bool t5), (.int .i64 t6), (.int .i64 t7), (ys.getD 8 undef), (ys.getD 9 undef), (.pointer t10), (.bool false), undef, (.int .i64 t7), (.int .i64 t1), (.bool false), (ys.getD 16 undef), (ys.getD 17 undef), (ys.getD 18 undef), (ys.getD 19 undef), (ys.getD 20 undef), (ys.getD 21 undef), (ys.getD 22 undef), (ys.getD 23 undef), (ys.getD 24 undef), (ys.getD 25 undef), (ys.getD 26 undef), (ys.getD 27 undef), (ys.getD 28 undef), (ys.getD 29 undef), (ys.getD 30 undef), undef] H))) :
    LA en L_crossbarlaw15_finish_0 [(.pointer t0), (.int .i64 t1), undef, undef, (.pointer (some ⟨t4, 0, none⟩)), (.bool t5), (.int .i64 t6), (.int .i64 t7), t8, t9, (.pointer t10), (.bool false), undef, t13, t14, t15, t16, t17, t18, t19, t20, t21, t22, t23, t24, t25, t26, t27, t28, t29, t30, undef] H [(X.exit 0, K0), (X.ret, K1)] := by
  refine LA_rule (Z := []) (fun m xs H' => AS.asBool (xs.getD 5 undef) fun t5 => AS.asInt .i64 (xs.getD 6 undef) fun t6 => AS.asInt .i64 (xs.getD 7 undef) fun t7 => I m t5 t6 t7 H') ?_ n H ?_
  · intro n H
    suffices hs : ∀ s13 : Value, ∀ s14 : Value, ∀ s15 : Value, ∀ s19 : Value, ∀ s20 : Value, ∀ s18 : Value, ∀ s21 : Value, ∀ s22 : Value, ∀ s8 : Value, ∀ s9 : Value, ∀ s23 : Value, ∀ s24 : Value, ∀ s25 : Value, ∀ s6 : Value, ∀ s26 : Value, ∀ s27 : Value, ∀ s28 : Value, ∀ s29 : Value, ∀ s30 : Value, ∀ s5 : Value, ∀ s16 : Value, ∀ s17 : Value, ∀ s7 : Value, ((AS.asBool s5 fun t5 => AS.asInt .i64 s6 fun t6 => AS.asInt .i64 s7 fun t7 => I n t5 t6 t7 H) → wpCode en L_crossbarlaw15_finish_0 [] [(.pointer t0), (.int .i64 t1), undef, undef, (.pointer (some ⟨t4, 0, none⟩)), s5, s6, s7, s8, s9, (.pointer t10), (.bool false), undef, s13, s14, s15, s16, s17, s18, s19, s20, s21, s22, s23, s24, s25, s26, s27, s28, s29, s30, undef] H (loopQ (fun m xs H' => AS.asBool (xs.getD 5 undef) fun t5 => AS.asInt .i64 (xs.getD 6 undef) fun t6 => AS.asInt .i64 (xs.getD 7 undef) fun t7 => I m t5 t6 t7 H') n [(X.exit 0, K0), (X.ret, K1)])) by
      apply turnInto hs
      kernel_rfl
    intro s13 s14 s15 s19 s20 s18 s21 s22 s8 s9 s23 s24 s25 s6 s26 s27 s28 s29 s30 s5 s16 s17 s7 hP
    replace hP := asBool_elim hP
    obtain ⟨t5, rfl, hP⟩ := hP
    replace hP := asInt_elim hP
    obtain ⟨t6, rfl, hP⟩ := hP
    replace hP := asInt_elim hP
    obtain ⟨t7, rfl, hP⟩ := hP
    apply turnInto (hstep n t5 t6 t7 [(.pointer t0), (.int .i64 t1), undef, undef, (.pointer (some ⟨t4, 0, none⟩)), (.bool t5), (.int .i64 t6), (.int .i64 t7), s8, s9, (.pointer t10), (.bool false), undef, s13, s14, s15, s16, s17, s18, s19, s20, s21, s22, s23, s24, s25, s26, s27, s28, s29, s30, undef] H hP)
    kernel_rfl
  · apply turnInto h0
    kernel_rfl
theorem vc_crossbarlaw15_gives (x0 : Option Addr) (x1_0 : Int) (x1_1 : Int) (x1_2 : Option Addr) (x1_2l : Nat) (x1_3 : Int) (x1_4 : Int) (x2 : Int) (x3 : Int) (H : Heap) (R : Value → Heap → Prop) :
    (
 nwH H (.cells true 0 [(.int .i64 x1_0), (.int .u64 x1_1), (.slice x1_2 x1_2l 0), (.int .i64 x1_3), (.int .i64 x1_4)]) fun i1 H2 =>
 ∃ n3, ∃ n4, ∃ a5 i6, ∃ n7, ∃ n8, H2.cellsAt i1 0 5 = some [(.int .i64 n3), (.int .u64 n4), (.slice a5 i6 0), (.int .i64 n7), (.int .i64 n8)] ∧
 CA en F.hash_Map_Begin [(.pointer x0), (.agg #[(.int .i64 n3), (.int .u64 n4), (.slice a5 i6 0), (.int .i64 n7), (.int .i64 n8)])] H2 fun v9 H10 =>
 ∃ a11, v9 = (.pointer a11) ∧
 CA en F.crossbarlaw15_finish [(.pointer a11), (.int .i64 1100)] H10 fun v12 H13 =>
 ∃ n14, ∃ a15 i16, ∃ n17, ∃ n18, ∃ b19, v12 = (.tuple #[(.agg #[(.int .i64 n14), (.slice a15 i16 0), (.int .u64 n17), (.int .i64 n18)]), (.bool b19)]) ∧
 nwH H13 (.cells true 0 [(.int .i64 0), (.slice none 0 0), (.int .u64 0), (.int .i64 0)]) fun i20 H21 =>
 stc H21 i20 0 [(.int .i64 n14), (.slice a15 i16 0), (.int .u64 n17), (.int .i64 n18)] fun H22 =>
 bif (!b19) then (
 R (.bool false) H22)
 else (
 ∃ n23, H22.cell i20 0 = some (.int .i64 n23) ∧
 bif (n23 != x2) then (
 R (.bool false) H22)
 else (
 bif (x2 == 0) then (
 ∃ n24, H22.cell i1 0 = some (.int .i64 n24) ∧
 bif (n24 == 1) then (
 ∃ a25 i26, H22.cell i20 1 = some (.slice a25 i26 0) ∧
 nwH H22 (.cells true 1 [(.int .u64 x3)]) fun i27 H28 =>
 CA en F.crossbarkit_SameWords [(.slice a25 i26 0), (.slice (some ⟨i27, 0, none⟩) 1 0)] H28 fun v29 H30 =>
 ∃ b31, v29 = (.bool b31) ∧
 R (.bool b31) H30)
 else (
 ∃ n32, H22.cell i1 0 = some (.int .i64 n32) ∧
 bif (n32 == 5) then (
 ∃ a33 i34, H22.cell i20 1 = some (.slice a33 i34 0) ∧
 nwH H22 (.cells true 1 [(.int .u64 x3)]) fun i35 H36 =>
 CA en F.crossbarkit_SameWords [(.slice a33 i34 0), (.slice (some ⟨i35, 0, none⟩) 1 0)] H36 fun v37 H38 =>
 ∃ b39, v37 = (.bool b39) ∧
 R (.bool b39) H38)
 else (
 ∃ a40 i41, H22.cell i20 1 = some (.slice a40 i41 0) ∧
 bif (((i41 : Nat) : Int) == 0) then (
 ∃ n42, H22.cell i20 2 = some (.int .u64 n42) ∧
 R (.bool (n42 == x3)) H22)
 else (
 R (.bool false) H22))))
 else (
 ∃ a43 i44, H22.cell i20 1 = some (.slice a43 i44 0) ∧
 bif (((i44 : Nat) : Int) == 0) then (
 ∃ n45, H22.cell i20 2 = some (.int .u64 n45) ∧
 R (.bool (n45 == x3)) H22)
 else (
 R (.bool false) H22))))) →
    CA en F.crossbarlaw15_gives [(.pointer x0), (.agg #[(.int .i64 x1_0), (.int .u64 x1_1), (.slice x1_2 x1_2l 0), (.int .i64 x1_3), (.int .i64 x1_4)]), (.int .i64 x2), (.int .u64 x3)] H R := by
  intro h
  refine wpFn_ok (Z := []) (fn := Go.Proofs.Tryz.f31) ?_ ?_ ?_
  · kernel_rfl
  · kernel_rfl
  · apply turnInto h
    kernel_rfl
theorem vc_crossbarlaw15_update (x0 : Int) (x1 : Int) (x2 : Int) (H : Heap) (R : Value → Heap → Prop) :
    (
 nwH H (.cells true 0 [(.int .i64 0), (.int .u64 0), (.slice none 0 0), (.int .i64 0), (.int .i64 0)]) fun i1 H2 =>
 nwH H2 (.cells true 1 [(.int .u64 x1)]) fun i3 H4 =>
 stc H4 i1 0 [(.int .i64 2), (.int .u64 x0), (.slice (some ⟨i3, 0, none⟩) 1 0), (.int .i64 x2), (.int .i64 0)] fun H5 =>
 ∃ n6, ∃ n7, ∃ a8 i9, ∃ n10, ∃ n11, H5.cellsAt i1 0 5 = some [(.int .i64 n6), (.int .u64 n7), (.slice a8 i9 0), (.int .i64 n10), (.int .i64 n11)] ∧
 R (.agg #[(.int .i64 n6), (.int .u64 n7), (.slice a8 i9 0), (.int .i64 n10), (.int .i64 n11)]) H5) →
    CA en F.crossbarlaw15_update [(.int .u64 x0), (.int .u64 x1), (.int .i64 x2)] H R := by
  intro h
  refine wpFn_ok (Z := []) (fn := Go.Proofs.Tryz.f29) ?_ ?_ ?_
  · kernel_rfl
  · kernel_rfl
  · apply turnInto h
    kernel_rfl
theorem vc_crossbarlaw15_on (x0 : Int) (x1 : Int) (H : Heap) (R : Value → Heap → Prop) :
    (
 nwH H (.cells true 0 [(.int .i64 0), (.int .u64 0), (.slice none 0 0), (.int .i64 0), (.int .i64 0)]) fun i1 H2 =>
 stc H2 i1 0 [(.int .i64 x0), (.int .u64 x1), (.slice none 0 0), (.int .i64 0), (.int .i64 0)] fun H3 =>
 ∃ n4, ∃ n5, ∃ a6 i7, ∃ n8, ∃ n9, H3.cellsAt i1 0 5 = some [(.int .i64 n4), (.int .u64 n5), (.slice a6 i7 0), (.int .i64 n8), (.int .i64 n9)] ∧
 R (.agg #[(.int .i64 n4), (.int .u64 n5), (.slice a6 i7 0), (.int .i64 n8), (.int .i64 n9)]) H3) →
    CA en F.crossbarlaw15_on [(.int .i64 x0), (.int .u64 x1)] H R := by
  intro h
  refine wpFn_ok (Z := []) (fn := Go.Proofs.Tryz.f32) ?_ ?_ ?_
  · kernel_rfl
  · kernel_rfl
  · apply turnInto h
    kernel_rfl
end Go.Proofs.YtjggeoghlicmdaaGreat
namespace Go.Proofs.YtjggeoghlicmdaaGreat
open Go Go.AS Go.RowKit
set_option linter.unusedVariables false
variable {H H' : Heap} {R K : Value → Heap → Prop} {L PL PL' : List Asr} {r : Nat}
abbrev Wd := BitVec 64
def ones : BitVec 64 := BitVec.allOnes 64
abbrev Gr.mem (G : Gr) (S : Sm) : Gr := { G with S := S }
def addF (w : BitVec 64) : BitVec 64 → BitVec 64 := fetchF 0 ones w
theorem addF_eq (w a : Wd) : addF w a = a + w := by
  unfold addF fetchF ones
  rw [under_all]
  show (a &&& BitVec.allOnes 64) + (w &&& BitVec.allOnes 64) = a + w
  rw [BitVec.and_allOnes, BitVec.and_allOnes]
theorem pool_ins (As : List Asr) (h : Sep H (As ++ many PL :: L)) : Sep H (many (As ++ PL) :: L) := by
  have h1 : Sep H (many PL :: (As ++ L)) := h.perm List.perm_middle
  refine Sep.many_iff.2 ((Sep.many_iff.1 h1).perm ?_)
  rw [List.append_assoc]
  exact List.perm_append_comm_assoc PL As L
theorem pld {g o z k : Nat} {w : Bool} {cs : List Value} {v : Value} (h : Sep H L) (hk : L[k]? = some (many PL)) (hm : bx g (.cells w z cs) ∈ PL) (hv : cs[o]? = some v) : H.cell g o = some v :=
  (cell_of (h.one k hk _ hm) o).trans hv
theorem plds {g o z k n : Nat} {w : Bool} {cs v : List Value} (h : Sep H L) (hk : L[k]? = some (many PL)) (hm : bx g (.cells w z cs) ∈ PL) (hv : takeAt cs o n = some v) : H.cellsAt g o n = some v := by
  have hg : H.get g = some (.cells w z cs) := h.one k hk _ hm
  unfold Heap.cellsAt; rw [hg]; exact hv
abbrev b1 (g : Nat) (v : Value) : Asr := bx g (.cells true 0 [v])
theorem sub_r {A B : List Asr} (h : ∀ x ∈ A, x ∈ B) (As : List Asr) : ∀ x ∈ A, x ∈ As ++ B := fun x hx => List.mem_append_right _ (h x hx)
theorem sub_t {A B C : List Asr} (h : ∀ x ∈ A, x ∈ B) (k : ∀ x ∈ B, x ∈ C) : ∀ x ∈ A, x ∈ C := fun x hx => k x (h x hx)
structure Gx where
  G : Gr
  b : Option Nat
  junk : List Value
  hb : b = none → G.q = []
  hj : b = none → junk = []
abbrev Gx.rest (g m : Nat) (X : Gx) : List Asr := [bx g (.cells true 0 [P m, I X.G.n, .map (some X.G.mi), .slice (addr X.b) X.G.q.length 0]), im .i64 X.G.mi (kset X.G.ins), gl 2 X.b (rows X.G.q ++ X.junk), wm X.G.q]
def grA (g m : Nat) (X : Gx) : Asr := many (mem m X.G.S :: X.rest g m)
def Gx.to (X : Gx) (S : Sm) : Gx := ⟨X.G.mem S, X.b, X.junk, X.hb, X.hj⟩
theorem gr_out {g m : Nat} {X : Gx} (h : Sep H (grA g m X :: L)) : Sep H (mem m X.G.S :: (X.rest g m ++ L)) := Sep.many_iff.1 h
theorem gr_in {g m : Nat} {X : Gx} {S : Sm} (h : Sep H (mem m S :: (X.rest g m ++ L))) : Sep H (grA g m (X.to S) :: L) := Sep.many_iff.2 h
theorem gr_isG {g m : Nat} {X : Gx} (h : Sep H (grA g m X :: L)) : IsG H g m X.G L :=
  ⟨X.b, X.junk, X.hb, X.hj, Sep.pick (gr_out h) 5 [1, 2, 3, 4, 0] (by decide)⟩
theorem isG_gr {g m : Nat} {G : Gr} (h : IsG H g m G L) : ∃ X : Gx, X.G = G ∧ Sep H (grA g m X :: L) := by
  obtain ⟨b, junk, hb, hj, hs⟩ := h.ex
  refine ⟨⟨G, b, junk, hb, hj⟩, rfl, Sep.many_iff.2 ?_⟩
  exact Sep.pick hs 5 [4, 0, 1, 2, 3] (by decide)
theorem gload_s {g m : Nat} {X : Gx} {a i : Int} (h : Sep H (grA g m X :: L))
    (hR : ∀ H', Sep H' (grA g m (X.to (X.G.S.acc a i true id).2) :: L) → R (.tuple #[W (X.G.S.acc a i true id).1.1, .bool (X.G.S.acc a i true id).1.2]) H') : CA en F.smem_Mem_Load [P m, I a, I i] H R :=
  load_s (gr_out h) fun H' h' => hR H' (gr_in h')
theorem gstore_s {g m : Nat} {X : Gx} {a i : Int} {v : BitVec 64} (h : Sep H (grA g m X :: L))
    (hR : ∀ H', Sep H' (grA g m (X.to (X.G.S.acc a i true fun _ => v).2) :: L) → R (.bool (X.G.S.acc a i true fun _ => v).1.2) H') : CA en F.smem_Mem_Store [P m, I a, I i, W v] H R :=
  store_s (gr_out h) fun H' h' => hR H' (gr_in h')
theorem gadd_s {g m : Nat} {X : Gx} {a i : Int} {v : BitVec 64} (h : Sep H (grA g m X :: L))
    (hR : ∀ H', Sep H' (grA g m (X.to (X.G.S.acc a i true (addF v)).2) :: L) → R (.tuple #[W (X.G.S.acc a i true (addF v)).1.1, .bool (X.G.S.acc a i true (addF v)).1.2]) H') : CA en F.smem_Mem_Fetch [P m, I a, I i, I 0, .int .u64 18446744073709551615, W v] H R := by
  rw [all_ones]
  exact fetch_s (gr_out h) fun H' h' => hR H' (gr_in h')
theorem gmore_s {g m : Nat} {X : Gx} {a i : Int} (h : Sep H (grA g m X :: L))
    (hR : ∀ H', Sep H' (grA g m (X.to (X.G.S.acc a i true (addF 1)).2) :: L) → R (.tuple #[W (X.G.S.acc a i true (addF 1)).1.1, .bool (X.G.S.acc a i true (addF 1)).1.2]) H') : CA en F.lock_more [P m, I a, I i] H R := by
  apply vc_lock_more
  exact gadd_s (v := 1) h fun H' h' => ⟨_, _, rfl, hR H' h'⟩
theorem gmake_s {g m : Nat} {X : Gx} {n : Int} (h : Sep H (grA g m X :: L)) (hf : X.G.S.find (wr (X.G.S.made + 1)) = none)
    (hR : ∀ H' b, Sep H' (grA g m (X.to (X.G.S.make b n).2) :: L) → R (.tuple #[I (X.G.S.make b n).1.1, I (X.G.S.make b n).1.2]) H') : CA en F.smem_Mem_Make [P m, I n] H R :=
  make_s (gr_out h) (fun _ _ _ => hf) fun H' b h' => hR H' b (gr_in h')
theorem gdefer_s {g m : Nat} {X : Gx} {a : Int} (h : Sep H (grA g m X :: L)) (hl : X.G.q.length < 10000)
    (hR : ∀ H' X' mb f n, X'.G = (X.G.defer a mb).2 → Sep H' (grA g m X' :: L) → R (.slice f n 0) H') : CA en F.grace_Grace_Defer [P g, I a] H R :=
  defer_s (gr_isG h) hl fun H' f mb _ h' => by
    obtain ⟨X', e, h2⟩ := isG_gr h'
    exact hR H' X' mb _ _ e (Sep.rm1 h2)
def RV (PL : List Asr) (ws : List (BitVec 64)) (sa : Option Addr) : Prop :=
  (ws = [] ∧ sa = none) ∨ ∃ b w, ws = [w] ∧ sa = some ⟨b, 0, none⟩ ∧ bx b (.cells true 1 [W w]) ∈ PL
theorem RV.mono (hp : ∀ A ∈ PL, A ∈ PL') {ws : List (BitVec 64)} {sa : Option Addr} (h : RV PL ws sa) : RV PL' ws sa :=
  h.imp_right fun ⟨b, w, h1, h2, h3⟩ => ⟨b, w, h1, h2, hp _ h3⟩
theorem ins2 (As : List Asr) {A : Asr} {M : List Asr} (h : Sep H (As ++ A :: many PL :: M)) : Sep H (A :: many (As ++ PL) :: M) := by
  have h1 : Sep H (As ++ many PL :: A :: M) := h.perm ((List.Perm.swap (many PL) A M).append_left As)
  exact (pool_ins As h1).swap
theorem gfetch_s {g m : Nat} {X : Gx} {a i : Int} {mask v : BitVec 64} (h : Sep H (grA g m X :: L))
    (hR : ∀ H', Sep H' (grA g m (X.to (X.G.S.acc a i true (fetchF 0 mask v)).2) :: L) → R (.tuple #[W (X.G.S.acc a i true (fetchF 0 mask v)).1.1, .bool (X.G.S.acc a i true (fetchF 0 mask v)).1.2]) H') : CA en F.smem_Mem_Fetch [P m, I a, I i, I 0, W mask, W v] H R :=
  fetch_s (gr_out h) fun H' h' => hR H' (gr_in h')
theorem gcas_s {g m : Nat} {X : Gx} {a i : Int} {mask old v : BitVec 64} (h : Sep H (grA g m X :: L))
    (hR : ∀ H', Sep H' (grA g m (X.to (X.G.S.acc a i true (casF mask old v)).2) :: L) → R (.tuple #[W (X.G.S.acc a i true (casF mask old v)).1.1, .bool (X.G.S.acc a i true (casF mask old v)).1.2]) H') : CA en F.smem_Mem_Cas [P m, I a, I i, W mask, W old, W v] H R :=
  cas_s (gr_out h) fun H' h' => hR H' (gr_in h')
theorem gfree_s {g m : Nat} {X : Gx} {a : Int} (h : Sep H (grA g m X :: L)) (hR : ∀ H', Sep H' (grA g m (X.to (X.G.S.free a).2) :: L) → R (.bool (X.G.S.free a).1) H') : CA en F.smem_Mem_Free [P m, I a] H R :=
  free_s (gr_out h) fun H' h' => hR H' (gr_in h')
abbrev Sm.fresh (S : Sm) : Prop := S.find (wr (S.made + 1)) = none
theorem acc_made (S : Sm) (a i : Int) (may : Bool) (f : BitVec 64 → BitVec 64) : (S.acc a i may f).2.made = S.made := by
  unfold Sm.acc; split
  · split <;> rfl
  · rfl
theorem acc_keys (S : Sm) (a i : Int) (may : Bool) (f : BitVec 64 → BitVec 64) : (S.acc a i may f).2.regs.map Reg.h = S.regs.map Reg.h := by
  unfold Sm.acc; split
  · split
    · show ((S.cnt.regs.map _).map Reg.h) = _
      rw [List.map_map]
      refine List.map_congr_left fun x _ => ?_
      show Reg.h (if x.h = a then _ else x) = x.h
      split <;> rfl
    · rfl
  · rfl
theorem find_none_iff {S : Sm} {k : Int} : S.find k = none ↔ k ∉ S.regs.map Reg.h := by
  unfold Sm.find
  rw [List.find?_eq_none]
  simp only [List.mem_map, not_exists, not_and, beq_iff_eq]
def Sm.V (S : Sm) (h : Int) : Option (List Wd) := (S.find h).map Reg.ws
theorem find_map_upd (S : Sm) (a : Int) (i : Nat) (w : Wd) (h : Int) : (S.upd a i w).find h = (S.find h).map fun r => if r.h = a then { r with ws := r.ws.set i w } else r := by
  unfold Sm.find Sm.upd
  simp only
  rw [List.find?_map]
  have : ((fun r : Reg => r.h == h) ∘ fun r => if r.h = a then { r with ws := r.ws.set i w } else r) = fun r => r.h == h := by
    funext r; simp only [Function.comp]; split <;> rfl
  rw [this]
theorem V_acc {S : Sm} {a : Int} {ws : List Wd} {i : Nat} (hv : S.V a = some ws) (hi : i < ws.length) (f : Wd → Wd) :
    (S.acc a i true f).1 = (ws.getD i 0, true) ∧ (∀ h, (S.acc a i true f).2.V h = if h = a then some (ws.set i (f (ws.getD i 0))) else S.V h) ∧ (S.acc a i true f).2.bads = S.bads ∧ (S.acc a i true f).2.room = S.room ∧ (S.acc a i true f).2.count = wr (S.count + 1) := by
  unfold Sm.V at hv
  cases hf : S.find a with
  | none => rw [hf] at hv; cases hv
  | some r =>
    rw [hf] at hv
    have hw : r.ws = ws := by simpa using hv
    have e : S.acc a i true f = ((ws.getD i 0, true), S.cnt.upd a i (f (ws.getD i 0))) := by
      unfold Sm.acc; rw [hf]; simp only
      rw [hw, if_pos ⟨trivial, by omega, by omega⟩]
      rfl
    rw [e]
    refine ⟨rfl, fun h => ?_, rfl, rfl, rfl⟩
    unfold Sm.V
    rw [find_map_upd]
    show Option.map Reg.ws (Option.map _ (S.find h)) = _
    by_cases eh : h = a
    · subst eh
      rw [hf, if_pos rfl]
      have hr : r.h = h := (find_mem hf).2
      simp only [Option.map_some, hr, if_true, hw]
    · rw [if_neg eh]
      cases hf2 : S.find h with
      | none => rfl
      | some r2 =>
        have hr : r2.h = h := (find_mem hf2).2
        simp only [Option.map_some, Option.some.injEq]
        rw [if_neg (by rw [hr]; exact eh)]
theorem V_mk {S : Sm} (b n : Nat) (hf : S.fresh) (h : Int) : (S.mk' b n).V h = if h = wr (S.made + 1) then some (List.replicate n 0) else S.V h := by
  unfold Sm.V Sm.find Sm.mk'
  simp only
  rw [List.find?_append]
  by_cases e : h = wr (S.made + 1)
  · subst e
    have : S.regs.find? (fun r => r.h == wr (S.made + 1)) = none := hf
    rw [this, if_pos rfl]
    simp
  · rw [if_neg e]
    have : ([⟨wr (S.made + 1), b, S.cl, List.replicate n 0⟩] : List Reg).find? (fun r => r.h == h) = none := by
      rw [List.find?_eq_none]
      intro r hr
      simp only [List.mem_singleton] at hr
      subst hr
      simp only [beq_iff_eq]
      exact fun h2 => e h2.symm
    cases hx : S.regs.find? (fun r => r.h == h) with
    | some r => rfl
    | none =>
      simp only [Option.none_or, Option.map_none]
      simp only [Option.map_eq_none_iff]
      first | exact this | (simp only [List.find?_cons, List.find?_nil]; split <;> simp_all)
theorem V_free (S : Sm) (a h : Int) : (S.free a).2.V h = if h = a then none else S.V h := by
  unfold Sm.V Sm.free Sm.find
  simp only
  rw [List.find?_filter]
  by_cases e : h = a
  · rw [if_pos e]
    have : S.regs.find? (fun r => decide ((r.h != a) = true ∧ (r.h == h) = true)) = none := by
      rw [List.find?_eq_none]
      intro r _
      subst e
      simp only [bne_iff_ne, ne_eq, beq_iff_eq, decide_eq_true_eq, not_and]
      exact fun h1 h2 => h1 h2
    rw [this]; rfl
  · rw [if_neg e]
    have : (fun r : Reg => decide ((r.h != a) = true ∧ (r.h == h) = true)) = fun r => r.h == h := by
      funext r
      rw [Bool.eq_iff_iff]
      simp only [bne_iff_ne, ne_eq, beq_iff_eq, decide_eq_true_eq]
      exact ⟨fun h1 => h1.2, fun h1 => ⟨fun h2 => e (by rw [← h1, h2]), h1⟩⟩
    rw [this]
theorem V_frees : ∀ (hs : List Int) (S : Sm) (h : Int), (frees S hs).V h = if h ∈ hs then none else S.V h
  | [], S, h => rfl
  | a :: hs, S, h => by
    show (frees (S.free a).2 hs).V h = _
    rw [V_frees hs, V_free]
    by_cases h1 : h = a
    · simp [h1]
    · simp [h1]
theorem size_V {S : Sm} {h : Int} {ws : List Wd} (hv : S.V h = some ws) : S.size h = ws.length := by
  unfold Sm.V at hv
  unfold Sm.size
  cases hf : S.find h with
  | none => rw [hf] at hv; cases hv
  | some r => rw [hf] at hv; simp only [Option.map_some, Option.some.injEq] at hv; rw [← hv]
theorem frees_keys : ∀ (hs : List Int) (S : Sm), (frees S hs).regs.map Reg.h = (S.regs.map Reg.h).filter fun h => !hs.contains h
  | [], S => (List.filter_eq_self.2 fun x _ => by simp).symm
  | a :: hs, S => by
    show (frees (S.free a).2 hs).regs.map Reg.h = _
    rw [frees_keys hs]
    have : (S.free a).2.regs.map Reg.h = (S.regs.map Reg.h).filter fun h => h != a := by
      unfold Sm.free; simp only [List.filter_map]; rfl
    rw [this, List.filter_filter]
    refine List.filter_congr fun x _ => ?_
    rw [Bool.eq_iff_iff]
    simp only [Bool.and_eq_true, Bool.not_eq_true', List.contains_eq_mem, decide_eq_false_iff_not, bne_iff_ne, ne_eq, List.mem_cons, not_or]
    exact ⟨fun h => ⟨h.2, h.1⟩, fun h => ⟨h.2, h.1⟩⟩
theorem frees_made : ∀ (hs : List Int) (S : Sm), (frees S hs).made = S.made
  | [], S => rfl
  | a :: hs, S => by show (frees (S.free a).2 hs).made = _; rw [frees_made hs]; rfl
theorem frees_bads : ∀ (hs : List Int) (S : Sm), (frees S hs).bads = S.bads
  | [], S => rfl
  | a :: hs, S => by show (frees (S.free a).2 hs).bads = _; rw [frees_bads hs]; rfl
theorem frees_room : ∀ (hs : List Int) (S : Sm), hs.Nodup → (∀ h ∈ hs, S.size h = 3) → 0 ≤ S.room → S.room + 3 * hs.length < 4611686018427387904 → (frees S hs).room = S.room + 3 * hs.length
  | [], S, _, _, _, _ => by simp [frees]
  | a :: hs, S, nd, hz, h0, h1 => by
    rw [List.nodup_cons] at nd
    have hl : ((a :: hs).length : Int) = hs.length + 1 := by simp
    rw [hl] at h1 ⊢
    have e : (S.free a).2.room = S.room + 3 := by
      show wr (S.room + S.size a) = _
      rw [hz a (by simp), wrs (by omega)]; rfl
    show (frees (S.free a).2 hs).room = _
    rw [frees_room hs (S.free a).2 nd.2 (fun h hh => ?_) (by rw [e]; omega) (by rw [e]; omega), e]
    · omega
    · have hne : h ≠ a := fun e => nd.1 (e ▸ hh)
      have := hz h (by simp [hh])
      unfold Sm.size Sm.free Sm.find at *
      simp only at *
      rw [List.find?_filter]
      have e2 : (fun r : Reg => decide ((r.h != a) = true ∧ (r.h == h) = true)) = fun r => r.h == h := by
        funext r
        rw [Bool.eq_iff_iff]
        simp only [bne_iff_ne, ne_eq, beq_iff_eq, decide_eq_true_eq]
        exact ⟨fun h1 => h1.2, fun h1 => ⟨fun h2 => hne (by rw [← h1, h2]), h1⟩⟩
      rw [e2]; exact this
theorem filter_gone {q : List Wt} (nd : (q.map Wt.h).Nodup) : ((q.map Wt.h).filter fun h => !(gone q).contains h) = (kept q).map Wt.h := by
  rw [List.filter_map]
  have : q.filter ((fun h => !(gone q).contains h) ∘ Wt.h) = kept q := by
    refine List.filter_congr fun w hw => ?_
    simp only [Function.comp]
    rw [Bool.eq_iff_iff]
    simp only [Bool.not_eq_true', List.contains_eq_mem, decide_eq_false_iff_not]
    rw [ne_iff]
    constructor
    · intro h e; exact h (gone_mem.2 ⟨w, hw, e, rfl⟩)
    · intro h e; exact gone_kept nd e (kept_mem.2 ⟨w, hw, h, rfl⟩)
  rw [this]
end Go.Proofs.YtjggeoghlicmdaaGreat
namespace Go.Proofs.YtjggeoghlicmdaaGreat
open Go Go.AS Go.RowKit
set_option linter.unusedVariables false
inductive Cb where
  | find | next (room : Int)
inductive Th where
  | op | search (k : Wd) (bh : Bool) (room : Int)
inductive Aw where
  | away | done
inductive Fb where
  | add | drop | take (a : Aw)
structure Tk where
  b : Nat
  t : Wd
  ph : Nat
  i : Int
inductive Nx where
  | none | enter (t : Tk) (k : Th) | th (k : Th) | load (k : Wd) (bh : Bool) (cb : Cb) | ask (k : Wd) (bh : Bool) (cb : Cb)
  | set | look | space | make | words (gw bw : Nat) (h : Int) (all : List Wd) (n : Nat) | change (f : Fb) | after (f : Fb) | link | drop | take
  | unl1 (a : Aw) | unl2 (v : Wd) (a : Aw) | off (a : Aw) | leave | begin | free (room : Int) | stillNo | stillKey | freeBegin | vlook
structure Lc where
  x : Nat
  m : Nat
  g : Nat
  d0 : Int
  d1 : Int
  d2 : Int
  d3 : Int
  d4 : Int
  h : Int
structure Qr where
  kd : Int
  ky : Wd
  fl : Int
  cpu : Int
  val : Wd
  no : Int
  rv : List Wd
  rk : Wd
  el : Int
  nx : Nx
  eff : Bool
  dn : Bool
  room : Int
  ah : Int
  ai : Int
  cur : Int
  made : Int
  key : Wd
  was : Wd
def lowM : Wd := 4294967295
def tick : Wd := 4294967296
def untick : Wd := ones - tick
def lk (room : Int) : Int := wr (2 + wr (3 * room))
def hd (room : Int) : Int := wr (wr (2 + wr (3 * room)) + 2)
abbrev Bs := Nat × Nat × Nat
def Qr.give (q : Qr) (no : Int) (rv : List Wd) (rk : Wd) (el : Int) : Qr := { q with no := no, rv := rv, rk := rk, el := el, eff := true }
def Qr.to (q : Qr) (n : Nx) : Qr := { q with nx := n }
def Qr.fail (q : Qr) (e : Int) : Qr := (q.give e [] 0 0).to .leave
def Qr.found (q : Qr) (there : Bool) : Qr :=
  if q.kd = 2 ∧ there ∧ q.fl = 1 then q.fail 3
  else if q.kd = 2 ∧ there then q.to .set
  else if q.kd = 2 ∧ q.fl ≠ 2 then q.to .space
  else if there = false then q.fail 2
  else if q.kd = 1 then q.to .look
  else if q.kd = 3 then q.to .drop
  else q.to .take
def Qr.cb (q : Qr) : Cb → Bool → Qr
  | .find, there => q.found (there && decide (q.key = q.ky))
  | .next room, there => if there then q.to .stillKey else q.to (.free room)
def Qr.loaded (q : Qr) (w : Wd) (k : Wd) (bh : Bool) (cb : Cb) : Qr :=
  if IntKind.i64.wrap w.toNat = 0 then ({ q with cur := IntKind.i64.wrap w.toNat }.to (.ask k bh cb)).cb cb false else { q with cur := IntKind.i64.wrap w.toNat }.to (.ask k bh cb)
def Qr.asked (q : Qr) (w : Wd) (k : Wd) (bh : Bool) (cb : Cb) : Qr :=
  if k.toNat < w.toNat ∨ (w = k ∧ bh = false) then { q with key := w }.cb cb true
  else { q with key := w, ah := q.cur, ai := 0 }.to (.load k bh cb)
def Qr.elem (c : Lc) (q : Qr) (w : Wd) : Int := if c.d0 = 10 then IntKind.i64.wrap w.toNat else q.cur
def Qr.enter (q : Qr) (room : Int) (k : Th) (b : Nat) : Qr := { q with room := room, nx := .enter ⟨b, 0, 0, lk room⟩ k }
def Qr.search (c : Lc) (q : Qr) (room : Int) (bh : Bool) (b : Nat) : Qr :=
  if c.d3 ≤ room then q.to .stillNo else q.enter room (.search (if bh then q.ky else 0) bh room) b
def Tk.step (c : Lc) (t : Tk) (S : Sm) : Bool × Tk × Sm :=
  if t.ph = 0 then (false, if (S.acc c.h t.i true (addF 1)).1.2 then { t with t := (S.acc c.h t.i true (addF 1)).1.1, ph := 1 } else t, (S.acc c.h t.i true (addF 1)).2)
  else if t.ph = 1 then
    if (S.acc c.h (wr (t.i + 1)) true id).1.2 = true ∧ (S.acc c.h (wr (t.i + 1)) true id).1.1 = t.t then (true, { t with ph := 2 }, (S.acc c.h (wr (t.i + 1)) true id).2) else (false, t, (S.acc c.h (wr (t.i + 1)) true id).2)
  else (true, t, S)
def Qr.aw (q : Qr) : Aw → Qr
  | .away => q.to .leave
  | .done => { q with dn := true }
def dropL (c : Lc) (q : Qr) (S : Sm) : Sm := (S.acc c.h (wr (lk q.room + 1)) true (addF 1)).2
def doLoad (q : Qr) (S : Sm) (k : Wd) (bh : Bool) (cb : Cb) : Qr × Sm := (q.loaded (S.acc q.ah q.ai true id).1.1 k bh cb, (S.acc q.ah q.ai true id).2)
def Th.key (q : Qr) : Th → Wd × Bool × Cb
  | .op => (q.ky, false, .find)
  | .search k bh room => (k, bh, .next room)
def doTh (c : Lc) (k : Th) (q : Qr) (S : Sm) : Qr × Sm :=
  doLoad ({ q with ah := c.h, ai := hd q.room }.to (.load (k.key q).1 (k.key q).2.1 (k.key q).2.2)) S (k.key q).1 (k.key q).2.1 (k.key q).2.2
def Qr.space (c : Lc) (q : Qr) (w : Wd) (G : Gr) : Qr × Gr :=
  if (w &&& lowM).toNat < (BitVec.ofInt 64 c.d1).toNat then ({ q with was := w &&& lowM }.to (if q.made = 0 then .make else .after .add), G)
  else if w >>> 32 = 0 then ({ q with was := w &&& lowM }.fail 4, if 0 < q.made then G.mem (G.S.free q.made).2 else G)
  else ({ q with was := w &&& lowM }, G)
def doAfter (c : Lc) (f : Fb) (q : Qr) (S : Sm) : Qr × Sm :=
  match f with
  | .add =>
    if (S.acc c.h 0 true (casF lowM q.was (q.was + 1))).1.1 &&& lowM = q.was then ((q.give 0 [] 0 0).to .link, (S.acc c.h 0 true (casF lowM q.was (q.was + 1))).2)
    else (q.to .space, (S.acc c.h 0 true (casF lowM q.was (q.was + 1))).2)
  | .drop => ((q.give 0 [] 0 0).to (.unl1 .away), (S.acc c.h 0 true (fetchF 0 lowM lowM)).2)
  | .take a => ((q.give 0 [(S.acc q.cur 2 true id).1.1] 0 0).to (.off a), (S.acc q.cur 2 true id).2)
def doChange (c : Lc) (f : Fb) (q : Qr) (S : Sm) : Qr × Sm := (q.to (.after f), (S.acc c.h 1 true (addF 1)).2)
def Qr.still (c : Lc) (q : Qr) (S : Sm) : Bool × Sm := (decide ((S.acc c.h 1 true id).1.1 = q.was), (S.acc c.h 1 true id).2)
def doNx (c : Lc) : Nx → Qr → Gr → Bs → Qr × Gr
  | .none, q, G, _ => (q, G)
  | .enter t k, q, G, _ => (q.to (if (t.step c G.S).1 then .th k else .enter (t.step c G.S).2.1 k), G.mem (t.step c G.S).2.2)
  | .th k, q, G, _ => ((doTh c k q G.S).1, G.mem (doTh c k q G.S).2)
  | .load k bh cb, q, G, _ => ((doLoad q G.S k bh cb).1, G.mem (doLoad q G.S k bh cb).2)
  | .ask k bh cb, q, G, _ => (q.asked (G.S.acc q.cur 1 true id).1.1 k bh cb, G.mem (G.S.acc q.cur 1 true id).2)
  | .set, q, G, _ => ((q.give 0 [] 0 0).to .leave, G.mem (G.S.acc q.cur 2 true fun _ => q.val).2)
  | .look, q, G, _ => ((q.give 0 [(G.S.acc q.cur 2 true id).1.1] 0 (q.elem c (G.S.acc q.cur 2 true id).1.1)).to .leave, G.mem (G.S.acc q.cur 2 true id).2)
  | .space, q, G, _ => q.space c (G.S.acc c.h 0 true id).1.1 (G.mem (G.S.acc c.h 0 true id).2)
  | .make, q, G, b => if (G.S.make b.1 3).1.2 ≠ 0 then (q.fail 5, G.mem (G.S.make b.1 3).2) else ({ q with made := (G.S.make b.1 3).1.1 }.to (.words b.2.1 b.2.2 (G.S.make b.1 3).1.1 [BitVec.ofInt 64 q.cur, q.ky, q.val] 3), G.mem (G.S.make b.1 3).2)
  | .words gw bw h all n, q, G, _ => (q.to (if n = 1 then .change .add else .words gw bw h all (n - 1)), G.mem (G.S.acc h ((n - 1 : Nat) : Int) true fun _ => all.getD (n - 1) 0).2)
  | .change f, q, G, _ => ((doChange c f q G.S).1, G.mem (doChange c f q G.S).2)
  | .after f, q, G, _ => ((doAfter c f q G.S).1, G.mem (doAfter c f q G.S).2)
  | .link, q, G, _ => (q.to .leave, G.mem (G.S.acc q.ah q.ai true fun _ => BitVec.ofInt 64 q.made).2)
  | .drop, q, G, _ => ((doChange c .drop q G.S).1, G.mem (doChange c .drop q G.S).2)
  | .take, q, G, _ => (q.to (.change (.take .away)), G.mem (G.S.acc c.h 0 true (addF tick)).2)
  | .unl1 a, q, G, _ => (q.to (.unl2 (G.S.acc q.cur 0 true id).1.1 a), G.mem (G.S.acc q.cur 0 true id).2)
  | .unl2 v a, q, G, b => (q.aw a, ((G.mem (G.S.acc q.ah q.ai true fun _ => v).2).defer q.cur b.1).2)
  | .off a, q, G, _ => (q.to (.unl1 a), G.mem (G.S.acc c.h 0 true (addF untick)).2)
  | .leave, q, G, _ => ({ q with dn := true }, G.mem (dropL c q G.S))
  | .begin, q, G, b => ({ q with was := (G.S.acc c.h 1 true id).1.1 }.search c (if q.fl = 1 then 0 else bkt q.ky c.d3) (decide (q.fl ≠ 1)) b.1, G.mem (G.S.acc c.h 1 true id).2)
  | .free room, q, G, b => (q.search c (wr (room + 1)) false b.1, G.mem (dropL c q G.S))
  | .stillNo, q, G, _ => (if (q.still c G.S).1 then { q.give 2 [] 0 0 with dn := true } else q.to .begin, G.mem (q.still c G.S).2)
  | .stillKey, q, G, _ => (if (q.still c G.S).1 then (q.give 0 [] q.key 0).to .leave else q.to .freeBegin, G.mem (q.still c G.S).2)
  | .freeBegin, q, G, _ => (q.to .begin, G.mem (dropL c q G.S))
  | .vlook, q, G, _ => ({ q.give 0 [(G.S.acc q.cur 2 true id).1.1] 0 (q.elem c (G.S.acc q.cur 2 true id).1.1) with dn := true }, G.mem (G.S.acc q.cur 2 true id).2)
def Qr.step (c : Lc) (q : Qr) (G : Gr) (b : Bs) : Qr × Gr := if q.dn then (q, G) else doNx c q.nx { q with eff := false } G b
def Qr.tells (q : Qr) (q' : Qr) : Bool × Bool := if q.dn then (false, true) else (q'.eff, q'.dn)
def Qr.zero : Qr := ⟨0, 0, 0, 0, 0, 0, [], 0, 0, .none, false, false, 0, 0, 0, 0, 0, 0, 0⟩
def Qr.new (c : Lc) (kd : Int) (ky : Wd) (fl cpu : Int) (val : Wd) (b : Nat) : Qr :=
  if kd = 4 then { Qr.zero with kd := kd, ky := ky, fl := fl, cpu := cpu, val := val, nx := .begin } else { Qr.zero with kd := kd, ky := ky, fl := fl, cpu := cpu, val := val }.enter (bkt ky c.d3) .op b
end Go.Proofs.YtjggeoghlicmdaaGreat
namespace Go.Proofs.YtjggeoghlicmdaaGreat
open Go Go.AS Go.RowKit
set_option linter.unusedVariables false
variable {H H' : Heap} {R K : Value → Heap → Prop} {L M PL PL' : List Asr} {r : Nat} {c : Lc} {ky : Wd}
inductive AwV (PL : List Asr) (r : Nat) : Aw → Value → Prop where
  | away : AwV PL r .away (.func (.func F.hash_Run_away) #[P r] #[])
def OB (PL : List Asr) (g : Nat) (ky : Wd) : Prop := ∃ kd sl fl cpu, bx g (.cells true 0 [I kd, W ky, sl, I fl, I cpu]) ∈ PL
inductive CbV (PL : List Asr) (r : Nat) (ky : Wd) : Cb → Value → Prop where
  | find {g g2 : Nat} (h : b1 g (P r) ∈ PL) (h2 : OB PL g2 ky) : CbV PL r ky .find (.func (.func F.hash_Map_Begin_1_1) #[] #[P g, P g2])
  | next {g g3 : Nat} {room : Int} (h : b1 g (P r) ∈ PL) (h3 : b1 g3 (I room) ∈ PL) : CbV PL r ky (.next room) (.func (.func F.hash_Run_search_2_1) #[] #[P g, P g3])
inductive ThV (PL : List Asr) (r : Nat) (ky : Wd) : Th → Value → Prop where
  | op {g g2 : Nat} (h : b1 g (P r) ∈ PL) (h2 : OB PL g2 ky) : ThV PL r ky .op (.func (.func F.hash_Map_Begin_1) #[] #[P g, P g2])
  | search {g g1 g2 g3 : Nat} {k : Wd} {bh : Bool} {room : Int} (h : b1 g (P r) ∈ PL) (h1 : b1 g1 (W k) ∈ PL) (h2 : b1 g2 (.bool bh) ∈ PL) (h3 : b1 g3 (I room) ∈ PL) : ThV PL r ky (.search k bh room) (.func (.func F.hash_Run_search_2) #[] #[P g, P g1, P g2, P g3])
abbrev askV (i1 i3 i5 i7 i27 : Nat) : Value := .func (.func F.hash_Run_seek_1) #[] #[P i1, P i3, P i5, P i7, P i27]
abbrev loadV' (i1 i29 i7 : Nat) : Value := .func (.func F.hash_Run_seek_2) #[] #[P i1, P i29, P i7]
structure Sk (PL : List Asr) (r : Nat) (ky k : Wd) (bh : Bool) (cb : Cb) (i1 i3 i5 i7 i27 i29 : Nat) : Prop where
  run : b1 i1 (P r) ∈ PL
  k : b1 i3 (W k) ∈ PL
  bh : b1 i5 (.bool bh) ∈ PL
  cb : ∃ v, b1 i7 v ∈ PL ∧ CbV PL r ky cb v
  ld : b1 i27 (loadV' i1 i29 i7) ∈ PL
  ak : b1 i29 (askV i1 i3 i5 i7 i27) ∈ PL
inductive FV (PL : List Asr) (r : Nat) : Fb → Value → Prop where
  | add : FV PL r .add (.func (.func F.hash_Run_add) #[P r] #[])
  | drop {g : Nat} (h : b1 g (P r) ∈ PL) : FV PL r .drop (.func (.func F.hash_Run_drop_1) #[] #[P g])
  | take {g g2 : Nat} {a : Aw} {va : Value} (h : b1 g (P r) ∈ PL) (h2 : b1 g2 va ∈ PL) (ha : AwV PL r a va) : FV PL r (.take a) (.func (.func F.hash_Run_taking_1) #[] #[P g, P g2])
abbrev bound (f r : Nat) : Value := .func (.func f) #[P r] #[]
inductive NV (PL : List Asr) (r : Nat) (ky : Wd) : Nx → Value → Prop where
  | none {v : Value} : NV PL r ky .none v
  | enter {gt g2 g : Nat} {t : Tk} {k : Th} {v : Value} (h : b1 gt (P t.b) ∈ PL) (h2 : b1 g2 v ∈ PL) (hk : ThV PL r ky k v) (h3 : b1 g (P r) ∈ PL) : NV PL r ky (.enter t k) (.func (.func F.hash_Run_enter_1) #[] #[P gt, P g2, P g])
  | th {k : Th} {v : Value} (hk : ThV PL r ky k v) : NV PL r ky (.th k) v
  | load {k : Wd} {bh : Bool} {cb : Cb} {i1 i3 i5 i7 i27 i29 : Nat} (hs : Sk PL r ky k bh cb i1 i3 i5 i7 i27 i29) : NV PL r ky (.load k bh cb) (loadV' i1 i29 i7)
  | ask {k : Wd} {bh : Bool} {cb : Cb} {i1 i3 i5 i7 i27 i29 : Nat} (hs : Sk PL r ky k bh cb i1 i3 i5 i7 i27 i29) : NV PL r ky (.ask k bh cb) (askV i1 i3 i5 i7 i27)
  | set : NV PL r ky .set (bound F.hash_Run_set r)
  | look : NV PL r ky .look (bound F.hash_Run_look r)
  | space : NV PL r ky .space (bound F.hash_Run_space r)
  | make : NV PL r ky .make (bound F.hash_Run_make r)
  | words {gw bw g gh n : Nat} {h : Int} {all : List Wd} (h1 : b1 g (P r) ∈ PL) (h2 : b1 gh (I h) ∈ PL) (hn : 1 ≤ n ∧ n ≤ all.length ∧ all.length ≤ 3) : NV PL r ky (.words gw bw h all n) (.func (.func F.hash_Run_make_1) #[] #[P gw, P g, P gh])
  | change {g g2 : Nat} {f : Fb} {v : Value} (h : b1 g (P r) ∈ PL) (h2 : b1 g2 v ∈ PL) (hf : FV PL r f v) : NV PL r ky (.change f) (.func (.func F.hash_Run_change_1) #[] #[P g, P g2])
  | after {f : Fb} {v : Value} (hf : FV PL r f v) : NV PL r ky (.after f) v
  | link {g : Nat} (h : b1 g (P r) ∈ PL) : NV PL r ky .link (.func (.func F.hash_Run_add_1) #[] #[P g])
  | drop : NV PL r ky .drop (bound F.hash_Run_drop r)
  | take : NV PL r ky .take (bound F.hash_Run_take r)
  | unl1 {g g2 : Nat} {a : Aw} {va : Value} (h : b1 g (P r) ∈ PL) (h2 : b1 g2 va ∈ PL) (ha : AwV PL r a va) : NV PL r ky (.unl1 a) (.func (.func F.hash_Run_unlink_1) #[] #[P g, P g2])
  | unl2 {g g2 g3 : Nat} {a : Aw} {va : Value} {v : Wd} (h : b1 g (P r) ∈ PL) (h3 : b1 g3 (W v) ∈ PL) (h2 : b1 g2 va ∈ PL) (ha : AwV PL r a va) : NV PL r ky (.unl2 v a) (.func (.func F.hash_Run_unlink_1_1) #[] #[P g, P g3, P g2])
  | off {g g2 : Nat} {a : Aw} {va : Value} (h : b1 g (P r) ∈ PL) (h2 : b1 g2 va ∈ PL) (ha : AwV PL r a va) : NV PL r ky (.off a) (.func (.func F.hash_Run_taking_1_1) #[] #[P g, P g2])
  | leave : NV PL r ky .leave (bound F.hash_Run_leave r)
  | begin : NV PL r ky .begin (bound F.hash_Run_begin r)
  | free {g g3 : Nat} {room : Int} (h : b1 g (P r) ∈ PL) (h3 : b1 g3 (I room) ∈ PL) : NV PL r ky (.free room) (.func (.func F.hash_Run_search_2_1_1) #[] #[P g, P g3])
  | stillNo {g : Nat} (h : b1 g (P r) ∈ PL) : NV PL r ky .stillNo (.func (.func F.hash_Run_search_1) #[] #[P g])
  | stillKey {g : Nat} (h : b1 g (P r) ∈ PL) : NV PL r ky .stillKey (.func (.func F.hash_Run_search_2_1_2) #[] #[P g])
  | freeBegin {g : Nat} (h : b1 g (P r) ∈ PL) : NV PL r ky .freeBegin (.func (.func F.hash_Run_still_1) #[] #[P g])
theorem AwV.mono {a : Aw} {v : Value} (h : AwV PL r a v) : AwV PL' r a v := by cases h; exact .away
theorem OB.mono {g : Nat} (hp : ∀ A ∈ PL, A ∈ PL') (h : OB PL g ky) : OB PL' g ky := by
  obtain ⟨a, b, d, e, h⟩ := h; exact ⟨a, b, d, e, hp _ h⟩
theorem CbV.mono (hp : ∀ A ∈ PL, A ∈ PL') {a : Cb} {v : Value} (h : CbV PL r ky a v) : CbV PL' r ky a v := by
  cases h with
  | find h h2 => exact .find (hp _ h) (h2.mono hp)
  | next h h3 => exact .next (hp _ h) (hp _ h3)
theorem ThV.mono (hp : ∀ A ∈ PL, A ∈ PL') {a : Th} {v : Value} (h : ThV PL r ky a v) : ThV PL' r ky a v := by
  cases h with
  | op h h2 => exact .op (hp _ h) (h2.mono hp)
  | search h h1 h2 h3 => exact .search (hp _ h) (hp _ h1) (hp _ h2) (hp _ h3)
theorem Sk.mono (hp : ∀ A ∈ PL, A ∈ PL') {k : Wd} {bh : Bool} {cb : Cb} {i1 i3 i5 i7 i27 i29 : Nat} (h : Sk PL r ky k bh cb i1 i3 i5 i7 i27 i29) : Sk PL' r ky k bh cb i1 i3 i5 i7 i27 i29 := by
  obtain ⟨v, h1, h2⟩ := h.cb
  exact ⟨hp _ h.run, hp _ h.k, hp _ h.bh, ⟨v, hp _ h1, h2.mono hp⟩, hp _ h.ld, hp _ h.ak⟩
theorem FV.mono (hp : ∀ A ∈ PL, A ∈ PL') {a : Fb} {v : Value} (h : FV PL r a v) : FV PL' r a v := by
  cases h with
  | add => exact .add
  | drop h => exact .drop (hp _ h)
  | take h h2 ha => exact .take (hp _ h) (hp _ h2) ha.mono
theorem NV.mono (hp : ∀ A ∈ PL, A ∈ PL') {n : Nx} {v : Value} (h : NV PL r ky n v) : NV PL' r ky n v := by
  cases h with
  | none => exact .none
  | enter h h2 hk h3 => exact .enter (hp _ h) (hp _ h2) (hk.mono hp) (hp _ h3)
  | th hk => exact .th (hk.mono hp)
  | load hs => exact .load (hs.mono hp)
  | ask hs => exact .ask (hs.mono hp)
  | set => exact .set
  | look => exact .look
  | space => exact .space
  | make => exact .make
  | words h1 h2 hn => exact .words (hp _ h1) (hp _ h2) hn
  | change h h2 hf => exact .change (hp _ h) (hp _ h2) (hf.mono hp)
  | after hf => exact .after (hf.mono hp)
  | link h => exact .link (hp _ h)
  | drop => exact .drop
  | take => exact .take
  | unl1 h h2 ha => exact .unl1 (hp _ h) (hp _ h2) ha.mono
  | unl2 h h3 h2 ha => exact .unl2 (hp _ h) (hp _ h3) (hp _ h2) ha.mono
  | off h h2 ha => exact .off (hp _ h) (hp _ h2) ha.mono
  | leave => exact .leave
  | begin => exact .begin
  | free h h3 => exact .free (hp _ h) (hp _ h3)
  | stillNo h => exact .stillNo (hp _ h)
  | stillKey h => exact .stillKey (hp _ h)
  | freeBegin h => exact .freeBegin (hp _ h)
theorem AwV.fn {k : Aw} {v : Value} (h : AwV PL r k v) : ∃ f l cs, v = .func (.func f) ⟨l⟩ ⟨cs⟩ := by cases h <;> exact ⟨_, _, _, rfl⟩
theorem CbV.fn {k : Cb} {v : Value} (h : CbV PL r ky k v) : ∃ f l cs, v = .func (.func f) ⟨l⟩ ⟨cs⟩ := by cases h <;> exact ⟨_, _, _, rfl⟩
theorem ThV.fn {k : Th} {v : Value} (h : ThV PL r ky k v) : ∃ f l cs, v = .func (.func f) ⟨l⟩ ⟨cs⟩ := by cases h <;> exact ⟨_, _, _, rfl⟩
theorem FV.fn {k : Fb} {v : Value} (h : FV PL r k v) : ∃ f l cs, v = .func (.func f) ⟨l⟩ ⟨cs⟩ := by cases h <;> exact ⟨_, _, _, rfl⟩
theorem asCells_fn {f : Nat} {fs cs : Array Value} {K : List Value → Prop} (h : K [.func (.func f) fs cs]) : AS.asCells (.func (.func f) fs cs) K := h
theorem asCells_nx {f i o : Nat} {fs cs : Array Value} {K : Heap → Prop} (h : stc H i o [.func (.func f) fs cs] K) : AS.asCells (.func (.func f) fs cs) fun vs => bif Nat.beq vs.length 1 then stc H i o vs K else False := h
abbrev rA (r : Nat) (c : Lc) (q : Qr) (sa : Option Addr) (v : Value) : Asr :=
  bx r (.cells true 0 [P c.x, I q.kd, W q.ky, .slice none 0 0, I q.fl, I q.cpu, W q.val, v, .bool q.eff, .bool q.dn, I q.no, .slice sa q.rv.length 0, W q.rk, I q.el, I q.room, I q.ah, I q.ai, I q.cur, I q.made, W q.key, W q.was])
abbrev xA (c : Lc) : Asr := bx c.x (.cells true 0 [P c.m, P c.g, I c.d0, I c.d1, I c.d2, I c.d3, I c.d4, I c.h])
def tkF (ph : Nat) : Nat := if ph = 0 then F.lock_Taker_draw else if ph = 1 then F.lock_Taker_wait else F.lock_Taker_got
abbrev tkA (c : Lc) (t : Tk) : Asr := bx t.b (.cells true 0 [P c.m, I c.h, I t.i, W t.t, .func (.func (tkF t.ph)) #[P t.b] #[]])
def tkL (c : Lc) : Nx → List Asr
  | .enter t _ => [tkA c t]
  | .words gw bw _ all n => [bx gw (.cells true 0 [.slice (some ⟨bw, 0, none⟩) n 0]), bx bw (.cells true 1 (all.map W))]
  | _ => []
structure Rk (H : Heap) (PL : List Asr) (r : Nat) (c : Lc) (q : Qr) (X : Gx) (L : List Asr) : Prop where
  ex : ∃ sa v, RV PL q.rv sa ∧ NV PL r q.ky q.nx v ∧ Sep H (rA r c q sa v :: many PL :: xA c :: grA c.g c.m X :: many (tkL c q.nx) :: L)
variable {q : Qr} {X X' : Gx}
theorem dropT {T : List Asr} {A B C D : Asr} (h : Sep H (A :: B :: C :: D :: many T :: L)) : Sep H (A :: B :: C :: D :: many [] :: L) := by
  have h1 : Sep H (many [] :: A :: B :: C :: D :: L) := Sep.many0 (Sep.rm4 h)
  exact Sep.pick h1 5 [1, 2, 3, 4, 0] (by decide)
theorem Rk.bump (h : Rk H PL r c q X L) (n : Nat) : Rk (H.bump n) PL r c q X L := by
  obtain ⟨sa, nv, hrv, hnv, hs⟩ := h.ex
  exact ⟨sa, nv, hrv, hnv, hs.bump n⟩
theorem Rk.box (h : Rk H PL r c q X L) {g : Nat} {v : Value} (hm : b1 g v ∈ PL) : H.cell g 0 = some v := by
  obtain ⟨sa, nv, hrv, hnv, hs⟩ := h.ex
  exact pld (k := 1) hs rfl hm rfl
theorem Rk.ins (As : List Asr) {sa : Option Addr} {nv : Value} (hrv : RV PL q.rv sa) (hnv : NV PL r q.ky q.nx nv) (h : Sep H (As ++ rA r c q sa nv :: many PL :: xA c :: grA c.g c.m X :: many (tkL c q.nx) :: L)) : Rk H (As ++ PL) r c q X L :=
  have hp := sub_r (A := PL) (fun _ h => h) As
  ⟨sa, nv, hrv.mono hp, hnv.mono hp, ins2 As h⟩
theorem Rk.fld (h : Rk H PL r c q X L) (j : Nat) {v : Value} (hv : ∀ sa nv, [P c.x, I q.kd, W q.ky, .slice none 0 0, I q.fl, I q.cpu, W q.val, nv, .bool q.eff, .bool q.dn, I q.no, .slice sa q.rv.length 0, W q.rk, I q.el, I q.room, I q.ah, I q.ai, I q.cur, I q.made, W q.key, W q.was][j]? = some v) : H.cell r j = some v := by
  obtain ⟨sa, nv, hrv, hnv, hs⟩ := h.ex
  exact Sep.ld0 hs (hv sa nv)
theorem Rk.xf (h : Rk H PL r c q X L) (j : Nat) {v : Value} (hv : [P c.m, P c.g, I c.d0, I c.d1, I c.d2, I c.d3, I c.d4, I c.h][j]? = some v) : H.cell c.x j = some v := by
  obtain ⟨sa, nv, hrv, hnv, hs⟩ := h.ex
  exact Sep.ld2 hs hv
theorem rnext_s {n : Nx} {f : Nat} {l cs : List Value} {K : Heap → Prop} (h : Rk H PL r c q X L) (hn : NV PL r q.ky n (.func (.func f) ⟨l⟩ ⟨cs⟩)) (ht : tkL c n = []) (hK : ∀ H', Rk H' PL r c (q.to n) X L → K H') : stc H r 7 [.func (.func f) ⟨l⟩ ⟨cs⟩] K := by
  obtain ⟨sa, nv, hrv, hnv, hs⟩ := h.ex
  refine Sep.st0 hs (Nat.le_of_ble_eq_true rfl) fun H10 h10 => hK H10 ⟨sa, _, hrv, hn, ?_⟩
  rw [show tkL c (q.to n).nx = [] from ht]
  exact dropT h10
theorem rset_s {K : Heap → Prop} {vs : List Value} {q' : Qr} {j : Nat} (h : Rk H PL r c q X L) (hj : j + vs.length ≤ 21) (e1 : q'.rv = q.rv) (e2 : q'.nx = q.nx) (e3 : q'.ky = q.ky)
    (hv : ∀ sa nv, setAt [P c.x, I q.kd, W q.ky, .slice none 0 0, I q.fl, I q.cpu, W q.val, nv, .bool q.eff, .bool q.dn, I q.no, .slice sa q.rv.length 0, W q.rk, I q.el, I q.room, I q.ah, I q.ai, I q.cur, I q.made, W q.key, W q.was] j vs =
      [P c.x, I q'.kd, W q'.ky, .slice none 0 0, I q'.fl, I q'.cpu, W q'.val, nv, .bool q'.eff, .bool q'.dn, I q'.no, .slice sa q'.rv.length 0, W q'.rk, I q'.el, I q'.room, I q'.ah, I q'.ai, I q'.cur, I q'.made, W q'.key, W q'.was]) (hK : ∀ H', Rk H' PL r c q' X L → K H') : stc H r j vs K := by
  obtain ⟨sa, nv, hrv, hnv, hs⟩ := h.ex
  refine Sep.st0 hs hj fun H10 h10 => hK H10 ⟨sa, nv, by rw [e1]; exact hrv, by rw [e2, e3]; exact hnv, ?_⟩
  have h11 : Sep H10 (bx r (.cells true 0 (setAt [P c.x, I q.kd, W q.ky, .slice none 0 0, I q.fl, I q.cpu, W q.val, nv, .bool q.eff, .bool q.dn, I q.no, .slice sa q.rv.length 0, W q.rk, I q.el, I q.room, I q.ah, I q.ai, I q.cur, I q.made, W q.key, W q.was] j vs)) :: many PL :: xA c :: grA c.g c.m X :: many (tkL c q.nx) :: L) := h10
  rw [hv sa nv] at h11
  rw [e2]; exact h11
theorem rgive_s {no el : Int} {rv : List Wd} {rk : Wd} {sa : Option Addr} (h : Rk H PL r c q X L) (hv : RV PL rv sa)
    (hR : ∀ H', Rk H' PL r c (q.give no rv rk el) X L → R undef H') : CA en F.hash_Run_give [P r, .agg #[I no, .slice sa rv.length 0, W rk, I el]] H R := by
  obtain ⟨sa', nv, hrv, hnv, hs⟩ := h.ex
  apply vc_hash_Run_give
  refine Sep.nw hs fun i1 H2 h2 => ⟨_, _, _, _, _, Sep.lds0 h2 rfl, asAddr_in (Sep.st1 h2 (Nat.le_of_ble_eq_true rfl) fun H10 h10 => asAddr_in (Sep.st1 h10 (Nat.le_of_ble_eq_true rfl) fun H13 h13 => ?_))⟩
  exact hR H13 ⟨sa, nv, hv, hnv, h13.tail⟩
theorem rend_s {no el : Int} {rv : List Wd} {rk : Wd} {sa : Option Addr} (h : Rk H PL r c q X L) (hv : RV PL rv sa)
    (hR : ∀ H', Rk H' PL r c ((q.give no rv rk el).to .leave) X L → R undef H') : CA en F.hash_Run_end [P r, .agg #[I no, .slice sa rv.length 0, W rk, I el]] H R := by
  obtain ⟨sa', nv, hrv, hnv, hs⟩ := h.ex
  apply vc_hash_Run_end
  refine Sep.nw hs fun i1 H2 h2 => ⟨_, _, _, _, _, Sep.lds0 h2 rfl, ?_⟩
  refine rgive_s ⟨sa', nv, hrv, hnv, h2.tail⟩ hv fun H9 o9 => ⟨rfl, asAddr_in (rnext_s o9 .leave rfl fun H12 o12 => hR H12 o12)⟩
theorem rfail_s {e : Int} (h : Rk H PL r c q X L)
    (hR : ∀ H', Rk H' PL r c (q.fail e) X L → R undef H') : CA en F.hash_Run_none [P r, I e] H R := by
  apply vc_hash_Run_none
  exact rend_s (rv := []) (rk := 0) (sa := none) h (.inl ⟨rfl, rfl⟩) fun H2 h2 => ⟨rfl, hR H2 h2⟩
theorem raway_s (h : Rk H PL r c q X L) (hR : ∀ H', Rk H' PL r c (q.to .leave) X L → R undef H') : CA en F.hash_Run_away [P r] H R := by
  apply vc_hash_Run_away
  exact asAddr_in (rnext_s h .leave rfl fun H12 o12 => hR H12 o12)
theorem lockAt_s {room : Int} {a : Option Addr} (hR : R (I (lk room)) H) : CA en F.hash_Map_lockAt [.pointer a, I room] H R := vc_hash_Map_lockAt _ _ _ _ hR
theorem headAt_s {room : Int} (h : Rk H PL r c q X L) (hR : ∀ H', Rk H' PL r c q X L → R (.agg #[I c.h, I (hd room)]) H') : CA en F.hash_Map_headAt [P c.x, I room] H R := by
  obtain ⟨sa, nv, hrv, hnv, hs⟩ := h.ex
  apply vc_hash_Map_headAt
  refine Sep.nw hs fun i1 H2 h2 => asAddr_in ⟨_, Sep.ld3 h2 rfl, Sep.st0 h2 (Nat.le_of_ble_eq_true rfl) fun H6 h6 => ⟨_, _, Sep.lds0 h6 rfl, ?_⟩⟩
  exact hR H6 ⟨sa, nv, hrv, hnv, h6.tail⟩
theorem rload_s {a i : Int} (h : Rk H PL r c q X L)
    (hR : ∀ H', Rk H' PL r c q (X.to (X.G.S.acc a i true id).2) L → R (.tuple #[W (X.G.S.acc a i true id).1.1, .bool (X.G.S.acc a i true id).1.2]) H') : CA en F.smem_Mem_Load [P c.m, I a, I i] H R := by
  obtain ⟨sa, nv, hrv, hnv, hs⟩ := h.ex
  exact gload_s (Sep.up3 hs) fun H' h' => hR H' ⟨sa, nv, hrv, hnv, Sep.pick h' 5 [1, 2, 3, 0, 4] (by decide)⟩
theorem rstore_s {a i : Int} {v : Wd} (h : Rk H PL r c q X L)
    (hR : ∀ H', Rk H' PL r c q (X.to (X.G.S.acc a i true fun _ => v).2) L → R (.bool (X.G.S.acc a i true fun _ => v).1.2) H') : CA en F.smem_Mem_Store [P c.m, I a, I i, W v] H R := by
  obtain ⟨sa, nv, hrv, hnv, hs⟩ := h.ex
  exact gstore_s (Sep.up3 hs) fun H' h' => hR H' ⟨sa, nv, hrv, hnv, Sep.pick h' 5 [1, 2, 3, 0, 4] (by decide)⟩
theorem rfetch_s {a i : Int} {mask v : Wd} (h : Rk H PL r c q X L)
    (hR : ∀ H', Rk H' PL r c q (X.to (X.G.S.acc a i true (fetchF 0 mask v)).2) L → R (.tuple #[W (X.G.S.acc a i true (fetchF 0 mask v)).1.1, .bool (X.G.S.acc a i true (fetchF 0 mask v)).1.2]) H') : CA en F.smem_Mem_Fetch [P c.m, I a, I i, I 0, W mask, W v] H R := by
  obtain ⟨sa, nv, hrv, hnv, hs⟩ := h.ex
  exact gfetch_s (Sep.up3 hs) fun H' h' => hR H' ⟨sa, nv, hrv, hnv, Sep.pick h' 5 [1, 2, 3, 0, 4] (by decide)⟩
theorem rcas_s {a i : Int} {mask old v : Wd} (h : Rk H PL r c q X L)
    (hR : ∀ H', Rk H' PL r c q (X.to (X.G.S.acc a i true (casF mask old v)).2) L → R (.tuple #[W (X.G.S.acc a i true (casF mask old v)).1.1, .bool (X.G.S.acc a i true (casF mask old v)).1.2]) H') : CA en F.smem_Mem_Cas [P c.m, I a, I i, W mask, W old, W v] H R := by
  obtain ⟨sa, nv, hrv, hnv, hs⟩ := h.ex
  exact gcas_s (Sep.up3 hs) fun H' h' => hR H' ⟨sa, nv, hrv, hnv, Sep.pick h' 5 [1, 2, 3, 0, 4] (by decide)⟩
theorem rfree_s {a : Int} (h : Rk H PL r c q X L) (hR : ∀ H', Rk H' PL r c q (X.to (X.G.S.free a).2) L → R (.bool (X.G.S.free a).1) H') : CA en F.smem_Mem_Free [P c.m, I a] H R := by
  obtain ⟨sa, nv, hrv, hnv, hs⟩ := h.ex
  exact gfree_s (Sep.up3 hs) fun H' h' => hR H' ⟨sa, nv, hrv, hnv, Sep.pick h' 5 [1, 2, 3, 0, 4] (by decide)⟩
theorem rmake_s {n : Int} (h : Rk H PL r c q X L) (hf : X.G.S.fresh)
    (hR : ∀ H' b, Rk H' PL r c q (X.to (X.G.S.make b n).2) L → R (.tuple #[I (X.G.S.make b n).1.1, I (X.G.S.make b n).1.2]) H') : CA en F.smem_Mem_Make [P c.m, I n] H R := by
  obtain ⟨sa, nv, hrv, hnv, hs⟩ := h.ex
  exact gmake_s (Sep.up3 hs) hf fun H' b h' => hR H' b ⟨sa, nv, hrv, hnv, Sep.pick h' 5 [1, 2, 3, 0, 4] (by decide)⟩
theorem rdefer_s {a : Int} (h : Rk H PL r c q X L) (hl : X.G.q.length < 10000)
    (hR : ∀ H' X' mb f n, X'.G = (X.G.defer a mb).2 → Rk H' PL r c q X' L → R (.slice f n 0) H') : CA en F.grace_Grace_Defer [P c.g, I a] H R := by
  obtain ⟨sa, nv, hrv, hnv, hs⟩ := h.ex
  exact gdefer_s (Sep.up3 hs) hl fun H17 X' mb f n e h17 => hR H17 X' mb f n e ⟨sa, nv, hrv, hnv, Sep.pick h17 5 [1, 2, 3, 0, 4] (by decide)⟩
theorem rdrop_s {i : Int} (h : Rk H PL r c q X L)
    (hR : ∀ H' b, Rk H' PL r c q (X.to (X.G.S.acc c.h (wr (i + 1)) true (addF 1)).2) L → R (.bool b) H') : CA en F.lock_Drop [P c.m, I c.h, I i] H R := by
  obtain ⟨sa, nv, hrv, hnv, hs⟩ := h.ex
  apply vc_lock_Drop
  exact gmore_s (Sep.up3 hs) fun H' h' => ⟨_, _, rfl, hR H' _ ⟨sa, nv, hrv, hnv, Sep.pick h' 5 [1, 2, 3, 0, 4] (by decide)⟩⟩
end Go.Proofs.YtjggeoghlicmdaaGreat
namespace Go.Proofs.YtjggeoghlicmdaaGreat
open Go Go.AS Go.RowKit
set_option linter.unusedVariables false
variable {H H' : Heap} {R K : Value → Heap → Prop} {L M PL PL' : List Asr} {r : Nat} {c : Lc} {q : Qr} {X X' : Gx}
def Go (R : Value → Heap → Prop) (PL : List Asr) (r : Nat) (c : Lc) (L : List Asr) (p : Bs → Qr × Gr) : Prop :=
  ∀ H' PL' X' b, (∀ A ∈ PL, A ∈ PL') → X'.G = (p b).2 → Rk H' PL' r c (p b).1 X' L → R undef H'
theorem tk_b {t : Tk} {S : Sm} : (t.step c S).2.1.b = t.b := by
  unfold Tk.step; split
  · simp only; split <;> rfl
  · split
    · split <;> rfl
    · rfl
theorem tk_s {t : Tk} (h : Sep H (tkA c t :: grA c.g c.m X :: M))
    (hR : ∀ H', Sep H' (tkA c (t.step c X.G.S).2.1 :: grA c.g c.m (X.to (t.step c X.G.S).2.2) :: M) → R (.bool (t.step c X.G.S).1) H') : CA en F.lock_Taker_Step [P t.b] H R := by
  obtain ⟨tb, tt, ph, ti⟩ := t
  apply vc_lock_Taker_Step
  rcases ph with _ | _ | n
  · refine asAddr_in ⟨_, Sep.ld0 h rfl, asFn_in ⟨Option.isSome_iff_exists.1 (by kernel_rfl), ?_⟩⟩
    show CA en F.lock_Taker_draw [P tb] H _
    apply vc_lock_Taker_draw
    have hB := h.bump 18
    refine asAddr_in ⟨_, Sep.ld0 hB rfl, asAddr_in ⟨_, Sep.ld0 hB rfl, asAddr_in ⟨_, Sep.ld0 hB rfl, ?_⟩⟩⟩
    refine gmore_s (Sep.up1 hB) fun H' h' => ⟨_, _, rfl, ⟨cond_of (fun e => asAddr_in (Sep.st1 h' (Nat.le_of_ble_eq_true rfl) fun H2 h2 => asAddr_in (Sep.st1 h2 (Nat.le_of_ble_eq_true rfl) fun H3 h3 => ⟨_, rfl, ?_⟩))) fun e => ⟨_, rfl, ?_⟩, trivial⟩⟩
    · have := hR H3
      unfold Tk.step at this
      rw [if_pos rfl] at this
      simp only at this
      rw [if_pos e] at this
      exact this (Sep.up1 h3)
    · have := hR H'
      unfold Tk.step at this
      rw [if_pos rfl] at this
      simp only at this
      rw [if_neg (by rw [e]; exact Bool.false_ne_true)] at this
      exact this (Sep.up1 h')
  · refine asAddr_in ⟨_, Sep.ld0 h rfl, asFn_in ⟨Option.isSome_iff_exists.1 (by kernel_rfl), ?_⟩⟩
    show CA en F.lock_Taker_wait [P tb] H _
    apply vc_lock_Taker_wait
    have hB := h.bump 19
    refine asAddr_in ⟨_, Sep.ld0 hB rfl, asAddr_in ⟨_, Sep.ld0 hB rfl, asAddr_in ⟨_, Sep.ld0 hB rfl, ?_⟩⟩⟩
    have e01 : IntKind.i64.wrap (ti + 1) = wr (ti + 1) := rfl
    rw [e01]
    have no : ∀ H', ¬ ((X.G.S.acc c.h (wr (ti + 1)) true id).1.2 = true ∧ (X.G.S.acc c.h (wr (ti + 1)) true id).1.1 = tt) → Sep H' (grA c.g c.m (X.to (X.G.S.acc c.h (wr (ti + 1)) true id).2) :: tkA c ⟨tb, tt, 1, ti⟩ :: M) → R (.bool false) H' := fun H' e h' => by
      have := hR H'
      unfold Tk.step at this
      rw [if_neg (by simp), if_pos rfl, if_neg e] at this
      exact this (Sep.up1 h')
    refine gload_s (Sep.up1 hB) fun H' h' => ⟨_, _, rfl, ⟨cond_of (fun e => ⟨_, rfl, no H' (fun h => ?_) h'⟩) fun e => asAddr_in ⟨_, Sep.ld1 h' rfl, ?_⟩, trivial⟩⟩
    · have e : (X.G.S.acc c.h (wr (ti + 1)) true id).1.2 = false := by simpa using e
      rw [e] at h; cases h.1
    · have e : (X.G.S.acc c.h (wr (ti + 1)) true id).1.2 = true := by simpa using e
      rw [bv_bne]
      refine cond_of (fun d => ⟨_, rfl, no H' (fun h => ?_) h'⟩) fun d => asAddr_in (Sep.st1 h' (Nat.le_of_ble_eq_true rfl) fun H3 h3 => ⟨_, rfl, ?_⟩)
      · rw [h.2] at d; simp at d
      · have d : (X.G.S.acc c.h (wr (ti + 1)) true id).1.1 = tt := by simpa using d
        have := hR H3
        unfold Tk.step at this
        rw [if_neg (by simp), if_pos rfl, if_pos ⟨e, d⟩] at this
        exact this (Sep.up1 h3)
  · refine asAddr_in ⟨_, Sep.ld0 h rfl, asFn_in ⟨Option.isSome_iff_exists.1 (by kernel_rfl), ?_⟩⟩
    show CA en F.lock_Taker_got [P tb] H _
    refine vc_lock_Taker_got _ _ _ ⟨_, rfl, ?_⟩
    have := hR H
    unfold Tk.step at this
    rw [if_neg (by simp), if_neg (by simp)] at this
    exact this h
theorem gtake_s {i : Int} (h : Sep H M) (hR : ∀ H' b, Sep H' (tkA c ⟨b, 0, 0, i⟩ :: M) → R (P b) H') : CA en F.lock_Take [P c.m, I c.h, I i] H R := by
  apply vc_lock_Take
  exact Sep.nw h fun b H2 h2 => Sep.st0 h2 (Nat.le_of_ble_eq_true rfl) fun H3 h3 => hR H3 b h3
theorem renter_s {room : Int} {k : Th} {v : Value} (h : Rk H PL r c q X L) (hk : ThV PL r q.ky k v)
    (hR : ∀ H' PL' b, (∀ A ∈ PL, A ∈ PL') → Rk H' PL' r c (q.enter room k b) X L → R undef H') : CA en F.hash_Run_enter [P r, I room, v] H R := by
  obtain ⟨sa, nv, hrv, hnv, hs⟩ := h.ex
  obtain ⟨f, l, cs, rfl⟩ := hk.fn
  apply vc_hash_Run_enter
  refine Sep.nw hs fun i1 H2 h2 => Sep.nw h2 fun i3 H4 h4 => ?_
  have hp := h4.fore1 (n := 23) (a := 21) (.cells true 0 [.pointer none]) (by decide)
  generalize H4.next + 21 = tb at hp ⊢
  refine ⟨_, Sep.ld2 hp rfl, asAddr_in ⟨_, Sep.ld3 hp rfl, asAddr_in ⟨_, Sep.ld5 hp rfl, _, Sep.ld2 hp rfl, asAddr_in ⟨_, Sep.ld3 hp rfl, asAddr_in ⟨_, Sep.ld5 hp rfl, _, Sep.ld2 hp rfl, asAddr_in ⟨_, Sep.ld3 hp rfl, ?_⟩⟩⟩⟩⟩⟩
  refine lockAt_s ⟨_, rfl, gtake_s hp fun H16 b h16 => ⟨_, rfl, Sep.st1 h16 (Nat.le_of_ble_eq_true rfl) fun H18 h18 => ?_⟩⟩
  -- tk tb i3 i1 rA PL xA gr T
  refine ⟨⟨_, Sep.ld3 h18 rfl, asAddr_in (Sep.st4 h18 (Nat.le_of_ble_eq_true rfl) fun H22 h22 => ⟨_, Sep.ld3 h22 rfl, asAddr_in (Sep.st4 h22 (Nat.le_of_ble_eq_true rfl) fun H23 h23 => ?_)⟩)⟩,
    ⟨⟨_, Sep.get0 hp, rfl⟩, ⟨_, Sep.get0 hp, rfl⟩, ⟨_, Sep.get1 h16, rfl⟩, trivial⟩, ⟨⟨_, Sep.ld5 hp rfl, rfl⟩, ⟨_, Sep.ld5 hp rfl, rfl⟩, trivial⟩, ⟨⟨_, Sep.ld3 hp rfl, rfl⟩, ⟨_, Sep.ld3 hp rfl, rfl⟩, trivial⟩, ⟨⟨_, Sep.ld2 hp rfl, rfl⟩, ⟨_, Sep.ld2 hp rfl, rfl⟩, trivial⟩,
    ⟨⟨_, Sep.ld5 hp rfl, rfl⟩, ⟨_, Sep.ld5 hp rfl, rfl⟩, trivial⟩, ⟨⟨_, Sep.ld3 hp rfl, rfl⟩, ⟨_, Sep.ld3 hp rfl, rfl⟩, trivial⟩, ⟨⟨_, Sep.ld2 hp rfl, rfl⟩, ⟨_, Sep.ld2 hp rfl, rfl⟩, trivial⟩, trivial⟩
  have hq := sub_r (A := PL) (fun _ h => h) [b1 tb (P b), b1 i3 (.func (.func f) ⟨l⟩ ⟨cs⟩), b1 i1 (P r)]
  refine hR H23 ([b1 tb (P b), b1 i3 (.func (.func f) ⟨l⟩ ⟨cs⟩), b1 i1 (P r)] ++ PL) b hq ⟨sa, _, hrv.mono hq, .enter (gt := tb) (g2 := i3) (g := i1) (.head _) (.tail _ (.head _)) (hk.mono hq) (.tail _ (.tail _ (.head _))), ?_⟩
  have h24 := pool_ins [_, _, _] (Sep.pick h23 9 [1, 2, 3, 5, 4, 6, 7, 0] (by decide))
  have h25 : Sep H23 (tkA c ⟨b, 0, 0, lk room⟩ :: many _ :: _ :: _ :: _ :: L) := Sep.pick h24 5 [4, 0, 1, 2, 3] (by decide)
  have h26 := (Sep.many_iff (L := [tkA c ⟨b, 0, 0, lk room⟩])).2 h25
  exact Sep.pick h26 5 [2, 1, 3, 4, 0] (by decide)
theorem seek_s {k : Wd} {bh : Bool} {cb : Cb} {v : Value} (h : Rk H PL r c q X L) (hk : CbV PL r q.ky cb v)
    (hR : ∀ H' PL', (∀ A ∈ PL, A ∈ PL') → Rk H' PL' r c ({ q with ah := c.h, ai := hd q.room }.to (.load k bh cb)) X L → R undef H') : CA en F.hash_Run_seek [P r, W k, .bool bh, v] H R := by
  obtain ⟨sa, nv, hrv, hnv, hs⟩ := h.ex
  obtain ⟨f, l, cs, rfl⟩ := hk.fn
  apply vc_hash_Run_seek
  refine Sep.nw hs fun i1 H2 h2 => Sep.nw h2 fun i3 H4 h4 => Sep.nw h4 fun i5 H6 h6 => Sep.nw h6 fun i7 H8 h8 => ?_
  have hp := sub_r (A := PL) (fun _ h => h) [b1 i7 (.func (.func f) ⟨l⟩ ⟨cs⟩), b1 i5 (.bool bh), b1 i3 (W k), b1 i1 (P r)]
  have o8 := (Rk.ins [_, _, _, _] hrv hnv h8).bump 13
  have m1 : b1 i1 (P r) ∈ [b1 i7 (.func (.func f) ⟨l⟩ ⟨cs⟩), b1 i5 (.bool bh), b1 i3 (W k), b1 i1 (P r)] ++ PL := by simp
  refine ⟨_, o8.box m1, _, o8.box m1, asAddr_in ⟨_, o8.fld 0 (fun _ _ => rfl), _, o8.box m1, asAddr_in ⟨_, o8.fld 14 (fun _ _ => rfl), ?_⟩⟩⟩
  refine headAt_s o8 fun H19 o19 => ⟨_, _, rfl, asAddr_in (rset_s (q' := { q with ah := c.h, ai := hd q.room }) o19 (Nat.le_of_ble_eq_true rfl) rfl rfl rfl (fun _ _ => rfl) fun H24 o24 => ⟨?_, ⟨⟨_, o8.box m1, rfl⟩, ⟨_, o19.box m1, rfl⟩, trivial⟩, trivial⟩)⟩
  obtain ⟨sa', nv', hrv', hnv', hs'⟩ := o24.ex
  refine Sep.nw hs' fun i27 H28 h28 => Sep.nw h28 fun i29 H30 h30 => Sep.st0 h30 (Nat.le_of_ble_eq_true rfl) fun H31 h31 => Sep.st1 h31 (Nat.le_of_ble_eq_true rfl) fun H32 h32 => ?_
  have o32 := Rk.ins (q := { q with ah := c.h, ai := hd q.room }) [b1 i29 (askV i1 i3 i5 i7 i27), b1 i27 (loadV' i1 i29 i7)] hrv' hnv' h32
  have hq := sub_r (A := [b1 i7 (.func (.func f) ⟨l⟩ ⟨cs⟩), b1 i5 (.bool bh), b1 i3 (W k), b1 i1 (P r)] ++ PL) (fun _ h => h) [b1 i29 (askV i1 i3 i5 i7 i27), b1 i27 (loadV' i1 i29 i7)]
  have hsk : Sk ([b1 i29 (askV i1 i3 i5 i7 i27), b1 i27 (loadV' i1 i29 i7)] ++ ([b1 i7 (.func (.func f) ⟨l⟩ ⟨cs⟩), b1 i5 (.bool bh), b1 i3 (W k), b1 i1 (P r)] ++ PL)) r q.ky k bh cb i1 i3 i5 i7 i27 i29 :=
    ⟨by simp, by simp, by simp, ⟨_, by simp, hk.mono (sub_t hp hq)⟩, by simp, by simp⟩
  refine ⟨_, o32.box (hq _ m1), _, o32.box hsk.ld, asAddr_in (asCells_fn (rnext_s o32 (.load hsk) rfl fun H37 o37 => ?_))⟩
  exact hR H37 _ (sub_t hp hq) o37
theorem found_s {there : Bool} (h : Rk H PL r c q X L) (hR : ∀ H', Rk H' PL r c (q.found there) X L → R undef H') : CA en F.hash_Run_found [P r, .bool there] H R := by
  have k3 : q.kd = 2 → there = true → q.fl = 1 → CA en F.hash_Run_none [P r, I 3] H fun v7 H8 => v7 = undef ∧ R undef H8 := fun e1 e2 e3 => rfail_s h fun H' o => ⟨rfl, hR H' (by unfold Qr.found; rw [if_pos ⟨e1, e2, e3⟩]; exact o)⟩
  have kset : q.kd = 2 → there = true → q.fl ≠ 1 → stc H r (0 + 7) [.func (.func F.hash_Run_set) #[P r] #[]] fun H' => R undef H' := fun e1 e2 e3 => rnext_s h .set rfl fun H' o => hR H' (by unfold Qr.found; rw [if_neg (fun h => e3 h.2.2), if_pos ⟨e1, e2⟩]; exact o)
  have kspace : q.kd = 2 → there = false → q.fl ≠ 2 → stc H r (0 + 7) [.func (.func F.hash_Run_space) #[P r] #[]] fun H' => R undef H' := fun e1 e2 e3 => rnext_s h .space rfl fun H' o => hR H' (by unfold Qr.found; rw [if_neg (fun h => by rw [e2] at h; cases h.2.1), if_neg (fun h => by rw [e2] at h; cases h.2), if_pos ⟨e1, e3⟩]; exact o)
  have k2 : there = false → (q.kd = 2 → q.fl = 2) → CA en F.hash_Run_none [P r, I 2] H fun v7 H8 => v7 = undef ∧ R undef H8 := fun e1 e2 => rfail_s h fun H' o => ⟨rfl, hR H' (by unfold Qr.found; rw [if_neg (fun h => by rw [e1] at h; cases h.2.1), if_neg (fun h => by rw [e1] at h; cases h.2), if_neg (fun h => h.2 (e2 h.1)), if_pos e1]; exact o)⟩
  have klook : there = true → q.kd = 1 → stc H r (0 + 7) [.func (.func F.hash_Run_look) #[P r] #[]] fun H' => R undef H' := fun e1 e2 => rnext_s h .look rfl fun H' o => hR H' (by
    unfold Qr.found; rw [if_neg (fun h => by rw [e2] at h; exact absurd h.1 (by decide)), if_neg (fun h => by rw [e2] at h; exact absurd h.1 (by decide)), if_neg (fun h => by rw [e2] at h; exact absurd h.1 (by decide)), if_neg (by rw [e1]; decide), if_pos e2]; exact o)
  have kdrop : there = true → q.kd = 3 → stc H r (0 + 7) [.func (.func F.hash_Run_drop) #[P r] #[]] fun H' => R undef H' := fun e1 e2 => rnext_s h .drop rfl fun H' o => hR H' (by
    unfold Qr.found; rw [if_neg (fun h => by rw [e2] at h; exact absurd h.1 (by decide)), if_neg (fun h => by rw [e2] at h; exact absurd h.1 (by decide)), if_neg (fun h => by rw [e2] at h; exact absurd h.1 (by decide)), if_neg (by rw [e1]; decide), if_neg (by rw [e2]; decide), if_pos e2]; exact o)
  have ktake : there = true → q.kd ≠ 1 → q.kd ≠ 2 → q.kd ≠ 3 → stc H r (0 + 7) [.func (.func F.hash_Run_take) #[P r] #[]] fun H' => R undef H' := fun e1 e2 e3 e4 => rnext_s h .take rfl fun H' o => hR H' (by
    unfold Qr.found; rw [if_neg (fun h => e3 h.1), if_neg (fun h => e3 h.1), if_neg (fun h => e3 h.1), if_neg (by rw [e1]; decide), if_neg e2, if_neg e4]; exact o)
  have lk : H.cell r (0 + 1) = some (I q.kd) := h.fld 1 (fun _ _ => rfl)
  have lf : H.cell r (0 + 1 + 3) = some (I q.fl) := h.fld 4 (fun _ _ => rfl)
  clear h hR
  have t2 : ∀ b : Bool, (q.kd == 2) = b → (b = true ↔ q.kd = 2) := fun b e => by rw [← e]; simp
  apply vc_hash_Run_found
  refine asAddr_in ⟨_, lk, ?_⟩
  cases there with
  | true =>
    refine cond_of (fun e => ?_) fun e => ?_
    · have e : q.kd = 2 := by simpa using e
      refine cond_yes rfl (asAddr_in ⟨_, lf, cond_of (fun e2 => k3 e rfl (by simpa using e2)) fun e2 => asAddr_in ⟨_, lk, cond_yes (by simpa using e) (cond_yes rfl (asAddr_in (kset e rfl (by simpa using e2))))⟩⟩)
    · have e : q.kd ≠ 2 := by simpa using e
      refine asAddr_in ⟨_, lk, cond_no (by simpa using e) (asAddr_in ⟨_, lk, cond_no (by simpa using e) (cond_no rfl (asAddr_in ⟨_, lk, cond_of (fun e1 => asAddr_in (klook rfl (by simpa using e1))) fun e1 => asAddr_in ⟨_, lk, cond_of (fun e3 => asAddr_in (kdrop rfl (by simpa using e3))) fun e3 => asAddr_in (ktake rfl (by simpa using e1) e (by simpa using e3))⟩⟩))⟩)⟩
  | false =>
    refine cond_of (fun e => ?_) fun e => ?_
    · have e : q.kd = 2 := by simpa using e
      refine cond_no rfl (asAddr_in ⟨_, lk, cond_yes (by simpa using e) (cond_no rfl (asAddr_in ⟨_, lk, cond_yes (by simpa using e) (asAddr_in ⟨_, lf, cond_of (fun e2 => asAddr_in (kspace e rfl (by simpa using e2))) fun e2 => cond_yes rfl (k2 rfl fun _ => by simpa using e2)⟩)⟩))⟩)
    · have e : q.kd ≠ 2 := by simpa using e
      refine asAddr_in ⟨_, lk, cond_no (by simpa using e) (asAddr_in ⟨_, lk, cond_no (by simpa using e) (cond_yes rfl (k2 rfl fun h => (e h).elim))⟩)⟩
theorem cb_s {cb : Cb} {v : Value} {there : Bool} (hc : CbV PL r q.ky cb v) (h : Rk H PL r c q X L)
    (hR : ∀ H', Rk H' PL r c (q.cb cb there) X L → K undef H') :
    AS.asFn v fun f l cs => (∃ fn, en.fn f = some fn) ∧ CA en f (l ++ [.bool there] ++ cs) H K := by
  cases hc with
  | find hg h2 =>
    refine asFn_in ⟨Option.isSome_iff_exists.1 (by kernel_rfl), ?_⟩
    show CA en F.hash_Map_Begin_1_1 [.bool there, _, _] H K
    apply vc_hash_Map_Begin_1_1
    have hb := h.bump 12
    refine asAddr_in ⟨_, hb.box hg, ?_⟩
    cases there with
    | true =>
      obtain ⟨kd, sl, fl, cpu, h2⟩ := h2
      obtain ⟨sa, nv, hrv, hnv, hs⟩ := hb.ex
      refine cond_yes rfl (asAddr_in ⟨_, hb.box hg, asAddr_in ⟨_, hb.fld 19 (fun _ _ => rfl), asAddr_in ⟨_, pld (k := 1) hs rfl h2 rfl, ?_⟩⟩⟩)
      rw [bv_beq]
      refine found_s hb fun H' o => ⟨rfl, ⟨hR H' ?_, trivial⟩⟩
      have e : (true && decide (q.key = q.ky)) = (q.key == q.ky) := by simp [Bool.beq_eq_decide_eq]
      show Rk H' PL r c (q.found (true && decide (q.key = q.ky))) X L
      rw [e]; exact o
    | false => exact cond_no rfl (found_s hb fun H' o => ⟨rfl, ⟨hR H' o, trivial⟩⟩)
  | next hg h3 =>
    refine asFn_in ⟨Option.isSome_iff_exists.1 (by kernel_rfl), ?_⟩
    show CA en F.hash_Run_search_2_1 [.bool there, _, _] H K
    apply vc_hash_Run_search_2_1
    cases there with
    | true => exact cond_no rfl (asAddr_in ⟨_, h.box hg, asAddr_in (rnext_s h (.stillKey hg) rfl fun H' o => hR H' o)⟩)
    | false => exact cond_yes rfl (asAddr_in ⟨_, h.box hg, asAddr_in (rnext_s h (.free hg h3) rfl fun H' o => hR H' o)⟩)
end Go.Proofs.YtjggeoghlicmdaaGreat
namespace Go.Proofs.YtjggeoghlicmdaaGreat
open Go Go.AS Go.RowKit
set_option linter.unusedVariables false
variable {H H' : Heap} {R K : Value → Heap → Prop} {L M PL PL' : List Asr} {r : Nat} {c : Lc} {q : Qr} {X X' : Gx}
theorem n_load {k : Wd} {bh : Bool} {cb : Cb} {i1 i3 i5 i7 i27 i29 : Nat} (hk : Sk PL r q.ky k bh cb i1 i3 i5 i7 i27 i29) (h : Rk H PL r c q X L) (hR : Go R PL r c L fun b => doNx c (.load k bh cb) q X.G b) :
    CA en F.hash_Run_seek_2 [P i1, P i29, P i7] H R := by
  apply vc_hash_Run_seek_2
  have hb := h.bump 23
  refine asAddr_in ⟨_, hb.box hk.run, asAddr_in ⟨_, hb.fld 0 (fun _ _ => rfl), asAddr_in ⟨_, hb.xf 0 rfl, asAddr_in ⟨_, hb.box hk.run, asAddr_in ⟨_, hb.fld 15 (fun _ _ => rfl), asAddr_in ⟨_, hb.box hk.run, asAddr_in ⟨_, hb.fld 16 (fun _ _ => rfl), ?_⟩⟩⟩⟩⟩⟩⟩
  refine rload_s hb fun H23 o23 => ⟨_, _, rfl, ⟨asAddr_in ⟨_, o23.box hk.run, ?_⟩, trivial⟩⟩
  have hR := fun H' o => hR H' PL (X.to (X.G.S.acc q.ah q.ai true id).2) (0, 0, 0) (fun _ h => h) rfl o
  generalize hw : (X.G.S.acc q.ah q.ai true id).1.1 = w at hR o23
  refine asAddr_in (rset_s (q' := { q with cur := IntKind.i64.wrap w.toNat }) o23 (Nat.le_of_ble_eq_true rfl) rfl rfl rfl (fun _ _ => rfl) fun H31 o31 => asAddr_in ⟨_, o31.box hk.run, asAddr_in ⟨_, o31.box hk.ak, asAddr_in (asCells_nx (rnext_s o31 (.ask hk) rfl fun H40 o40 => ?_))⟩⟩)
  refine asAddr_in ⟨_, o40.box hk.run, asAddr_in ⟨_, o40.fld 17 (fun _ _ => rfl), ?_⟩⟩
  have hR : ∀ H', Rk H' PL r c (q.loaded w k bh cb) (X.to (X.G.S.acc q.ah q.ai true id).2) L → R undef H' := fun H' o => hR H' (by
    show Rk H' PL r c (q.loaded (X.G.S.acc q.ah q.ai true id).1.1 k bh cb) _ L
    rw [hw]; exact o)
  unfold Qr.loaded at hR
  refine cond_of (fun e => ?_) fun e => ?_
  · have e : IntKind.i64.wrap w.toNat = 0 := by
      have e : (IntKind.i64.wrap w.toNat == 0) = true := e
      simpa using e
    rw [if_pos e] at hR
    obtain ⟨v, h1, h2⟩ := hk.cb
    exact asAddr_in ⟨_, o40.box h1, cb_s (q := { q with cur := IntKind.i64.wrap w.toNat }.to (.ask k bh cb)) (there := false) h2 o40 fun H' o => ⟨rfl, hR H' o⟩⟩
  · have e : ¬ IntKind.i64.wrap w.toNat = 0 := by
      have e : (IntKind.i64.wrap w.toNat == 0) = false := e
      simpa using e
    rw [if_neg e] at hR
    exact hR H40 o40
theorem n_ask {k : Wd} {bh : Bool} {cb : Cb} {i1 i3 i5 i7 i27 i29 : Nat} (hk : Sk PL r q.ky k bh cb i1 i3 i5 i7 i27 i29) (h : Rk H PL r c q X L) (hR : Go R PL r c L fun b => doNx c (.ask k bh cb) q X.G b) :
    CA en F.hash_Run_seek_1 [P i1, P i3, P i5, P i7, P i27] H R := by
  apply vc_hash_Run_seek_1
  have hb := h.bump 19
  refine asAddr_in ⟨_, hb.box hk.run, asAddr_in ⟨_, hb.box hk.run, asAddr_in ⟨_, hb.fld 0 (fun _ _ => rfl), asAddr_in ⟨_, hb.xf 0 rfl, asAddr_in ⟨_, hb.box hk.run, asAddr_in ⟨_, hb.fld 17 (fun _ _ => rfl), ?_⟩⟩⟩⟩⟩⟩
  refine rload_s hb fun H20 o20 => ⟨_, _, rfl, ?_⟩
  have hR := fun H' o => hR H' PL (X.to (X.G.S.acc q.cur 1 true id).2) (0, 0, 0) (fun _ h => h) rfl o
  generalize hw : (X.G.S.acc q.cur 1 true id).1.1 = w at hR o20
  refine asAddr_in (rset_s (q' := { q with key := w }) o20 (Nat.le_of_ble_eq_true rfl) rfl rfl rfl (fun _ _ => rfl) fun H25 o25 => ⟨?_, ⟨asAddr_in ⟨_, hb.box hk.run, rfl⟩, asAddr_in ⟨_, o20.box hk.run, rfl⟩, trivial⟩, trivial⟩)
  have oB := o25.bump 18
  obtain ⟨v, h1, h2⟩ := hk.cb
  have hR : ∀ H', Rk H' PL r c (q.asked w k bh cb) (X.to (X.G.S.acc q.cur 1 true id).2) L → R undef H' := fun H' o => hR H' (by
    show Rk H' PL r c (q.asked (X.G.S.acc q.cur 1 true id).1.1 k bh cb) _ L
    rw [hw]; exact o)
  unfold Qr.asked at hR
  have yes : (k.toNat < w.toNat ∨ w = k ∧ bh = false) → AS.asAddr (P i7) fun i41 i42 => ∃ v43, (H25.bump 18).cell i41 i42 = some v43 ∧ AS.asFn v43 fun f44 l45 l46 => (∃ fn, en.fn f44 = some fn) ∧ CA en f44 (l45 ++ [(.bool true)] ++ l46) (H25.bump 18) fun v47 H48 => v47 = undef ∧ R undef H48 := fun e =>
    asAddr_in ⟨_, oB.box h1, cb_s (q := { q with key := w }) (there := true) h2 oB fun H' o => ⟨rfl, hR H' (by rw [if_pos e]; exact o)⟩⟩
  have no : ¬ (k.toNat < w.toNat ∨ w = k ∧ bh = false) → ∀ H', Rk H' PL r c ({ q with key := w, ah := q.cur, ai := 0 }.to (.load k bh cb)) (X.to (X.G.S.acc q.cur 1 true id).2) L → R undef H' := fun e H' o => hR H' (by rw [if_neg e]; exact o)
  clear hR
  refine asAddr_in ⟨_, oB.box hk.run, asAddr_in ⟨_, oB.fld 19 (fun _ _ => rfl), asAddr_in ⟨_, oB.box hk.k, ?_⟩⟩⟩
  refine cond_of (fun e => ⟨yes (.inl (by have e : (w.toNat : Int) > (k.toNat : Int) := of_decide_eq_true e; omega)), trivial⟩) fun e => ?_
  have e : ¬ k.toNat < w.toNat := by have e : ¬ (w.toNat : Int) > (k.toNat : Int) := of_decide_eq_false e; omega
  refine asAddr_in ⟨_, oB.box hk.run, asAddr_in ⟨_, oB.fld 19 (fun _ _ => rfl), asAddr_in ⟨_, oB.box hk.k, ?_⟩⟩⟩
  have oC := oB.bump 9
  refine cond_of (fun e2 => ?_) fun e2 => ?_
  · have e2 : w = k := by
      have e2 : (((w.toNat : Int) == (k.toNat : Int)) : Bool) = true := e2
      rw [bv_beq] at e2; simpa using e2
    refine asAddr_in ⟨_, oB.box hk.bh, ⟨?_, trivial⟩⟩
    cases bh with
    | false => exact cond_yes rfl (yes (.inr ⟨e2, rfl⟩))
    | true =>
      have e3 : ¬ (k.toNat < w.toNat ∨ w = k ∧ true = false) := fun h => h.elim e fun h => by cases h.2
      refine cond_no rfl (asAddr_in ⟨_, oC.box hk.run, asAddr_in ⟨_, oC.box hk.run, asAddr_in ⟨_, oC.fld 17 (fun _ _ => rfl), asAddr_in (rset_s (q' := { q with key := w, ah := q.cur, ai := 0 }) oC (Nat.le_of_ble_eq_true rfl) rfl rfl rfl (fun _ _ => rfl) fun H80 o80 => ⟨?_, trivial⟩)⟩⟩⟩)
      exact asAddr_in ⟨_, o80.box hk.run, asAddr_in ⟨_, o80.box hk.ld, asAddr_in (asCells_nx (rnext_s o80 (.load hk) rfl fun H' o => no e3 H' o))⟩⟩
  · have e2 : w ≠ k := by
      have e2 : (((w.toNat : Int) == (k.toNat : Int)) : Bool) = false := e2
      rw [bv_beq] at e2; simpa using e2
    have e3 : ¬ (k.toNat < w.toNat ∨ w = k ∧ bh = false) := fun h => h.elim e fun h => e2 h.1
    refine ⟨asAddr_in ⟨_, oC.box hk.run, asAddr_in ⟨_, oC.box hk.run, asAddr_in ⟨_, oC.fld 17 (fun _ _ => rfl), asAddr_in (rset_s (q' := { q with key := w, ah := q.cur, ai := 0 }) oC (Nat.le_of_ble_eq_true rfl) rfl rfl rfl (fun _ _ => rfl) fun H80 o80 => ⟨?_, trivial⟩)⟩⟩⟩, trivial⟩
    exact asAddr_in ⟨_, o80.box hk.run, asAddr_in ⟨_, o80.box hk.ld, asAddr_in (asCells_nx (rnext_s o80 (.load hk) rfl fun H' o => no e3 H' o))⟩⟩
theorem n_th {k : Th} {v : Value} (hk : ThV PL r q.ky k v) (h : Rk H PL r c q X L) (hR : Go R PL r c L fun b => doNx c (.th k) q X.G b) :
    AS.asFn v fun f l cs => (∃ fn, en.fn f = some fn) ∧ CA en f (l ++ [] ++ cs) H R := by
  have key : ∀ (w : Wd) (bh : Bool) (cb : Cb) g, b1 g (P r) ∈ PL → (k.key q = (w, bh, cb)) → ∀ H' PL', (∀ A ∈ PL, A ∈ PL') → Rk H' PL' r c ({ q with ah := c.h, ai := hd q.room }.to (.load w bh cb)) X L →
      AS.asAddr (P g) fun i12 i13 => ∃ a14, H'.cell i12 i13 = some (.pointer a14) ∧ AS.asAddr (.pointer a14) fun i15 i16 => ∃ v17, H'.cell i15 (i16 + 7) = some v17 ∧ AS.asFn v17 fun f18 l19 l20 => (∃ fn, en.fn f18 = some fn) ∧ CA en f18 (l19 ++ [] ++ l20) H' fun v21 H22 => v21 = undef ∧ R undef H22 := by
    intro w bh cb g hg hkey H' PL' hp o
    refine asAddr_in ⟨_, o.box (hp _ hg), asAddr_in ?_⟩
    obtain ⟨sa, nv, hrv, hnv, hs⟩ := o.ex
    have hnv : NV PL' r q.ky (.load w bh cb) nv := hnv
    have l7 : H'.cell r (0 + 7) = some nv := Sep.ld0 hs rfl
    cases hnv with
    | load hsk =>
      refine ⟨_, l7, asFn_in ⟨Option.isSome_iff_exists.1 (by kernel_rfl), ?_⟩⟩
      refine n_load (q := { q with ah := c.h, ai := hd q.room }.to (.load w bh cb)) (R := fun v H => v = undef ∧ R undef H) hsk o fun H2 PL2 X2 b hp2 e o2 => ⟨rfl, hR H2 PL2 X2 b (sub_t hp hp2) ?_ ?_⟩
      · show X2.G = _
        rw [e]
        show _ = X.G.mem (doTh c k q X.G.S).2
        unfold doTh; rw [hkey]
        rfl
      · show Rk H2 PL2 r c (doTh c k q X.G.S).1 X2 L
        unfold doTh; rw [hkey]; exact o2
  cases hk with
  | op hg h2 =>
    refine asFn_in ⟨Option.isSome_iff_exists.1 (by kernel_rfl), ?_⟩
    show CA en F.hash_Map_Begin_1 [_, _] H _
    apply vc_hash_Map_Begin_1
    have h2' := h2
    obtain ⟨kd, sl, fl, cpu, h2⟩ := h2
    obtain ⟨sa, nv, hrv, hnv, hs⟩ := h.ex
    refine asAddr_in ⟨_, h.box hg, asAddr_in ⟨_, pld (k := 1) hs rfl h2 rfl, ?_⟩⟩
    refine seek_s h (.find hg h2') fun H8 PL' hp o8 => ⟨rfl, ?_⟩
    exact key q.ky false .find _ hg rfl H8 PL' hp o8
  | search hg h1 h2 h3 =>
    refine asFn_in ⟨Option.isSome_iff_exists.1 (by kernel_rfl), ?_⟩
    show CA en F.hash_Run_search_2 [_, _, _, _] H _
    apply vc_hash_Run_search_2
    refine asAddr_in ⟨_, h.box hg, asAddr_in ⟨_, h.box h1, asAddr_in ⟨_, h.box h2, ?_⟩⟩⟩
    refine seek_s h (.next hg h3) fun H8 PL' hp o8 => ⟨rfl, ?_⟩
    exact key _ _ (.next _) _ hg rfl H8 PL' hp o8
theorem n_enter {gt g2 g : Nat} {t : Tk} {k : Th} {v : Value} (hx : q.nx = .enter t k) (h1 : b1 gt (P t.b) ∈ PL) (h2 : b1 g2 v ∈ PL) (hk : ThV PL r q.ky k v) (h3 : b1 g (P r) ∈ PL) (h : Rk H PL r c q X L)
    (hR : Go R PL r c L fun b => doNx c (.enter t k) q X.G b) : CA en F.hash_Run_enter_1 [P gt, P g2, P g] H R := by
  apply vc_hash_Run_enter_1
  have hb := h.box h1
  obtain ⟨sa, nv, hrv, hnv, hs⟩ := h.ex
  rw [hx] at hs hnv
  have hs : Sep H (rA r c q sa nv :: many PL :: xA c :: grA c.g c.m X :: many [tkA c t] :: L) := hs
  have h4 : Sep H (tkA c t :: grA c.g c.m X :: rA r c q sa nv :: many PL :: xA c :: L) := Sep.many1.1 (Sep.pick hs 5 [4, 3, 0, 1, 2] (by decide))
  refine asAddr_in ⟨_, hb, tk_s h4 fun H5 h5 => ⟨_, rfl, ?_⟩⟩
  cases hnv with
  | @enter gt' g2' g' _ _ v' n1 n2 n3 n4 =>
  have o5 : Rk H5 PL r c (q.to (.enter (t.step c X.G.S).2.1 k)) (X.to (t.step c X.G.S).2.2) L := by
    refine ⟨sa, .func (.func F.hash_Run_enter_1) #[] #[P gt', P g2', P g'], hrv, .enter (by rw [tk_b]; exact n1) n2 n3 n4, ?_⟩
    have h6 : Sep H5 (many [tkA c (t.step c X.G.S).2.1] :: grA c.g c.m (X.to (t.step c X.G.S).2.2) :: rA r c q sa (.func (.func F.hash_Run_enter_1) #[] #[P gt', P g2', P g']) :: many PL :: xA c :: L) := Sep.many1.2 h5
    exact Sep.pick h6 5 [2, 3, 4, 1, 0] (by decide)
  have hR : ∀ H', Rk H' PL r c (q.to (if (t.step c X.G.S).1 then .th k else .enter (t.step c X.G.S).2.1 k)) (X.to (t.step c X.G.S).2.2) L → R undef H' := fun H' o => hR H' PL (X.to (t.step c X.G.S).2.2) (0, 0, 0) (fun _ h => h) rfl o
  refine cond_of (fun e => ?_) fun e => ?_
  · obtain ⟨f, l, cs, rfl⟩ := hk.fn
    exact asAddr_in ⟨_, o5.box h3, asAddr_in ⟨_, o5.box h2, asAddr_in (asCells_nx (rnext_s o5 (.th hk) rfl fun H15 o15 => hR H15 (by rw [if_pos e]; exact o15)))⟩⟩
  · exact hR H5 (by rw [if_neg (by rw [e]; exact Bool.false_ne_true)]; exact o5)
theorem n_set (h : Rk H PL r c q X L) (hR : Go R PL r c L fun b => doNx c .set q X.G b) : CA en F.hash_Run_set [P r] H R := by
  apply vc_hash_Run_set
  have hb := h.bump 16
  refine asAddr_in ⟨_, hb.fld 0 (fun _ _ => rfl), asAddr_in ⟨_, hb.xf 0 rfl, asAddr_in ⟨_, hb.fld 17 (fun _ _ => rfl), asAddr_in ⟨_, hb.fld 6 (fun _ _ => rfl), ?_⟩⟩⟩⟩
  refine rstore_s hb fun H14 o14 => ⟨_, rfl, ⟨rend_s (rv := []) (rk := 0) (sa := none) o14 (.inl ⟨rfl, rfl⟩) fun H17 o17 => ⟨rfl, ?_⟩, trivial⟩⟩
  exact hR H17 PL _ (0, 0, 0) (fun _ h => h) rfl o17
theorem mfound_s {w : Wd} (h : Rk H PL r c q X L)
    (hR : ∀ H' PL' i, (∀ A ∈ PL, A ∈ PL') → bx i (.cells true 1 [W w]) ∈ PL' → Rk H' PL' r c q X L → R (.agg #[I 0, .slice (some ⟨i, 0, none⟩) 1 0, .int .u64 0, I (q.elem c w)]) H') : CA en F.hash_Map_found [P c.x, W w, I q.cur] H R := by
  obtain ⟨sa, nv, hrv, hnv, hs⟩ := h.ex
  apply vc_hash_Map_found
  refine Sep.nw hs fun i1 H2 h2 => asAddr_in ⟨_, Sep.ld3 h2 rfl, ?_⟩
  refine cond_of (fun e => ?_) fun e => ?_
  · have e : c.d0 = 10 := by simpa using e
    refine Sep.nw h2 fun i6 H7 h7 => Sep.st1 h7 (Nat.le_of_ble_eq_true rfl) fun H8 h8 => ⟨_, _, _, _, _, Sep.lds1 h8 rfl, ?_⟩
    have o8 := Rk.ins [bx i6 (.cells true 1 [W w])] hrv hnv (Sep.rm1 h8)
    have e2 : q.elem c w = IntKind.i64.wrap w.toNat := if_pos e
    rw [← e2]
    exact hR H8 _ i6 (sub_r (fun _ h => h) _) (.head _) o8
  · have e : c.d0 ≠ 10 := by simpa using e
    refine Sep.nw h2 fun i6 H7 h7 => Sep.st1 h7 (Nat.le_of_ble_eq_true rfl) fun H8 h8 => ⟨_, _, _, _, _, Sep.lds1 h8 rfl, ?_⟩
    have o8 := Rk.ins [bx i6 (.cells true 1 [W w])] hrv hnv (Sep.rm1 h8)
    have e2 : q.elem c w = q.cur := if_neg e
    have hR := hR H8 _ i6 (sub_r (fun _ h => h) _) (.head _) o8
    rw [e2] at hR
    exact hR
theorem n_look (h : Rk H PL r c q X L) (hR : Go R PL r c L fun b => doNx c .look q X.G b) : CA en F.hash_Run_look [P r] H R := by
  apply vc_hash_Run_look
  have hb := h.bump 17
  refine asAddr_in ⟨_, hb.fld 0 (fun _ _ => rfl), asAddr_in ⟨_, hb.xf 0 rfl, asAddr_in ⟨_, hb.fld 17 (fun _ _ => rfl), ?_⟩⟩⟩
  refine rload_s hb fun H11 o11 => ⟨_, _, rfl, ⟨?_, trivial⟩⟩
  have oB := o11.bump 12
  refine asAddr_in ⟨_, oB.fld 0 (fun _ _ => rfl), asAddr_in ⟨_, oB.fld 17 (fun _ _ => rfl), ?_⟩⟩
  refine mfound_s oB fun H21 PL' i hp hi o21 => ⟨_, _, _, _, _, rfl, ?_⟩
  refine rend_s (rv := [(X.G.S.acc q.cur 2 true id).1.1]) (rk := 0) (sa := some ⟨i, 0, none⟩) o21 (.inr ⟨i, _, rfl, rfl, hi⟩) fun H28 o28 => ⟨rfl, ⟨?_, trivial⟩⟩
  exact hR H28 PL' _ (0, 0, 0) hp rfl o28
theorem n_change {g g2 : Nat} {f : Fb} {v : Value} (h1 : b1 g (P r) ∈ PL) (h2 : b1 g2 v ∈ PL) (hf : FV PL r f v) (h : Rk H PL r c q X L) (hR : Go R PL r c L fun b => doNx c (.change f) q X.G b) : CA en F.hash_Run_change_1 [P g, P g2] H R := by
  apply vc_hash_Run_change_1
  have hb := h.bump 15
  refine asAddr_in ⟨_, hb.box h1, asAddr_in ⟨_, hb.fld 0 (fun _ _ => rfl), asAddr_in ⟨_, hb.xf 0 rfl, asAddr_in ⟨_, hb.box h1, asAddr_in ⟨_, hb.fld 0 (fun _ _ => rfl), asAddr_in ⟨_, hb.xf 7 rfl, ?_⟩⟩⟩⟩⟩⟩
  obtain ⟨ff, l, cs, rfl⟩ := hf.fn
  refine rfetch_s (mask := ones) (v := 1) hb fun H20 o20 => ⟨_, _, rfl, ⟨?_, trivial⟩⟩
  exact asAddr_in ⟨_, o20.box h1, asAddr_in ⟨_, o20.box h2, asAddr_in (asCells_nx (rnext_s o20 (.after hf) rfl fun H31 o31 => hR H31 PL _ (0, 0, 0) (fun _ h => h) rfl o31))⟩⟩
theorem n_add (h : Rk H PL r c q X L) (hR : Go R PL r c L fun b => doNx c (.after .add) q X.G b) : CA en F.hash_Run_add [P r] H R := by
  obtain ⟨sa, nv, hrv, hnv, hs⟩ := h.ex
  apply vc_hash_Run_add
  refine Sep.nw hs fun i1 H2 h2 => ?_
  have hb := (Rk.ins [b1 i1 (P r)] hrv hnv h2).bump 29
  have hp := sub_r (A := PL) (fun _ h => h) [b1 i1 (P r)]
  have m1 : b1 i1 (P r) ∈ [b1 i1 (P r)] ++ PL := .head _
  refine ⟨_, hb.box m1, asAddr_in ⟨_, hb.fld 0 (fun _ _ => rfl), asAddr_in ⟨_, hb.xf 0 rfl, _, hb.box m1, asAddr_in ⟨_, hb.fld 0 (fun _ _ => rfl), asAddr_in ⟨_, hb.xf 7 rfl, _, hb.box m1, asAddr_in ⟨_, hb.fld 20 (fun _ _ => rfl), _, hb.box m1, asAddr_in ⟨_, hb.fld 20 (fun _ _ => rfl), ?_⟩⟩⟩⟩⟩⟩⟩
  have ew : IntKind.u64.wrap ((q.was.toNat : Int) + 1) = ((q.was + 1).toNat : Int) := by
    rw [wrap_u64, ofInt_add, ofInt_bv]; rfl
  rw [ew]
  refine rcas_s (mask := lowM) hb fun H26 o26 => ⟨_, _, rfl, ⟨?_, trivial⟩⟩
  refine ⟨_, o26.box m1, asAddr_in ⟨_, o26.fld 20 (fun _ _ => rfl), ?_⟩⟩
  have hR : ∀ H', Rk H' ([b1 i1 (P r)] ++ PL) r c (doAfter c .add q X.G.S).1 (X.to (doAfter c .add q X.G.S).2) L → R undef H' := fun H' o => hR H' _ _ (0, 0, 0) hp rfl o
  unfold doAfter at hR
  simp only at hR
  generalize (X.G.S.acc c.h 0 true (casF lowM q.was (q.was + 1))).1.1 = w at hR o26
  have e0 : IntKind.u64.wrap ((BitVec.ofInt 64 (w.toNat : Int) &&& BitVec.ofInt 64 4294967295).toNat : Int) = ((w &&& lowM).toNat : Int) := by rw [wrap_bv, ofInt_bv]; rfl
  rw [e0, bv_bne]
  refine cond_of (fun e => ?_) fun e => ?_
  · have e : ¬ w &&& lowM = q.was := by simpa using e
    rw [if_neg e] at hR
    exact ⟨_, o26.box m1, _, o26.box m1, asAddr_in (rnext_s o26 .space rfl fun H37 o37 => hR H37 o37)⟩
  · have e : w &&& lowM = q.was := by simpa using e
    rw [if_pos e] at hR
    exact ⟨_, o26.box m1, rgive_s (rv := []) (rk := 0) (sa := none) o26 (.inl ⟨rfl, rfl⟩) fun H40 o40 => ⟨rfl, _, o40.box m1, asAddr_in (rnext_s o40 (.link m1) rfl fun H44 o44 => hR H44 o44)⟩⟩
theorem unlink_s {a : Aw} {v : Value} (h : Rk H PL r c q X L) (ha : AwV PL r a v)
    (hR : ∀ H' PL', (∀ A ∈ PL, A ∈ PL') → Rk H' PL' r c (q.to (.unl1 a)) X L → R undef H') : CA en F.hash_Run_unlink [P r, v] H R := by
  obtain ⟨sa, nv, hrv, hnv, hs⟩ := h.ex
  obtain ⟨f, l, cs, rfl⟩ := ha.fn
  apply vc_hash_Run_unlink
  refine Sep.nw hs fun i1 H2 h2 => Sep.nw h2 fun i3 H4 h4 => ?_
  have o4 := Rk.ins [b1 i3 (.func (.func f) ⟨l⟩ ⟨cs⟩), b1 i1 (P r)] hrv hnv h4
  have hp := sub_r (A := PL) (fun _ h => h) [b1 i3 (.func (.func f) ⟨l⟩ ⟨cs⟩), b1 i1 (P r)]
  exact ⟨_, o4.box (.tail _ (.head _)), asAddr_in (rnext_s o4 (.unl1 (.tail _ (.head _)) (.head _) ha.mono) rfl fun H8 o8 => hR H8 _ hp o8)⟩
theorem n_drop1 {g : Nat} (h1 : b1 g (P r) ∈ PL) (h : Rk H PL r c q X L) (hR : Go R PL r c L fun b => doNx c (.after .drop) q X.G b) : CA en F.hash_Run_drop_1 [P g] H R := by
  apply vc_hash_Run_drop_1
  have hb := h.bump 15
  refine asAddr_in ⟨_, hb.box h1, asAddr_in ⟨_, hb.fld 0 (fun _ _ => rfl), asAddr_in ⟨_, hb.xf 0 rfl, asAddr_in ⟨_, hb.box h1, asAddr_in ⟨_, hb.fld 0 (fun _ _ => rfl), asAddr_in ⟨_, hb.xf 7 rfl, ?_⟩⟩⟩⟩⟩⟩
  refine rfetch_s (mask := lowM) (v := lowM) hb fun H20 o20 => ⟨_, _, rfl, ⟨asAddr_in ⟨_, o20.box h1, ?_⟩, trivial⟩⟩
  refine rgive_s (rv := []) (rk := 0) (sa := none) o20 (.inl ⟨rfl, rfl⟩) fun H27 o27 => ⟨rfl, asAddr_in ⟨_, o27.box h1, asAddr_in ⟨_, o27.box h1, ?_⟩⟩⟩
  exact unlink_s o27 .away fun H35 PL' hp o35 => ⟨rfl, hR H35 PL' _ (0, 0, 0) hp rfl o35⟩
theorem n_taking1 {g g2 : Nat} {a : Aw} {va : Value} (h1 : b1 g (P r) ∈ PL) (h2 : b1 g2 va ∈ PL) (ha : AwV PL r a va) (h : Rk H PL r c q X L) (hR : Go R PL r c L fun b => doNx c (.after (.take a)) q X.G b) : CA en F.hash_Run_taking_1 [P g, P g2] H R := by
  apply vc_hash_Run_taking_1
  have hb := h.bump 17
  refine asAddr_in ⟨_, hb.box h1, asAddr_in ⟨_, hb.fld 0 (fun _ _ => rfl), asAddr_in ⟨_, hb.xf 0 rfl, asAddr_in ⟨_, hb.box h1, asAddr_in ⟨_, hb.fld 17 (fun _ _ => rfl), ?_⟩⟩⟩⟩⟩
  refine rload_s hb fun H17 o17 => ⟨_, _, rfl, ⟨asAddr_in ⟨_, o17.box h1, ?_⟩, trivial⟩⟩
  obtain ⟨sa, nv, hrv, hnv, hs⟩ := o17.ex
  refine Sep.nw hs fun i23 H24 h24 => ?_
  have o24 := Rk.ins [bx i23 (.cells true 1 [W (X.G.S.acc q.cur 2 true id).1.1])] hrv hnv h24
  have hp := sub_r (A := PL) (fun _ h => h) [bx i23 (.cells true 1 [W (X.G.S.acc q.cur 2 true id).1.1])]
  refine rgive_s (rv := [(X.G.S.acc q.cur 2 true id).1.1]) (rk := 0) (sa := some ⟨i23, 0, none⟩) o24 (.inr ⟨i23, _, rfl, rfl, .head _⟩) fun H26 o26 => ⟨rfl, asAddr_in ⟨_, o26.box (hp _ h1), asAddr_in ?_⟩⟩
  exact rnext_s o26 (.off (hp _ h1) (hp _ h2) ha.mono) rfl fun H32 o32 => hR H32 _ _ (0, 0, 0) hp rfl o32
end Go.Proofs.YtjggeoghlicmdaaGreat
namespace Go.Proofs.YtjggeoghlicmdaaGreat
open Go Go.AS Go.RowKit
set_option linter.unusedVariables false
variable {H H' : Heap} {R K : Value → Heap → Prop} {L M PL PL' : List Asr} {r : Nat} {c : Lc} {q : Qr} {X X' : Gx}
theorem n_off {g g2 : Nat} {a : Aw} {va : Value} (h1 : b1 g (P r) ∈ PL) (h2 : b1 g2 va ∈ PL) (ha : AwV PL r a va) (h : Rk H PL r c q X L) (hR : Go R PL r c L fun b => doNx c (.off a) q X.G b) : CA en F.hash_Run_taking_1_1 [P g, P g2] H R := by
  apply vc_hash_Run_taking_1_1
  have hb := h.bump 15
  refine asAddr_in ⟨_, hb.box h1, asAddr_in ⟨_, hb.fld 0 (fun _ _ => rfl), asAddr_in ⟨_, hb.xf 0 rfl, asAddr_in ⟨_, hb.box h1, asAddr_in ⟨_, hb.fld 0 (fun _ _ => rfl), asAddr_in ⟨_, hb.xf 7 rfl, ?_⟩⟩⟩⟩⟩⟩
  refine rfetch_s (mask := ones) (v := untick) hb fun H20 o20 => ⟨_, _, rfl, ⟨asAddr_in ⟨_, o20.box h1, asAddr_in ⟨_, o20.box h2, ?_⟩⟩, trivial⟩⟩
  exact unlink_s o20 ha fun H35 PL' hp o35 => ⟨rfl, hR H35 PL' _ (0, 0, 0) hp rfl o35⟩
theorem n_unl1 {g g2 : Nat} {a : Aw} {va : Value} (h1 : b1 g (P r) ∈ PL) (h2 : b1 g2 va ∈ PL) (ha : AwV PL r a va) (h : Rk H PL r c q X L) (hR : Go R PL r c L fun b => doNx c (.unl1 a) q X.G b) : CA en F.hash_Run_unlink_1 [P g, P g2] H R := by
  obtain ⟨sa, nv, hrv, hnv, hs⟩ := h.ex
  apply vc_hash_Run_unlink_1
  have hf := hs.fore1 (n := 18) (a := 15) (.cells true 0 [.int .u64 0]) (by decide)
  generalize H.next + 15 = vb at hf ⊢
  -- vb rA PL xA gr T
  refine asAddr_in ⟨_, pld (k := 2) hf rfl h1 rfl, asAddr_in ⟨_, Sep.ld1 hf rfl, asAddr_in ⟨_, Sep.ld3 hf rfl, asAddr_in ⟨_, pld (k := 2) hf rfl h1 rfl, asAddr_in ⟨_, Sep.ld1 hf rfl, ?_⟩⟩⟩⟩⟩
  refine gload_s (Sep.up4 hf) fun H17 h17 => ⟨_, _, rfl, ?_⟩
  -- gr vb rA PL xA T
  refine Sep.st1 h17 (Nat.le_of_ble_eq_true rfl) fun H20 h20 => ⟨?_, ⟨⟨_, Sep.get0 hf, rfl⟩, ⟨_, Sep.get1 h17, rfl⟩, trivial⟩, trivial⟩
  have h21 : Sep H20 ([b1 vb (W (X.G.S.acc q.cur 0 true id).1.1)] ++ rA r c q sa nv :: many PL :: xA c :: grA c.g c.m (X.to (X.G.S.acc q.cur 0 true id).2) :: many (tkL c q.nx) :: L) := Sep.pick h20 6 [1, 2, 3, 4, 0, 5] (by decide)
  have o20 := Rk.ins _ hrv hnv h21
  have hp := sub_r (A := PL) (fun _ h => h) [b1 vb (W (X.G.S.acc q.cur 0 true id).1.1)]
  exact asAddr_in ⟨_, o20.box (hp _ h1), asAddr_in (rnext_s o20 (.unl2 (hp _ h1) (.head _) (hp _ h2) ha.mono) rfl fun H28 o28 => hR H28 _ _ (0, 0, 0) hp rfl o28)⟩
theorem aw_s {a : Aw} {v : Value} (ha : AwV PL r a v) (h : Rk H PL r c q X L) (hR : ∀ H', Rk H' PL r c (q.aw a) X L → K undef H') :
    AS.asFn v fun f l cs => (∃ fn, en.fn f = some fn) ∧ CA en f (l ++ [] ++ cs) H K := by
  cases ha with
  | away =>
    refine asFn_in ⟨Option.isSome_iff_exists.1 (by kernel_rfl), ?_⟩
    show CA en F.hash_Run_away [_] H K
    exact raway_s h fun H' o => hR H' o
theorem n_unl2 {g g2 g3 : Nat} {a : Aw} {va : Value} {v : Wd} (h1 : b1 g (P r) ∈ PL) (h3 : b1 g3 (W v) ∈ PL) (h2 : b1 g2 va ∈ PL) (ha : AwV PL r a va) (h : Rk H PL r c q X L) (hl : X.G.q.length < 10000) (hR : Go R PL r c L fun b => doNx c (.unl2 v a) q X.G b) : CA en F.hash_Run_unlink_1_1 [P g, P g3, P g2] H R := by
  apply vc_hash_Run_unlink_1_1
  have hb := h.bump 19
  refine asAddr_in ⟨_, hb.box h1, asAddr_in ⟨_, hb.fld 0 (fun _ _ => rfl), asAddr_in ⟨_, hb.xf 0 rfl, asAddr_in ⟨_, hb.box h1, asAddr_in ⟨_, hb.fld 15 (fun _ _ => rfl), asAddr_in ⟨_, hb.box h1, asAddr_in ⟨_, hb.fld 16 (fun _ _ => rfl), asAddr_in ⟨_, hb.box h3, ?_⟩⟩⟩⟩⟩⟩⟩⟩
  refine rstore_s hb fun H26 o26 => ⟨_, rfl, ⟨?_, trivial⟩⟩
  have oB := o26.bump 12
  refine asAddr_in ⟨_, oB.box h1, asAddr_in ⟨_, oB.fld 0 (fun _ _ => rfl), asAddr_in ⟨_, oB.xf 1 rfl, asAddr_in ⟨_, oB.box h1, asAddr_in ⟨_, oB.fld 17 (fun _ _ => rfl), ?_⟩⟩⟩⟩⟩
  refine rdefer_s oB hl fun H44 X' mb f n e o44 => ⟨_, _, rfl, ⟨asAddr_in ⟨_, o44.box h2, ?_⟩, trivial⟩⟩
  exact aw_s ha o44 fun H' o => ⟨rfl, hR H' PL X' (mb, 0, 0) (fun _ h => h) e o⟩
theorem rfreeL_s {f : Nat} {l cs : List Value} (h : Rk H PL r c q X L)
    (hR : ∀ H', Rk H' PL r c q (X.to (dropL c q X.G.S)) L → (∃ fn, en.fn f = some fn) ∧ CA en f (l ++ [] ++ cs) H' fun v36 H37 => v36 = undef ∧ R undef H37) : CA en F.hash_Run_free [P r, .func (.func f) ⟨l⟩ ⟨cs⟩] H R := by
  apply vc_hash_Run_free
  have hb := h.bump 24
  refine asAddr_in ⟨_, hb.fld 0 (fun _ _ => rfl), asAddr_in ⟨_, hb.xf 0 rfl, asAddr_in ⟨_, hb.fld 0 (fun _ _ => rfl), asAddr_in ⟨_, hb.xf 7 rfl, asAddr_in ⟨_, hb.fld 0 (fun _ _ => rfl), asAddr_in ⟨_, hb.fld 14 (fun _ _ => rfl), ?_⟩⟩⟩⟩⟩⟩
  refine lockAt_s ⟨_, rfl, rdrop_s hb fun H23 b o23 => ⟨_, rfl, asFn_in (hR H23 o23), ?_⟩⟩
  exact ⟨⟨⟨_, hb.xf 7 rfl, rfl⟩, ⟨_, hb.xf 7 rfl, rfl⟩, trivial⟩, ⟨⟨_, hb.fld 0 (fun _ _ => rfl), rfl⟩, ⟨_, hb.fld 0 (fun _ _ => rfl), rfl⟩, trivial⟩, ⟨⟨_, hb.xf 0 rfl, rfl⟩, ⟨_, hb.xf 0 rfl, rfl⟩, trivial⟩, ⟨⟨_, hb.fld 0 (fun _ _ => rfl), rfl⟩, ⟨_, hb.fld 0 (fun _ _ => rfl), rfl⟩, trivial⟩, trivial⟩
theorem n_leave (h : Rk H PL r c q X L) (hR : Go R PL r c L fun b => doNx c .leave q X.G b) : CA en F.hash_Run_leave [P r] H R := by
  apply vc_hash_Run_leave
  have hb := h.bump 24
  refine asAddr_in ⟨_, hb.fld 0 (fun _ _ => rfl), asAddr_in ⟨_, hb.xf 0 rfl, asAddr_in ⟨_, hb.fld 0 (fun _ _ => rfl), asAddr_in ⟨_, hb.xf 7 rfl, asAddr_in ⟨_, hb.fld 0 (fun _ _ => rfl), asAddr_in ⟨_, hb.fld 14 (fun _ _ => rfl), ?_⟩⟩⟩⟩⟩⟩
  refine lockAt_s ⟨_, rfl, rdrop_s hb fun H23 b o23 => ⟨_, rfl, asAddr_in (rset_s (q' := { q with dn := true }) o23 (Nat.le_of_ble_eq_true rfl) rfl rfl rfl (fun _ _ => rfl) fun H35 o35 => hR H35 PL _ (0, 0, 0) (fun _ h => h) rfl o35), ?_⟩⟩
  exact ⟨⟨⟨_, hb.xf 7 rfl, rfl⟩, ⟨_, hb.xf 7 rfl, rfl⟩, trivial⟩, ⟨⟨_, hb.fld 0 (fun _ _ => rfl), rfl⟩, ⟨_, hb.fld 0 (fun _ _ => rfl), rfl⟩, trivial⟩, ⟨⟨_, hb.xf 0 rfl, rfl⟩, ⟨_, hb.xf 0 rfl, rfl⟩, trivial⟩, ⟨⟨_, hb.fld 0 (fun _ _ => rfl), rfl⟩, ⟨_, hb.fld 0 (fun _ _ => rfl), rfl⟩, trivial⟩, trivial⟩
theorem search_s {room : Int} {bh : Bool} (h : Rk H PL r c q X L) (hR : ∀ H' PL' b, (∀ A ∈ PL, A ∈ PL') → Rk H' PL' r c (q.search c room bh b) X L → R undef H') : CA en F.hash_Run_search [P r, I room, .bool bh] H R := by
  obtain ⟨sa, nv, hrv, hnv, hs⟩ := h.ex
  apply vc_hash_Run_search
  refine Sep.nw hs fun i1 H2 h2 => Sep.nw h2 fun i3 H4 h4 => Sep.nw h4 fun i5 H6 h6 => ?_
  have hb := (Rk.ins [b1 i5 (.bool bh), b1 i3 (I room), b1 i1 (P r)] hrv hnv h6).bump 10
  have hp := sub_r (A := PL) (fun _ h => h) [b1 i5 (.bool bh), b1 i3 (I room), b1 i1 (P r)]
  have m1 : b1 i1 (P r) ∈ [b1 i5 (.bool bh), b1 i3 (I room), b1 i1 (P r)] ++ PL := by simp
  have m3 : b1 i3 (I room) ∈ [b1 i5 (.bool bh), b1 i3 (I room), b1 i1 (P r)] ++ PL := by simp
  have m5 : b1 i5 (.bool bh) ∈ [b1 i5 (.bool bh), b1 i3 (I room), b1 i1 (P r)] ++ PL := by simp
  refine ⟨_, hb.box m3, _, hb.box m1, asAddr_in ⟨_, hb.fld 0 (fun _ _ => rfl), asAddr_in ⟨_, hb.xf 5 rfl, ⟨?_, trivial⟩⟩⟩⟩
  refine cond_of (fun e => ?_) fun e => ?_
  · have e : c.d3 ≤ room := by have := of_decide_eq_true e; omega
    refine ⟨_, hb.box m1, asAddr_in (rnext_s hb (.stillNo m1) rfl fun H18 o18 => hR H18 _ 0 hp ?_)⟩
    unfold Qr.search; rw [if_pos e]; exact o18
  · have e : ¬ c.d3 ≤ room := by have := of_decide_eq_false e; omega
    obtain ⟨sa', nv', hrv', hnv', hs'⟩ := hb.ex
    refine ⟨_, hb.box m1, asAddr_in ⟨_, hb.fld 2 (fun _ _ => rfl), Sep.nw hs' fun i23 H24 h24 => Sep.st0 h24 (Nat.le_of_ble_eq_true rfl) fun H25 h25 => ?_⟩⟩
    refine ⟨_, pld (k := 2) h25 rfl m5 rfl, ?_⟩
    have go : ∀ (w : Wd) H27, Sep H27 (b1 i23 (W w) :: rA r c q sa' nv' :: many ([b1 i5 (.bool bh), b1 i3 (I room), b1 i1 (P r)] ++ PL) :: xA c :: grA c.g c.m X :: many (tkL c q.nx) :: L) → w = (if bh then q.ky else 0) →
        ∃ a28, H27.cell i1 0 = some (.pointer a28) ∧ ∃ n29, H27.cell i3 0 = some (I n29) ∧ CA en F.hash_Run_enter [(.pointer a28), I n29, (.func (.func F.hash_Run_search_2) #[] #[(.pointer (some ⟨i1, 0, none⟩)), (.pointer (some ⟨i23, 0, none⟩)), (.pointer (some ⟨i5, 0, none⟩)), (.pointer (some ⟨i3, 0, none⟩))])] H27 fun v30 H31 => v30 = undef ∧ R undef H31 := by
      intro w H27 h27 ew
      have o27 := Rk.ins [b1 i23 (W w)] hrv' hnv' h27
      have hq := sub_r (A := [b1 i5 (.bool bh), b1 i3 (I room), b1 i1 (P r)] ++ PL) (fun _ h => h) [b1 i23 (W w)]
      refine ⟨_, o27.box (hq _ m1), _, o27.box (hq _ m3), ?_⟩
      refine renter_s (k := .search w bh room) o27 (.search (hq _ m1) (.head _) (hq _ m5) (hq _ m3)) fun H' PL' b hp2 o => ⟨rfl, hR H' PL' b (sub_t (sub_t hp hq) hp2) ?_⟩
      unfold Qr.search; rw [if_neg e, ← ew]; exact o
    cases bh with
    | false => exact cond_yes rfl (Sep.st0 h25 (Nat.le_of_ble_eq_true rfl) fun H27 h27 => go 0 H27 h27 rfl)
    | true => exact cond_no rfl (go q.ky H25 h25 rfl)
theorem n_begin (h : Rk H PL r c q X L) (hd3 : c.d3 < 9223372036854775808) (hR : Go R PL r c L fun b => doNx c .begin q X.G b) : CA en F.hash_Run_begin [P r] H R := by
  apply vc_hash_Run_begin
  have hb := h.bump 22
  refine asAddr_in ⟨_, hb.fld 0 (fun _ _ => rfl), asAddr_in ⟨_, hb.xf 0 rfl, asAddr_in ⟨_, hb.fld 0 (fun _ _ => rfl), asAddr_in ⟨_, hb.xf 7 rfl, ?_⟩⟩⟩⟩
  refine rload_s hb fun H14 o14 => ⟨_, _, rfl, asAddr_in (rset_s (q' := { q with was := (X.G.S.acc c.h 1 true id).1.1 }) o14 (Nat.le_of_ble_eq_true rfl) rfl rfl rfl (fun _ _ => rfl) fun H19 o19 => ⟨?_, trivial⟩)⟩
  refine asAddr_in ⟨_, o19.fld 4 (fun _ _ => rfl), cond_of (fun e => ?_) fun e => ?_⟩
  · have e : q.fl ≠ 1 := by simpa using e
    have oB := o19.bump 15
    refine asAddr_in ⟨_, oB.fld 2 (fun _ _ => rfl), asAddr_in ⟨_, oB.fld 0 (fun _ _ => rfl), asAddr_in ⟨_, oB.xf 5 rfl, ?_⟩⟩⟩
    refine Bucket_ok hd3 ⟨_, rfl, ⟨?_, trivial⟩⟩
    refine asAddr_in ⟨_, oB.fld 4 (fun _ _ => rfl), ?_⟩
    refine search_s oB fun H' PL' b hp o => ⟨rfl, hR H' PL' (X.to (X.G.S.acc c.h 1 true id).2) (b, 0, 0) hp rfl ?_⟩
    have e1 : (q.fl != 1) = decide (q.fl ≠ 1) := by rw [decide_eq_true e]; simpa using e
    show Rk H' PL' r c (Qr.search c { q with was := (X.G.S.acc c.h 1 true id).1.1 } (if q.fl = 1 then 0 else bkt q.ky c.d3) (decide (q.fl ≠ 1)) b) _ L
    rw [if_neg e, ← e1]; exact o
  · have e : q.fl = 1 := by simpa using e
    refine asAddr_in ⟨_, o19.fld 4 (fun _ _ => rfl), ?_⟩
    refine search_s o19 fun H' PL' b hp o => ⟨rfl, hR H' PL' (X.to (X.G.S.acc c.h 1 true id).2) (b, 0, 0) hp rfl ?_⟩
    have e1 : (q.fl != 1) = decide (q.fl ≠ 1) := by rw [e]; rfl
    show Rk H' PL' r c (Qr.search c { q with was := (X.G.S.acc c.h 1 true id).1.1 } (if q.fl = 1 then 0 else bkt q.ky c.d3) (decide (q.fl ≠ 1)) b) _ L
    rw [if_pos e, ← e1]; exact o
end Go.Proofs.YtjggeoghlicmdaaGreat
namespace Go.Proofs.YtjggeoghlicmdaaGreat
open Go Go.AS Go.RowKit
set_option linter.unusedVariables false
variable {H H' : Heap} {R K : Value → Heap → Prop} {L M PL PL' : List Asr} {r : Nat} {c : Lc} {q : Qr} {X X' : Gx}
theorem n_free {g g3 : Nat} {room : Int} (h1 : b1 g (P r) ∈ PL) (h3 : b1 g3 (I room) ∈ PL) (h : Rk H PL r c q X L) (hR : Go R PL r c L fun b => doNx c (.free room) q X.G b) : CA en F.hash_Run_search_2_1_1 [P g, P g3] H R := by
  apply vc_hash_Run_search_2_1_1
  refine asAddr_in ⟨_, h.box h1, rfreeL_s h fun H' o => ⟨Option.isSome_iff_exists.1 (by kernel_rfl), ?_⟩⟩
  show CA en F.hash_Run_search_2_1_1_1 [P g, P g3] H' _
  apply vc_hash_Run_search_2_1_1_1
  refine asAddr_in ⟨_, o.box h1, asAddr_in ⟨_, o.box h3, ?_⟩⟩
  exact search_s o fun H2 PL2 b hp o2 => ⟨rfl, rfl, rfl, hR H2 PL2 (X.to (dropL c q X.G.S)) (b, 0, 0) hp rfl o2⟩
theorem n_freeBegin {g : Nat} (h1 : b1 g (P r) ∈ PL) (h : Rk H PL r c q X L) (hR : Go R PL r c L fun b => doNx c .freeBegin q X.G b) : CA en F.hash_Run_still_1 [P g] H R := by
  apply vc_hash_Run_still_1
  refine asAddr_in ⟨_, h.box h1, rfreeL_s h fun H' o => ⟨Option.isSome_iff_exists.1 (by kernel_rfl), ?_⟩⟩
  show CA en F.hash_Run_still_1_1 [P g] H' _
  apply vc_hash_Run_still_1_1
  refine asAddr_in ⟨_, o.box h1, asAddr_in ⟨_, o.box h1, asAddr_in (rnext_s o .begin rfl fun H9 o9 => ?_)⟩⟩
  exact ⟨rfl, rfl, hR H9 PL (X.to (dropL c q X.G.S)) (0, 0, 0) (fun _ h => h) rfl o9⟩
theorem still_s {no : Int} {key : Wd} {f : Nat} {l cs : List Value} (h : Rk H PL r c q X L)
    (hyes : (q.still c X.G.S).1 = true → ∀ H' PL', (∀ A ∈ PL, A ∈ PL') → Rk H' PL' r c (q.give no [] key 0) (X.to (q.still c X.G.S).2) L → (∃ fn, en.fn f = some fn) ∧ CA en f (l ++ [] ++ cs) H' fun v H => v = undef ∧ R undef H)
    (hno : (q.still c X.G.S).1 = false → ∀ H' PL', (∀ A ∈ PL, A ∈ PL') → Rk H' PL' r c (q.to (if no = 0 then .freeBegin else .begin)) (X.to (q.still c X.G.S).2) L → R undef H') :
    CA en F.hash_Run_still [P r, .agg #[I no, .slice none 0 0, W key, I 0], .func (.func f) ⟨l⟩ ⟨cs⟩] H R := by
  obtain ⟨sa, nv, hrv, hnv, hs⟩ := h.ex
  apply vc_hash_Run_still
  refine Sep.nw hs fun i1 H2 h2 => Sep.nw h2 fun i3 H4 h4 => ?_
  have hb := (Rk.ins [bx i3 (.cells true 0 [I no, .slice none 0 0, W key, I 0]), b1 i1 (P r)] hrv hnv h4).bump 20
  have hp := sub_r (A := PL) (fun _ h => h) [bx i3 (.cells true 0 [I no, .slice none 0 0, W key, I 0]), b1 i1 (P r)]
  have m1 : b1 i1 (P r) ∈ [bx i3 (.cells true 0 [I no, .slice none 0 0, W key, I 0]), b1 i1 (P r)] ++ PL := .tail _ (.head _)
  have m3 : bx i3 (.cells true 0 [I no, .slice none 0 0, W key, I 0]) ∈ [bx i3 (.cells true 0 [I no, .slice none 0 0, W key, I 0]), b1 i1 (P r)] ++ PL := .head _
  refine ⟨_, hb.box m1, asAddr_in ⟨_, hb.fld 0 (fun _ _ => rfl), asAddr_in ⟨_, hb.xf 0 rfl, _, hb.box m1, asAddr_in ⟨_, hb.fld 0 (fun _ _ => rfl), asAddr_in ⟨_, hb.xf 7 rfl, ?_⟩⟩⟩⟩⟩
  refine rload_s hb fun H20 o20 => ⟨_, _, rfl, ⟨⟨_, o20.box m1, asAddr_in ⟨_, o20.fld 20 (fun _ _ => rfl), ?_⟩⟩, trivial⟩⟩
  rw [bv_beq]
  have es : (q.still c X.G.S).1 = ((X.G.S.acc c.h 1 true id).1.1 == q.was) := by
    unfold Qr.still; rw [Bool.eq_iff_iff]; simp
  rw [← es]
  obtain ⟨sa2, nv2, hrv2, hnv2, hs2⟩ := o20.ex
  refine cond_of (fun e => ?_) fun e => ?_
  · refine ⟨_, o20.box m1, _, _, _, _, _, plds (k := 1) hs2 rfl m3 rfl, ?_⟩
    refine rgive_s (rv := []) (rk := key) (sa := none) o20 (.inl ⟨rfl, rfl⟩) fun H34 o34 => ⟨rfl, asFn_in ?_⟩
    exact hyes e H34 _ hp o34
  · refine ⟨_, pld (k := 1) hs2 rfl m3 rfl, cond_of (fun e2 => ?_) fun e2 => ?_⟩
    · have e2 : no = 0 := by simpa using e2
      refine ⟨_, o20.box m1, asAddr_in (rnext_s o20 (.freeBegin m1) rfl fun H44 o44 => hno e H44 _ hp ?_)⟩
      rw [if_pos e2]; exact o44
    · have e2 : no ≠ 0 := by simpa using e2
      refine ⟨_, o20.box m1, _, o20.box m1, asAddr_in (rnext_s o20 .begin rfl fun H49 o49 => hno e H49 _ hp ?_)⟩
      rw [if_neg e2]; exact o49
theorem n_stillNo {g : Nat} (h1 : b1 g (P r) ∈ PL) (h : Rk H PL r c q X L) (hR : Go R PL r c L fun b => doNx c .stillNo q X.G b) : CA en F.hash_Run_search_1 [P g] H R := by
  apply vc_hash_Run_search_1
  refine asAddr_in ⟨_, h.box h1, still_s (no := 2) (key := 0) h (fun e H' PL' hp o => ⟨Option.isSome_iff_exists.1 (by kernel_rfl), ?_⟩) fun e H' PL' hp o => ⟨rfl, hR H' PL' (X.to (q.still c X.G.S).2) (0, 0, 0) hp rfl ?_⟩⟩
  · show CA en F.hash_Run_search_1_1 [P g] H' _
    apply vc_hash_Run_search_1_1
    refine asAddr_in ⟨_, o.box (hp _ h1), asAddr_in (rset_s (q' := { q.give 2 [] 0 0 with dn := true }) o (Nat.le_of_ble_eq_true rfl) rfl rfl rfl (fun _ _ => rfl) fun H6 o6 => ⟨rfl, rfl, hR H6 PL' (X.to (q.still c X.G.S).2) (0, 0, 0) hp rfl ?_⟩)⟩
    show Rk H6 PL' r c (if (q.still c X.G.S).1 then _ else _) _ L
    rw [if_pos e]; exact o6
  · show Rk H' PL' r c (if (q.still c X.G.S).1 then _ else _) _ L
    rw [if_neg (by rw [e]; exact Bool.false_ne_true)]; exact o
theorem n_stillKey {g : Nat} (h1 : b1 g (P r) ∈ PL) (h : Rk H PL r c q X L) (hR : Go R PL r c L fun b => doNx c .stillKey q X.G b) : CA en F.hash_Run_search_2_1_2 [P g] H R := by
  apply vc_hash_Run_search_2_1_2
  have hb := h.bump 9
  refine asAddr_in ⟨_, hb.box h1, asAddr_in ⟨_, hb.box h1, asAddr_in ⟨_, hb.fld 19 (fun _ _ => rfl), asAddr_in ⟨_, hb.box h1, ?_⟩⟩⟩⟩
  refine still_s (no := 0) (key := q.key) hb (fun e H' PL' hp o => ⟨Option.isSome_iff_exists.1 (by kernel_rfl), ?_⟩) fun e H' PL' hp o => ⟨rfl, hR H' PL' (X.to (q.still c X.G.S).2) (0, 0, 0) hp rfl ?_, trivial⟩
  · show CA en F.hash_Run_away [P r] H' _
    refine raway_s o fun H6 o6 => ⟨rfl, rfl, hR H6 PL' (X.to (q.still c X.G.S).2) (0, 0, 0) hp rfl ?_, trivial⟩
    show Rk H6 PL' r c (if (q.still c X.G.S).1 then _ else _) _ L
    rw [if_pos e]; exact o6
  · show Rk H' PL' r c (if (q.still c X.G.S).1 then _ else _) _ L
    rw [if_neg (by rw [e]; exact Bool.false_ne_true)]; exact o
theorem n_link {g : Nat} (h1 : b1 g (P r) ∈ PL) (h : Rk H PL r c q X L) (hR : Go R PL r c L fun b => doNx c .link q X.G b) : CA en F.hash_Run_add_1 [P g] H R := by
  apply vc_hash_Run_add_1
  have hb := h.bump 23
  refine asAddr_in ⟨_, hb.box h1, asAddr_in ⟨_, hb.fld 0 (fun _ _ => rfl), asAddr_in ⟨_, hb.xf 0 rfl, asAddr_in ⟨_, hb.box h1, asAddr_in ⟨_, hb.fld 15 (fun _ _ => rfl), asAddr_in ⟨_, hb.box h1, asAddr_in ⟨_, hb.fld 16 (fun _ _ => rfl), asAddr_in ⟨_, hb.box h1, asAddr_in ⟨_, hb.fld 18 (fun _ _ => rfl), ?_⟩⟩⟩⟩⟩⟩⟩⟩⟩
  rw [wrap_u64]
  refine rstore_s hb fun H29 o29 => ⟨_, rfl, ⟨asAddr_in ⟨_, o29.box h1, asAddr_in ⟨_, o29.box h1, asAddr_in (rnext_s o29 .leave rfl fun H39 o39 => ?_)⟩⟩, trivial⟩⟩
  exact hR H39 PL _ (0, 0, 0) (fun _ h => h) rfl o39
theorem n_drop (h : Rk H PL r c q X L) (hR : Go R PL r c L fun b => doNx c .drop q X.G b) : CA en F.hash_Run_drop [P r] H R := by
  obtain ⟨sa, nv, hrv, hnv, hs⟩ := h.ex
  apply vc_hash_Run_drop
  refine Sep.nw hs fun i1 H2 h2 => ⟨_, Sep.ld0 h2 rfl, ?_⟩
  apply vc_hash_Run_change
  refine Sep.nw h2 fun i3 H4 h4 => Sep.nw h4 fun i5 H6 h6 => ⟨_, rfl, asFn_in ⟨Option.isSome_iff_exists.1 (by kernel_rfl), ?_⟩⟩
  have o6 := Rk.ins [b1 i5 (.func (.func F.hash_Run_drop_1) #[] #[P i1]), b1 i3 (P r), b1 i1 (P r)] hrv hnv h6
  have hp := sub_r (A := PL) (fun _ h => h) [b1 i5 (.func (.func F.hash_Run_drop_1) #[] #[P i1]), b1 i3 (P r), b1 i1 (P r)]
  show CA en F.hash_Run_change_1 [P i3, P i5] H6 _
  refine n_change (f := .drop) (v := .func (.func F.hash_Run_drop_1) #[] #[P i1]) (R := fun v10 H11 => v10 = undef ∧ R undef H11) (by simp) (by simp) (.drop (g := i1) (by simp)) o6 fun H' PL' X' b hp2 e o => ⟨rfl, hR H' PL' X' b (sub_t hp hp2) e o⟩
theorem taking_s {a : Aw} {va : Value} (ha : AwV PL r a va) (h : Rk H PL r c q X L)
    (hR : ∀ H' PL', (∀ A ∈ PL, A ∈ PL') → Rk H' PL' r c (q.to (.change (.take a))) (X.to (X.G.S.acc c.h 0 true (addF tick)).2) L → R undef H') : CA en F.hash_Run_taking [P r, va] H R := by
  obtain ⟨sa, nv, hrv, hnv, hs⟩ := h.ex
  obtain ⟨f, l, cs, rfl⟩ := ha.fn
  apply vc_hash_Run_taking
  refine Sep.nw hs fun i1 H2 h2 => Sep.nw h2 fun i3 H4 h4 => ?_
  have hb := (Rk.ins [b1 i3 (.func (.func f) ⟨l⟩ ⟨cs⟩), b1 i1 (P r)] hrv hnv h4).bump 15
  have hp := sub_r (A := PL) (fun _ h => h) [b1 i3 (.func (.func f) ⟨l⟩ ⟨cs⟩), b1 i1 (P r)]
  have m1 : b1 i1 (P r) ∈ [b1 i3 (.func (.func f) ⟨l⟩ ⟨cs⟩), b1 i1 (P r)] ++ PL := .tail _ (.head _)
  have m3 : b1 i3 (.func (.func f) ⟨l⟩ ⟨cs⟩) ∈ [b1 i3 (.func (.func f) ⟨l⟩ ⟨cs⟩), b1 i1 (P r)] ++ PL := .head _
  refine ⟨_, hb.box m1, asAddr_in ⟨_, hb.fld 0 (fun _ _ => rfl), asAddr_in ⟨_, hb.xf 0 rfl, _, hb.box m1, asAddr_in ⟨_, hb.fld 0 (fun _ _ => rfl), asAddr_in ⟨_, hb.xf 7 rfl, ?_⟩⟩⟩⟩⟩
  refine rfetch_s (mask := ones) (v := tick) hb fun H20 o20 => ⟨_, _, rfl, ⟨?_, trivial⟩⟩
  have oB := o20.bump 7
  refine ⟨_, oB.box m1, _, oB.box m1, ?_⟩
  apply vc_hash_Run_change
  obtain ⟨sa2, nv2, hrv2, hnv2, hs2⟩ := oB.ex
  refine Sep.nw hs2 fun i5 H22 h22 => Sep.nw h22 fun i7 H24 h24 => ⟨_, rfl, ?_⟩
  have o24 := Rk.ins [b1 i7 (.func (.func F.hash_Run_taking_1) #[] #[P i1, P i3]), b1 i5 (P r)] hrv2 hnv2 h24
  have hq := sub_r (A := [b1 i3 (.func (.func f) ⟨l⟩ ⟨cs⟩), b1 i1 (P r)] ++ PL) (fun _ h => h) [b1 i7 (.func (.func F.hash_Run_taking_1) #[] #[P i1, P i3]), b1 i5 (P r)]
  refine asAddr_in (asCells_nx (rnext_s o24 (.change (f := .take a) (v := .func (.func F.hash_Run_taking_1) #[] #[P i1, P i3]) (g := i5) (g2 := i7) (by simp) (by simp) (.take (hq _ m1) (hq _ m3) ha.mono)) rfl fun H30 o30 => ⟨?_, ⟨⟨_, oB.box m1, rfl⟩, ⟨_, o24.box (hq _ m1), rfl⟩, trivial⟩, trivial⟩))
  exact hR H30 _ (sub_t hp hq) o30
theorem n_take (h : Rk H PL r c q X L) (hR : Go R PL r c L fun b => doNx c .take q X.G b) : CA en F.hash_Run_take [P r] H R := by
  apply vc_hash_Run_take
  exact taking_s .away h fun H' PL' hp o => ⟨rfl, hR H' PL' (X.to (X.G.S.acc c.h 0 true (addF tick)).2) (0, 0, 0) hp rfl o⟩
theorem fdiv_tick (w : Wd) : (Int.fdiv (w.toNat : Int) 4294967296 == 0) = decide (w >>> 32 = 0) := by
  have e1 : Int.fdiv (w.toNat : Int) 4294967296 = ((w.toNat / 4294967296 : Nat) : Int) := by
    rw [Int.fdiv_eq_ediv_of_nonneg _ (by decide)]; rfl
  have e2 : (w >>> 32 = 0) ↔ w.toNat / 4294967296 = 0 := by
    rw [← BitVec.toNat_inj, BitVec.toNat_ushiftRight, Nat.shiftRight_eq_div_pow]; rfl
  rw [e1, Bool.eq_iff_iff, decide_eq_true_iff, e2, beq_iff_eq]
  omega
theorem n_space (h : Rk H PL r c q X L) (hR : Go R PL r c L fun b => doNx c .space q X.G b) : CA en F.hash_Run_space [P r] H R := by
  apply vc_hash_Run_space
  have hb := h.bump 20
  refine asAddr_in ⟨_, hb.fld 0 (fun _ _ => rfl), asAddr_in ⟨_, hb.xf 0 rfl, asAddr_in ⟨_, hb.fld 0 (fun _ _ => rfl), asAddr_in ⟨_, hb.xf 7 rfl, ?_⟩⟩⟩⟩
  refine rload_s hb fun H14 o14 => ⟨_, _, rfl, ⟨?_, trivial⟩⟩
  obtain ⟨Y, hY⟩ : ∃ Y, Y = X.to (X.G.S.acc c.h 0 true id).2 := ⟨_, rfl⟩
  rw [← hY] at o14
  have hR : ∀ H' X', X'.G = (q.space c (X.G.S.acc c.h 0 true id).1.1 Y.G).2 → Rk H' PL r c (q.space c (X.G.S.acc c.h 0 true id).1.1 Y.G).1 X' L → R undef H' := fun H' X' e o => hR H' PL X' (0, 0, 0) (fun _ h => h) (by rw [e, hY]; rfl) (by rw [hY] at o; exact o)
  generalize (X.G.S.acc c.h 0 true id).1.1 = w at hR
  have e0 : IntKind.u64.wrap ((BitVec.ofInt 64 (w.toNat : Int) &&& BitVec.ofInt 64 4294967295).toNat : Int) = ((w &&& lowM).toNat : Int) := by rw [wrap_bv, ofInt_bv]; rfl
  rw [e0]
  unfold Qr.space at hR
  refine asAddr_in (rset_s (q' := { q with was := w &&& lowM }) o14 (Nat.le_of_ble_eq_true rfl) rfl rfl rfl (fun _ _ => rfl) fun H19 o19 => ?_)
  have oB := o19.bump 22
  have oC := oB.bump 15
  have oD := oC.bump 12
  refine asAddr_in ⟨_, oB.fld 20 (fun _ _ => rfl), asAddr_in ⟨_, oB.fld 0 (fun _ _ => rfl), asAddr_in ⟨_, oB.xf 3 rfl, ?_⟩⟩⟩
  rw [wrap_u64]
  refine cond_of (fun e => ?_) fun e => ?_
  · have e' : (w &&& lowM).toNat < (BitVec.ofInt 64 c.d1).toNat := Int.ofNat_lt.1 (of_decide_eq_true e)
    rw [if_pos e'] at hR
    refine asAddr_in ⟨_, oB.fld 18 (fun _ _ => rfl), ⟨?_, trivial⟩⟩
    refine cond_of (fun d => ?_) fun d => ?_
    · have d : q.made = 0 := by simpa using d
      exact asAddr_in (rnext_s oB .make rfl fun H34 o34 => hR H34 Y rfl (by rw [if_pos d]; exact o34))
    · have d : q.made ≠ 0 := by simpa using d
      refine asAddr_in ⟨_, oC.fld 20 (fun _ _ => rfl), asAddr_in ⟨_, oC.fld 0 (fun _ _ => rfl), asAddr_in ⟨_, oC.xf 3 rfl, ⟨?_, trivial⟩⟩⟩⟩
      rw [wrap_u64]
      exact cond_yes e (asAddr_in (rnext_s oC (.after .add) rfl fun H34 o34 => hR H34 Y rfl (by rw [if_neg d]; exact o34)))
  · have e' : ¬ (w &&& lowM).toNat < (BitVec.ofInt 64 c.d1).toNat := fun h => of_decide_eq_false e (Int.ofNat_lt.2 h)
    rw [if_neg e'] at hR
    refine ⟨asAddr_in ⟨_, oC.fld 20 (fun _ _ => rfl), asAddr_in ⟨_, oC.fld 0 (fun _ _ => rfl), asAddr_in ⟨_, oC.xf 3 rfl, ⟨?_, trivial⟩⟩⟩⟩, trivial⟩
    rw [wrap_u64]
    refine cond_no e ⟨by unfold nn; decide, ?_⟩
    rw [fdiv_tick]
    refine cond_of (fun d => ?_) fun d => ?_
    · have d : w >>> 32 = 0 := of_decide_eq_true d
      rw [if_pos d] at hR
      refine asAddr_in ⟨_, oC.fld 18 (fun _ _ => rfl), cond_of (fun g => ?_) fun g => ?_⟩
      · have g : 0 < q.made := by have := of_decide_eq_true g; omega
        rw [if_pos g] at hR
        refine asAddr_in ⟨_, oD.fld 0 (fun _ _ => rfl), asAddr_in ⟨_, oD.xf 0 rfl, asAddr_in ⟨_, oD.fld 18 (fun _ _ => rfl), ?_⟩⟩⟩
        exact rfree_s oD fun H60 o60 => ⟨_, rfl, ⟨rfail_s o60 fun H63 o63 => ⟨rfl, hR H63 (Y.to (Y.G.S.free q.made).2) rfl o63⟩, trivial⟩⟩
      · have g : ¬ 0 < q.made := by have := of_decide_eq_false g; omega
        rw [if_neg g] at hR
        exact rfail_s oC fun H65 o65 => ⟨rfl, hR H65 Y rfl o65⟩
    · have d : ¬ w >>> 32 = 0 := of_decide_eq_false d
      rw [if_neg d] at hR
      exact hR _ Y rfl oC
theorem asCells_sl {a : Option Addr} {n i o : Nat} {K : Heap → Prop} (h : stc H i o [.slice a n 0] K) : AS.asCells (.slice a n 0) fun vs => bif Nat.beq vs.length 1 then stc H i o vs K else False := h
theorem n_make (hf : X.G.S.fresh) (h : Rk H PL r c q X L) (hR : Go R PL r c L fun b => doNx c .make q X.G b) : CA en F.hash_Run_make [P r] H R := by
  obtain ⟨sa, nv, hrv, hnv, hs⟩ := h.ex
  apply vc_hash_Run_make
  refine Sep.nw hs fun i1 H2 h2 => ?_
  have o2 := Rk.ins [b1 i1 (P r)] hrv hnv h2
  have hp := sub_r (A := PL) (fun _ h => h) [b1 i1 (P r)]
  have m1 : b1 i1 (P r) ∈ [b1 i1 (P r)] ++ PL := .head _
  refine ⟨_, o2.box m1, asAddr_in ⟨_, o2.fld 0 (fun _ _ => rfl), asAddr_in ⟨_, o2.xf 0 rfl, ?_⟩⟩⟩
  refine rmake_s o2 hf fun H11 b o11 => ⟨_, _, rfl, ?_⟩
  have hR := fun H' PL' X' gw bw => hR H' PL' X' (b, gw, bw)
  simp only [doNx] at hR
  generalize hmk : X.G.S.make b 3 = mk at hR o11
  obtain ⟨sa2, nv2, hrv2, hnv2, hs2⟩ := o11.ex
  refine Sep.nw hs2 fun i14 H15 h15 => Sep.st0 h15 (Nat.le_of_ble_eq_true rfl) fun H16 h16 => ?_
  have o16 := Rk.ins [b1 i14 (I mk.1.1)] hrv2 hnv2 h16
  have hq := sub_r (A := [b1 i1 (P r)] ++ PL) (fun _ h => h) [b1 i14 (I mk.1.1)]
  refine cond_of (fun e => ?_) fun e => ?_
  · have e : mk.1.2 ≠ 0 := by simpa using e
    refine ⟨_, o16.box (hq _ m1), rfail_s o16 fun H19 o19 => ⟨rfl, hR H19 _ (X.to mk.2) 0 0 (sub_t hp hq) ?_ ?_⟩⟩
    · rw [if_pos e]; rfl
    · rw [if_pos e]; exact o19
  · have e : ¬ mk.1.2 ≠ 0 := by simpa using e
    refine ⟨_, o16.box (hq _ m1), _, o16.box (.head _), asAddr_in (rset_s (q' := { q with made := mk.1.1 }) o16 (Nat.le_of_ble_eq_true rfl) rfl rfl rfl (fun _ _ => rfl) fun H24 o24 => ?_)⟩
    obtain ⟨sa3, nv3, hrv3, hnv3, hs3⟩ := o24.ex
    have hF := hs3.fore1 (n := 17) (a := 15) (.cells true 0 [.slice none 0 0]) (by decide)
    generalize H24.next + 15 = gw at hF ⊢
    -- gw rA PL xA gr T
    refine ⟨_, pld (k := 2) hF rfl (hq _ m1) rfl, asAddr_in ⟨_, Sep.ld1 hF rfl, _, pld (k := 2) hF rfl (hq _ m1) rfl, asAddr_in ⟨_, Sep.ld1 hF rfl, _, pld (k := 2) hF rfl (hq _ m1) rfl, asAddr_in ⟨_, Sep.ld1 hF rfl, ?_⟩⟩⟩⟩
    refine Sep.nw hF fun bw H38 h38 => Sep.st1 h38 (Nat.le_of_ble_eq_true rfl) fun H39 h39 => ⟨⟨_, pld (k := 3) h39 rfl (hq _ m1) rfl, asAddr_in (Sep.st2 h39 (Nat.le_of_ble_eq_true rfl) fun H45 h45 => ?_)⟩, ⟨⟨_, Sep.get0 hF, rfl⟩, ⟨_, Sep.get1 h38, rfl⟩, trivial⟩, trivial⟩
    refine hR H45 ([b1 i14 (I mk.1.1)] ++ ([b1 i1 (P r)] ++ PL)) (X.to mk.2) gw bw (sub_t hp hq) (by rw [if_neg e]; rfl) ?_
    rw [if_neg e]
    refine ⟨sa3, .func (.func F.hash_Run_make_1) #[] #[P gw, P i1, P i14], hrv3, .words (hq _ m1) (.head _) ⟨by decide, by simp, by simp⟩, ?_⟩
    have h46 : Sep H45 (many (tkL c q.nx) :: bx bw (.cells true 1 [.int .u64 (IntKind.u64.wrap q.cur), W q.ky, W q.val]) :: bx gw (.cells true 0 [.slice (some ⟨bw, 0, none⟩) 3 0]) :: rA r c ({ q with made := mk.1.1 }.to (.words gw bw mk.1.1 [BitVec.ofInt 64 q.cur, q.ky, q.val] 3)) sa3 (.func (.func F.hash_Run_make_1) #[] #[P gw, P i1, P i14]) ::
        many ([b1 i14 (I mk.1.1)] ++ ([b1 i1 (P r)] ++ PL)) :: xA c :: grA c.g c.m (X.to mk.2) :: L) := Sep.pick h45 7 [6, 0, 1, 2, 3, 4, 5] (by decide)
    rw [wrap_u64] at h46
    have h47 : Sep H45 (many [bx gw (.cells true 0 [.slice (some ⟨bw, 0, none⟩) 3 0]), bx bw (.cells true 1 ([BitVec.ofInt 64 q.cur, q.ky, q.val].map W))] :: rA r c ({ q with made := mk.1.1 }.to (.words gw bw mk.1.1 [BitVec.ofInt 64 q.cur, q.ky, q.val] 3)) sa3 (.func (.func F.hash_Run_make_1) #[] #[P gw, P i1, P i14]) ::
        many ([b1 i14 (I mk.1.1)] ++ ([b1 i1 (P r)] ++ PL)) :: xA c :: grA c.g c.m (X.to mk.2) :: L) := Sep.many_iff.2 (Sep.pick h46.tail 2 [1, 0] (by decide))
    exact Sep.pick h47 5 [1, 2, 3, 4, 0] (by decide)
theorem n_words {gw bw g gh n : Nat} {hh : Int} {all : List Wd} (hx : q.nx = .words gw bw hh all n) (hn : 1 ≤ n ∧ n ≤ all.length ∧ all.length ≤ 3) (h1 : b1 g (P r) ∈ PL) (h2 : b1 gh (I hh) ∈ PL) (h : Rk H PL r c q X L) (hR : Go R PL r c L fun b => doNx c (.words gw bw hh all n) q X.G b) :
    CA en F.hash_Run_make_1 [P gw, P g, P gh] H R := by
  apply vc_hash_Run_make_1
  obtain ⟨sa, nv, hrv, hnv, hs⟩ := h.ex
  rw [hx] at hs hnv
  have hs : Sep H (rA r c q sa nv :: many PL :: xA c :: grA c.g c.m X :: many [bx gw (.cells true 0 [.slice (some ⟨bw, 0, none⟩) n 0]), bx bw (.cells true 1 (all.map W))] :: L) := hs
  have h4 : Sep H (bx gw (.cells true 0 [.slice (some ⟨bw, 0, none⟩) n 0]) :: bx bw (.cells true 1 (all.map W)) :: rA r c q sa nv :: many PL :: xA c :: grA c.g c.m X :: L) := Sep.many_iff.1 (Sep.pick hs 5 [4, 0, 1, 2, 3] (by decide))
  have en1 : IntKind.i64.wrap ((n : Int) - 1) = ((n - 1 : Nat) : Int) := by rw [wrap_i64 (by omega)]; omega
  have hB := h4.bump 14
  refine asAddr_in ⟨_, _, Sep.ld0 h4 rfl, asAddr_in ⟨_, pld (k := 3) hB rfl h1 rfl, asAddr_in ⟨_, Sep.ld2 hB rfl, asAddr_in ⟨_, Sep.ld4 hB rfl, asAddr_in ⟨_, pld (k := 3) hB rfl h2 rfl, asAddr_in ⟨_, _, Sep.ld0 hB rfl, ?_⟩⟩⟩⟩⟩⟩
  rw [en1]
  refine ⟨by unfold inB; omega, asRow_in ⟨((all.getD (n - 1) 0).toNat : Int), Sep.ld1 hB ?_, ?_⟩⟩
  · rw [Nat.zero_add, Int.toNat_natCast, Nat.mul_one, List.getElem?_map, List.getElem?_eq_getElem (by omega), List.getD_eq_getElem?_getD, List.getElem?_eq_getElem (by omega)]; rfl
  refine gstore_s (Sep.up5 hB) fun H25 h25 => ⟨_, rfl, ⟨?_, trivial⟩⟩
  -- gr gw bw rA PL xA
  refine asAddr_in ⟨_, _, Sep.ld1 h25 rfl, by unfold inS; omega, ⟨⟨_, _, _, Sep.get2 h25, .inr rfl⟩, asAddr_in (asCells_sl (Sep.st1 h25 (Nat.le_of_ble_eq_true rfl) fun H34 h34 => ?_))⟩⟩
  rw [Int.toNat_natCast] at h34
  have hR := fun H' PL' b => hR H' PL' (X.to (X.G.S.acc hh ((n - 1 : Nat) : Int) true fun _ => all.getD (n - 1) 0).2) b
  simp only [doNx] at hR
  refine cond_of (fun e => ?_) fun e => ?_
  · have e : n = 1 := by simp at e; omega
    have h35 : Sep H34 (rA r c q sa nv :: many PL :: xA c :: grA c.g c.m (X.to (X.G.S.acc hh ((n - 1 : Nat) : Int) true fun _ => all.getD (n - 1) 0).2) :: many [bx gw (.cells true 0 [.slice (some ⟨bw, 0 + 0 * 1, none⟩) (n - 1) 0]), bx bw (.cells true 1 (all.map W))] :: L) := by
      have := Sep.pick h34 6 [1, 2, 3, 4, 5, 0] (by decide)
      have h36 := (Sep.many_iff (L := [bx gw (.cells true 0 [.slice (some ⟨bw, 0 + 0 * 1, none⟩) (n - 1) 0]), bx bw (.cells true 1 (all.map W))])).2 this
      exact Sep.pick h36 5 [1, 2, 3, 4, 0] (by decide)
    have oB : Rk (H34.bump 8) PL r c (q.to .none) (X.to (X.G.S.acc hh ((n - 1 : Nat) : Int) true fun _ => all.getD (n - 1) 0).2) L := ⟨sa, nv, hrv, .none, dropT (h35.bump 8)⟩
    refine asAddr_in ⟨_, oB.box h1, asAddr_in ⟨_, oB.box h1, asAddr_in ⟨_, oB.box h1, ?_⟩⟩⟩
    apply vc_hash_Run_change
    obtain ⟨sa2, nv2, hrv2, hnv2, hs2⟩ := oB.ex
    refine Sep.nw hs2 fun i5 H22 h22 => Sep.nw h22 fun i7 H24 h24 => ⟨_, rfl, ?_⟩
    have o24 := Rk.ins [b1 i7 (bound F.hash_Run_add r), b1 i5 (P r)] hrv2 hnv2 h24
    have hq := sub_r (A := PL) (fun _ h => h) [b1 i7 (bound F.hash_Run_add r), b1 i5 (P r)]
    refine asAddr_in (asCells_nx (rnext_s o24 (.change (f := .add) (v := bound F.hash_Run_add r) (g := i5) (g2 := i7) (by simp) (by simp) .add) rfl fun H30 o30 => ⟨?_, ⟨asAddr_in ⟨_, oB.box h1, rfl⟩, asAddr_in ⟨_, o24.box (hq _ h1), rfl⟩, trivial⟩, trivial⟩))
    exact hR H30 _ (0, 0, 0) hq rfl (by rw [if_pos e]; exact o30)
  · have e : n ≠ 1 := by simp at e; omega
    refine hR H34 PL (0, 0, 0) (fun _ h => h) rfl ?_
    rw [if_neg e]
    cases hnv with
    | @words _ _ g' gh' _ _ _ w1 w2 w3 =>
    refine ⟨sa, .func (.func F.hash_Run_make_1) #[] #[P gw, P g', P gh'], hrv, .words w1 w2 ⟨by omega, by omega, by omega⟩, ?_⟩
    have := Sep.pick h34 6 [1, 2, 3, 4, 5, 0] (by decide)
    have h36 := (Sep.many_iff (L := [bx gw (.cells true 0 [.slice (some ⟨bw, 0 + 0 * 1, none⟩) (n - 1) 0]), bx bw (.cells true 1 (all.map W))])).2 this
    exact Sep.pick h36 5 [1, 2, 3, 4, 0] (by decide)
theorem step_s (h : Rk H PL r c q X L) (hl : X.G.q.length < 10000) (hf : X.G.S.fresh) (hn : q.dn = false → q.nx ≠ .none) (hd3 : c.d3 < 9223372036854775808)
    (hR : ∀ H' PL' X' b, (∀ A ∈ PL, A ∈ PL') → X'.G = (q.step c X.G b).2 → Rk H' PL' r c (q.step c X.G b).1 X' L → R (.tuple #[.bool (q.tells (q.step c X.G b).1).1, .bool (q.tells (q.step c X.G b).1).2]) H') : CA en F.hash_Run_Step [P r] H R := by
  apply vc_hash_Run_Step
  refine asAddr_in ⟨_, h.fld 9 (fun _ _ => rfl), cond_of (fun d => ?_) fun d => ?_⟩
  · have e : ∀ b, q.step c X.G b = (q, X.G) := fun b => by unfold Qr.step; rw [if_pos d]
    have := hR H PL X (0, 0, 0) (fun _ h => h) (by rw [e]) (by rw [e]; exact h)
    unfold Qr.tells at this
    rw [if_pos d] at this
    exact this
  have e : ∀ b, q.step c X.G b = doNx c q.nx { q with eff := false } X.G b := fun b => by
    unfold Qr.step; rw [if_neg (by rw [d]; exact Bool.false_ne_true)]
  refine asAddr_in (rset_s (q' := { q with eff := false }) h (Nat.le_of_ble_eq_true rfl) rfl rfl rfl (fun _ _ => rfl) fun H6 o6 => asAddr_in ?_)
  have fin : ∀ H' PL' X' b, (∀ A ∈ PL, A ∈ PL') → X'.G = (doNx c q.nx { q with eff := false } X.G b).2 → Rk H' PL' r c (doNx c q.nx { q with eff := false } X.G b).1 X' L →
      (undef = undef ∧ AS.asAddr (.pointer (some ⟨r, 0, none⟩)) fun i15 i16 => ∃ b17, (H'.bump 10).cell i15 (i16 + 8) = some (.bool b17) ∧ AS.asAddr (.pointer (some ⟨r, 0, none⟩)) fun i18 i19 => ∃ b20, (H'.bump 10).cell i18 (i19 + 9) = some (.bool b20) ∧ ((R (.tuple #[(.bool b17), (.bool b20)]) (H'.bump 10)) ∧ True)) := by
    intro H' PL' X' b hp e1 o
    have oB := o.bump 10
    refine ⟨rfl, asAddr_in ⟨_, oB.fld 8 (fun _ _ => rfl), asAddr_in ⟨_, oB.fld 9 (fun _ _ => rfl), ⟨?_, trivial⟩⟩⟩⟩
    have := hR _ PL' X' b hp (by rw [e]; exact e1) (by rw [e]; exact oB)
    unfold Qr.tells at this
    rw [if_neg (by rw [d]; exact Bool.false_ne_true), e] at this
    exact this
  obtain ⟨sa, nv, hrv, hnv, hs⟩ := o6.ex
  have l7 : H6.cell r (0 + 7) = some nv := Sep.ld0 hs rfl
  refine ⟨_, l7, ?_⟩
  have hnv : NV PL r q.ky q.nx nv := hnv
  have hn := hn d
  clear hs l7 hrv h hR
  obtain ⟨q0, hq0, hx0⟩ : ∃ q0 : Qr, q0 = { q with eff := false } ∧ q0.nx = q.nx := ⟨_, rfl, rfl⟩
  have ek : q0.ky = q.ky := by rw [hq0]
  rw [← hq0] at o6 fin
  rw [← ek] at hnv
  clear hq0 ek e
  generalize q.nx = nx at hnv fin hn hx0
  cases hnv with
  | none => exact absurd rfl hn
  | enter h1 h2 hk h3 => exact asFn_in ⟨Option.isSome_iff_exists.1 (by kernel_rfl), n_enter (q := q0) (R := _) hx0 h1 h2 hk h3 o6 fin⟩
  | th hk => exact n_th (q := q0) (R := _) hk o6 fin
  | load hk => exact asFn_in ⟨Option.isSome_iff_exists.1 (by kernel_rfl), n_load (q := q0) (R := _) hk o6 fin⟩
  | ask hk => exact asFn_in ⟨Option.isSome_iff_exists.1 (by kernel_rfl), n_ask (q := q0) (R := _) hk o6 fin⟩
  | set => exact asFn_in ⟨Option.isSome_iff_exists.1 (by kernel_rfl), n_set (q := q0) (R := _) o6 fin⟩
  | look => exact asFn_in ⟨Option.isSome_iff_exists.1 (by kernel_rfl), n_look (q := q0) (R := _) o6 fin⟩
  | space => exact asFn_in ⟨Option.isSome_iff_exists.1 (by kernel_rfl), n_space (q := q0) (R := _) o6 fin⟩
  | make => exact asFn_in ⟨Option.isSome_iff_exists.1 (by kernel_rfl), n_make (q := q0) (R := _) hf o6 fin⟩
  | words h1 h2 hw => exact asFn_in ⟨Option.isSome_iff_exists.1 (by kernel_rfl), n_words (q := q0) (R := _) hx0 hw h1 h2 o6 fin⟩
  | change h1 h2 hf2 => exact asFn_in ⟨Option.isSome_iff_exists.1 (by kernel_rfl), n_change (q := q0) (R := _) h1 h2 hf2 o6 fin⟩
  | after hf2 =>
    cases hf2 with
    | add => exact asFn_in ⟨Option.isSome_iff_exists.1 (by kernel_rfl), n_add (q := q0) (R := _) o6 fin⟩
    | drop h1 => exact asFn_in ⟨Option.isSome_iff_exists.1 (by kernel_rfl), n_drop1 (q := q0) (R := _) h1 o6 fin⟩
    | take h1 h2 ha => exact asFn_in ⟨Option.isSome_iff_exists.1 (by kernel_rfl), n_taking1 (q := q0) (R := _) h1 h2 ha o6 fin⟩
  | link h1 => exact asFn_in ⟨Option.isSome_iff_exists.1 (by kernel_rfl), n_link (q := q0) (R := _) h1 o6 fin⟩
  | drop => exact asFn_in ⟨Option.isSome_iff_exists.1 (by kernel_rfl), n_drop (q := q0) (R := _) o6 fin⟩
  | take => exact asFn_in ⟨Option.isSome_iff_exists.1 (by kernel_rfl), n_take (q := q0) (R := _) o6 fin⟩
  | unl1 h1 h2 ha => exact asFn_in ⟨Option.isSome_iff_exists.1 (by kernel_rfl), n_unl1 (q := q0) (R := _) h1 h2 ha o6 fin⟩
  | unl2 h1 h3 h2 ha => exact asFn_in ⟨Option.isSome_iff_exists.1 (by kernel_rfl), n_unl2 (q := q0) (R := _) h1 h3 h2 ha o6 hl fin⟩
  | off h1 h2 ha => exact asFn_in ⟨Option.isSome_iff_exists.1 (by kernel_rfl), n_off (q := q0) (R := _) h1 h2 ha o6 fin⟩
  | leave => exact asFn_in ⟨Option.isSome_iff_exists.1 (by kernel_rfl), n_leave (q := q0) (R := _) o6 fin⟩
  | begin => exact asFn_in ⟨Option.isSome_iff_exists.1 (by kernel_rfl), n_begin (q := q0) (R := _) o6 hd3 fin⟩
  | free h1 h3 => exact asFn_in ⟨Option.isSome_iff_exists.1 (by kernel_rfl), n_free (q := q0) (R := _) h1 h3 o6 fin⟩
  | stillNo h1 => exact asFn_in ⟨Option.isSome_iff_exists.1 (by kernel_rfl), n_stillNo (q := q0) (R := _) h1 o6 fin⟩
  | stillKey h1 => exact asFn_in ⟨Option.isSome_iff_exists.1 (by kernel_rfl), n_stillKey (q := q0) (R := _) h1 o6 fin⟩
  | freeBegin h1 => exact asFn_in ⟨Option.isSome_iff_exists.1 (by kernel_rfl), n_freeBegin (q := q0) (R := _) h1 o6 fin⟩
theorem Begin_s {kd fl cpu : Int} {ky : Wd} {va : Option Addr} {vs : List Wd} {n : Nat} (h : Sep H (xA c :: grA c.g c.m X :: L)) (hn : n = vs.length) (hd3 : c.d3 < 9223372036854775808)
    (hv : ∀ w, vs.head? = some w → ∃ b o, va = some ⟨b, o, none⟩ ∧ ∀ H', Sep H' L → H'.cell b o = some (W w))
    (hR : ∀ H' r PL b, Rk H' PL r c (Qr.new c kd ky fl cpu (vs.headD 0) b) X L → R (P r) H') : CA en F.hash_Map_Begin [P c.x, .agg #[I kd, W ky, .slice va n 0, I fl, I cpu]] H R := by
  subst hn
  apply vc_hash_Map_Begin
  refine Sep.nw h fun i1 H2 h2 => ⟨_, _, _, _, _, _, Sep.lds0 h2 rfl, Sep.nw h2 fun r H10 h10 => Sep.nw h10 fun i11 H12 h12 => Sep.st0 h12 (Nat.le_of_ble_eq_true rfl) fun H13 h13 => ⟨_, _, Sep.ld2 h13 rfl, ?_⟩⟩
  -- i11 r i1 xA gr L
  have go : ∀ (w : Wd) H28, w = vs.headD 0 → Sep H28 (b1 i11 (P r) :: rA r c { Qr.zero with kd := kd, ky := ky, fl := fl, cpu := cpu, val := w } none .nilFunc :: bx i1 (.cells true 0 [I kd, W ky, .slice va vs.length 0, I fl, I cpu]) :: xA c :: grA c.g c.m X :: L) →
      Rk H28 [b1 i11 (P r), bx i1 (.cells true 0 [I kd, W ky, .slice va vs.length 0, I fl, I cpu])] r c { Qr.zero with kd := kd, ky := ky, fl := fl, cpu := cpu, val := w } X L := fun w H28 ew hs => by
    refine ⟨none, .nilFunc, .inl ⟨rfl, rfl⟩, .none, ?_⟩
    have h1 : Sep H28 (many [] :: b1 i11 (P r) :: bx i1 (.cells true 0 [I kd, W ky, .slice va vs.length 0, I fl, I cpu]) :: rA r c { Qr.zero with kd := kd, ky := ky, fl := fl, cpu := cpu, val := w } none .nilFunc :: xA c :: grA c.g c.m X :: L) := Sep.many0 (Sep.pick hs 5 [0, 2, 1, 3, 4] (by decide))
    have h2 : Sep H28 (many [b1 i11 (P r), bx i1 (.cells true 0 [I kd, W ky, .slice va vs.length 0, I fl, I cpu])] :: many [] :: rA r c { Qr.zero with kd := kd, ky := ky, fl := fl, cpu := cpu, val := w } none .nilFunc :: xA c :: grA c.g c.m X :: L) := Sep.many_iff.2 (Sep.pick h1 6 [1, 2, 0, 3, 4, 5] (by decide))
    exact Sep.pick h2 5 [2, 0, 3, 4, 1] (by decide)
  have rest : ∀ (w : Wd) H28, w = vs.headD 0 → Rk H28 [b1 i11 (P r), bx i1 (.cells true 0 [I kd, W ky, .slice va vs.length 0, I fl, I cpu])] r c { Qr.zero with kd := kd, ky := ky, fl := fl, cpu := cpu, val := w } X L →
      ∃ n29, H28.cell i1 0 = some (I n29) ∧ bif (n29 == 4) then (∃ a30, H28.cell i11 0 = some (.pointer a30) ∧ ∃ a31, H28.cell i11 0 = some (.pointer a31) ∧ AS.asAddr (.pointer a30) fun i32 i33 => stc H28 i32 (i33 + 7) [(.func (.func F.hash_Run_begin) #[(.pointer a31)] #[])] fun H34 => ∃ a35, H34.cell i11 0 = some (.pointer a35) ∧ R (.pointer a35) H34)
      else (∃ a36, (H28.bump 11).cell i11 0 = some (.pointer a36) ∧ ∃ n37, (H28.bump 11).cell i1 1 = some (.int .u64 n37) ∧ AS.asAddr (P c.x) fun i38 i39 => ∃ n40, (H28.bump 11).cell i38 ((i39 + 2) + 3) = some (I n40) ∧
        CA en F.decl_Bucket [(.int .u64 n37), I n40] (H28.bump 11) fun v41 H42 => ∃ n43, v41 = I n43 ∧ CA en F.hash_Run_enter [(.pointer a36), I n43, (.func (.func F.hash_Map_Begin_1) #[] #[(.pointer (some ⟨i11, 0, none⟩)), (.pointer (some ⟨i1, 0, none⟩))])] H42 fun v44 H45 => v44 = undef ∧ ((
          ∃ a48, H45.cell i11 0 = some (.pointer a48) ∧ R (.pointer a48) H45) ∧ ((∃ a47, (H28.bump 11).cell i11 0 = some (.pointer a47) ∧ a36 = a47) ∧ (∃ a46, H42.cell i11 0 = some (.pointer a46) ∧ a36 = a46) ∧ True) ∧ True)) := by
    intro w H28 ew o
    obtain ⟨sa, nv, hrv, hnv, hs⟩ := o.ex
    have m1 : b1 i11 (P r) ∈ [b1 i11 (P r), bx i1 (.cells true 0 [I kd, W ky, .slice va vs.length 0, I fl, I cpu])] := .head _
    have m2 : bx i1 (.cells true 0 [I kd, W ky, .slice va vs.length 0, I fl, I cpu]) ∈ [b1 i11 (P r), bx i1 (.cells true 0 [I kd, W ky, .slice va vs.length 0, I fl, I cpu])] := .tail _ (.head _)
    refine ⟨_, pld (k := 1) hs rfl m2 rfl, cond_of (fun e => ?_) fun e => ?_⟩
    · have e : kd = 4 := by simpa using e
      refine ⟨_, o.box m1, _, o.box m1, asAddr_in (rnext_s o .begin rfl fun H34 o34 => ⟨_, o34.box m1, hR H34 r [b1 i11 (P r), bx i1 (.cells true 0 [I kd, W ky, .slice va vs.length 0, I fl, I cpu])] 0 ?_⟩)⟩
      unfold Qr.new; rw [if_pos e, ← ew]; exact o34
    · have e : ¬ kd = 4 := by simpa using e
      have oB := o.bump 11
      refine ⟨_, oB.box m1, _, pld (k := 1) (hs.bump 11) rfl m2 rfl, asAddr_in ⟨_, oB.xf 5 rfl, ?_⟩⟩
      refine Bucket_ok hd3 ⟨_, rfl, renter_s (k := .op) oB (.op m1 ⟨_, _, _, _, m2⟩) fun H45 PL' b hp o45 => ⟨rfl, ⟨_, o45.box (hp _ m1), hR H45 r PL' b ?_⟩, ⟨⟨_, oB.box m1, rfl⟩, ⟨_, oB.box m1, rfl⟩, trivial⟩, trivial⟩⟩
      unfold Qr.new; rw [if_neg e, ← ew]; exact o45
  refine cond_of (fun e => ?_) fun e => ?_
  · have e : 0 < vs.length := by have := of_decide_eq_true e; omega
    obtain ⟨w, vs', rfl⟩ : ∃ w vs', vs = w :: vs' := by
      cases vs with
      | nil => simp at e
      | cons w vs' => exact ⟨w, vs', rfl⟩
    obtain ⟨b, o, rfl, hc⟩ := hv w rfl
    have hB := h13.bump 8
    refine ⟨_, Sep.ld0 hB rfl, _, _, Sep.ld2 hB rfl, by unfold inB; simp, ?_⟩
    show ∃ n21, (H13.bump 8).cell b o = some (.int .u64 n21) ∧ _
    refine ⟨_, hc _ (hB.drop 5), asAddr_in (Sep.st1 hB (Nat.le_of_ble_eq_true rfl) fun H24 h24 => ⟨⟨_, Sep.ld0 h24 rfl, asAddr_in (Sep.st1 h24 (Nat.le_of_ble_eq_true rfl) fun H28 h28 => ?_)⟩, trivial⟩)⟩
    exact rest w H28 rfl (go w H28 rfl h28)
  · have e : vs = [] := by
      have := of_decide_eq_false e
      exact List.eq_nil_of_length_eq_zero (by omega)
    subst e
    refine ⟨_, Sep.ld0 h13 rfl, asAddr_in (Sep.st1 h13 (Nat.le_of_ble_eq_true rfl) fun H52 h52 => ?_)⟩
    exact rest 0 H52 rfl (go 0 H52 rfl h52)
theorem clone1_s {ws : List Wd} {sa : Option Addr} (h : Sep H (many PL :: M)) (hv : RV PL ws sa)
    (hR : ∀ H' o, (o = none → ws = []) → Sep H' (gl 1 o (ws.map W) :: many PL :: M) → R (.slice (addr o) ws.length 0) H') : CA en F.slices_Clone_uint64_uint64 [.slice sa ws.length 0] H R := by
  apply vc_slices_Clone_uint64_uint64
  rcases hv with ⟨rfl, rfl⟩ | ⟨b, w, rfl, rfl, hm⟩
  · exact cond_yes rfl (hR H none (fun _ => rfl) (gl_none.2 h))
  · refine cond_no rfl (Sep.nw h fun i1 H2 h2 => ⟨[W w], rowOf_bx (h2.one1 _ hm) (by simp) rfl, ?_⟩)
    refine apd_gl (b := some i1) (cs := []) (new := [W w]) (gl_some.2 h2) (fun e => by cases e) (by decide) rfl (by simp) rfl (by simp) fun H6 o' h6 => ?_
    exact hR H6 (some o') (fun e => by cases e) h6
theorem rres_s (h : Rk H PL r c q X L)
    (hR : ∀ H' o, (o = none → q.rv = []) → Rk H' PL r c q X (gl 1 o (q.rv.map W) :: L) → R (.agg #[I q.no, .slice (addr o) q.rv.length 0, W q.rk, I q.el]) H') : CA en F.hash_Run_Result [P r] H R := by
  obtain ⟨sa, nv, hrv, hnv, hs⟩ := h.ex
  apply vc_hash_Run_Result
  refine Sep.nw hs fun i1 H2 h2 => asAddr_in ⟨_, _, _, _, _, Sep.lds1 h2 rfl, Sep.nw h2 fun i10 H11 h11 => Sep.st0 h11 (Nat.le_of_ble_eq_true rfl) fun H12 h12 => asAddr_in ⟨_, _, Sep.ld2 h12 rfl, ?_⟩⟩
  refine clone1_s (Sep.up3 h12) hrv fun H16 o ho h16 => ⟨_, _, rfl, ?_⟩
  -- o PL i10 i1 rA xA gr T
  refine Sep.st2 h16 (Nat.le_of_ble_eq_true rfl) fun H19 h19 => ⟨_, _, _, _, _, Sep.lds2 h19 rfl, ?_⟩
  refine Sep.st3 h19 (Nat.le_of_ble_eq_true rfl) fun H25 h25 => ⟨_, _, _, _, _, Sep.lds3 h25 rfl, ?_⟩
  exact hR H25 o ho ⟨sa, nv, hrv, hnv, Sep.pick h25 8 [4, 1, 5, 6, 7, 0] (by decide)⟩
end Go.Proofs.YtjggeoghlicmdaaGreat
namespace Go.Proofs.YtjggeoghlicmdaaGreat
open Go Go.AS Go.RowKit
set_option linter.unusedVariables false
abbrev View := Int → Option (List Wd)
structure El where
  h : Int
  k : Wd
def first : List El → Wd
  | [] => 0
  | e :: _ => BitVec.ofInt 64 e.h
def Link (V : View) : List El → Prop
  | [] => True
  | e :: l => (∃ v, V e.h = some [first l, e.k, v]) ∧ Link V l
def spotH (c : Lc) (l : List El) : Int := match l.getLast? with | none => c.h | some e => e.h
def spotI (i : Nat) (l : List El) : Nat := match l.getLast? with | none => 2 + 3 * i + 2 | some _ => 0
theorem Link.frame {V V' : View} : ∀ {l : List El}, Link V l → (∀ e ∈ l, V' e.h = V e.h) → Link V' l
  | [], _, _ => trivial
  | e :: l, ⟨⟨v, h1⟩, h2⟩, hf => ⟨⟨v, by rw [hf e (by simp), h1]⟩, h2.frame fun x hx => hf x (by simp [hx])⟩
theorem Link.at' {V : View} : ∀ {l1 : List El} {e : El} {l2 : List El}, Link V (l1 ++ e :: l2) → ∃ v, V e.h = some [first l2, e.k, v]
  | [], e, l2, h => h.1
  | a :: l1, e, l2, h => Link.at' (l1 := l1) h.2
theorem Link.tail {V : View} : ∀ {l1 l2 : List El}, Link V (l1 ++ l2) → Link V l2
  | [], l2, h => h
  | a :: l1, l2, h => Link.tail (l1 := l1) h.2
theorem Link.val {V V' : View} {a : Int} : ∀ {l : List El}, Link V l → (∀ h, h ≠ a → V' h = V h) → (∀ e ∈ l, e.h = a → ∀ x y z, V a = some [x, y, z] → ∃ z', V' a = some [x, y, z']) → Link V' l
  | [], _, _, _ => trivial
  | e :: l, ⟨⟨v, h1⟩, h2⟩, hf, ha => ⟨by
      by_cases e1 : e.h = a
      · have := ha e (.head _) e1 _ _ _ (e1 ▸ h1)
        rw [e1]; exact this
      · exact ⟨v, by rw [hf _ e1, h1]⟩, h2.val hf fun e he => ha e (List.mem_cons_of_mem _ he)⟩
theorem spot_mem {c : Lc} {a : El} {l : List El} : spotH c (a :: l) ∈ (a :: l).map El.h := by
  unfold spotH
  cases hg : (a :: l).getLast? with
  | none => simp at hg
  | some x => exact List.mem_map.2 ⟨x, List.mem_of_getLast? hg, rfl⟩
theorem Link.cut {V V' : View} {c : Lc} {m : List El} : ∀ {l1 l2 : List El}, Link V (l1 ++ l2) → (l1.map El.h).Nodup → (∀ e ∈ m, V' e.h = V e.h) → (∀ e ∈ l1, e.h ≠ spotH c l1 → V' e.h = V e.h) →
    (l1 ≠ [] → ∀ x y z, V (spotH c l1) = some [x, y, z] → V' (spotH c l1) = some [first m, y, z]) → Link V m → Link V' (l1 ++ m)
  | [], l2, _, _, hm, _, _, hl => hl.frame hm
  | [a], l2, h, nd, hm, hf, hs, hl => by
    obtain ⟨⟨v, h1⟩, h2⟩ := h
    exact ⟨⟨v, hs (by simp) _ _ _ h1⟩, hl.frame hm⟩
  | a :: b :: l1, l2, h, nd, hm, hf, hs, hl => by
    obtain ⟨⟨v, h1⟩, h2⟩ := h
    have es : spotH c (a :: b :: l1) = spotH c (b :: l1) := by unfold spotH; rw [List.getLast?_cons_cons]
    rw [es] at hf hs
    have na : a.h ≠ spotH c (b :: l1) := by
      intro e
      have : spotH c (b :: l1) ∈ (b :: l1).map El.h := spot_mem
      rw [List.map_cons, List.nodup_cons] at nd
      exact nd.1 (by rw [e]; exact this)
    refine ⟨⟨v, ?_⟩, ?_⟩
    · rw [hf a (by simp) na, h1]; rfl
    · rw [List.map_cons, List.nodup_cons] at nd
      exact Link.cut (l1 := b :: l1) h2 nd.2 hm (fun e he => hf e (List.mem_cons_of_mem _ he)) (fun _ => hs (by simp)) hl
structure Ab where
  ls : List (List El)
  cnt : Wd
  chg : Wd
  tk : Nat → Wd
  sv : Nat → Wd
  /-- a bound of the regions that were made -/
  mb : Int
def Ab.els (A : Ab) : List El := A.ls.flatten
structure RegOk (A : Ab) (ws : List Wd) : Prop where
  len : ws.length = 2 + 3 * A.ls.length
  cnt : ws.getD 0 0 = A.cnt
  chg : ws.getD 1 0 = A.chg
  tk : ∀ i, i < A.ls.length → ws.getD (2 + 3 * i) 0 = A.tk i
  sv : ∀ i, i < A.ls.length → ws.getD (2 + 3 * i + 1) 0 = A.sv i
  hd : ∀ (i : Nat) (l : List El), A.ls[i]? = some l → ws.getD (2 + 3 * i + 2) 0 = first l
structure Vw (c : Lc) (A : Ab) (V : View) : Prop where
  reg : ∃ ws, V c.h = some ws ∧ RegOk A ws
  link : ∀ (i : Nat) (l : List El), A.ls[i]? = some l → Link V l
  nd : (c.h :: A.els.map El.h).Nodup
variable {c : Lc} {A A' : Ab} {V V' : View} {G : Gr} {xs P : List Int} {cap : Int} {n : Nat}
theorem Ab.mem {i : Nat} {l : List El} (h : A.ls[i]? = some l) {e : El} (he : e ∈ l) : e ∈ A.els := List.mem_flatten.2 ⟨l, List.mem_of_getElem? h, he⟩
theorem Vw.ne_c (M : Vw c A V) {e : El} (he : e ∈ A.els) : e.h ≠ c.h := fun e2 => (List.nodup_cons.1 M.nd).1 (by rw [← e2]; exact List.mem_map.2 ⟨e, he, rfl⟩)
theorem Vw.own (M : Vw c A V) {ws' : List Wd} (hV : ∀ h, V' h = if h = c.h then some ws' else V h) (hr : RegOk A' ws') (hls : A'.ls = A.ls) : Vw c A' V' := by
  refine ⟨⟨ws', by rw [hV, if_pos rfl], hr⟩, fun i l hl => ?_, by unfold Ab.els; rw [hls]; exact M.nd⟩
  rw [hls] at hl
  exact (M.link i l hl).frame fun e he => by rw [hV, if_neg (M.ne_c (Ab.mem hl he))]
theorem Vw.other (M : Vw c A V) {a : Int} (ha : a ≠ c.h) (hV : ∀ h, h ≠ a → V' h = V h) (hE : ∀ e ∈ A.els, e.h = a → ∀ x y z, V a = some [x, y, z] → ∃ z', V' a = some [x, y, z']) : Vw c A V' := by
  obtain ⟨ws, h1, h2⟩ := M.reg
  exact ⟨⟨ws, by rw [hV _ ha.symm]; exact h1, h2⟩, fun i l hl => (M.link i l hl).val hV fun e he => hE e (Ab.mem hl he), M.nd⟩
theorem flat_split {i : Nat} {l : List El} {ls : List (List El)} (h : ls[i]? = some l) : ls.flatten = (ls.take i).flatten ++ (l ++ (ls.drop (i + 1)).flatten) := by
  have := flatMap_split (f := id) h
  simpa [List.flatMap] using this
theorem flat_set {i : Nat} {l l' : List El} {ls : List (List El)} (h : ls[i]? = some l) : (ls.set i l').flatten = (ls.take i).flatten ++ (l' ++ (ls.drop (i + 1)).flatten) := by
  have := flatMap_set (f := id) (y := l') (List.getElem?_eq_some_iff.1 h).1
  simpa [List.flatMap] using this
theorem Vw.cut (M : Vw c A V) {i : Nat} {l1 l2 m : List El} (hl : A.ls[i]? = some (l1 ++ l2)) {w : Wd} (hw : w = first m) (hlm : Link V m) (hnd : (c.h :: (A.ls.set i (l1 ++ m)).flatten.map El.h).Nodup)
    {ws : List Wd} (hv : V (spotH c l1) = some ws) (hV : ∀ h, V' h = if h = spotH c l1 then some (ws.set (spotI i l1) w) else V h) : Vw c { A with ls := A.ls.set i (l1 ++ m) } V' := by
  have hi : i < A.ls.length := (List.getElem?_eq_some_iff.1 hl).1
  have hlen : (A.ls.set i (l1 ++ m)).length = A.ls.length := List.length_set
  have nd0 := M.nd
  have hsplit : A.els = _ := flat_split hl
  have hset : (A.ls.set i (l1 ++ m)).flatten = _ := flat_set (l' := l1 ++ m) hl
  -- where the spot is
  have hspot : l1 = [] ∧ spotH c l1 = c.h ∧ spotI i l1 = 2 + 3 * i + 2 ∨ ∃ e, e ∈ l1 ∧ spotH c l1 = e.h ∧ spotI i l1 = 0 := by
    unfold spotH spotI
    cases hg : l1.getLast? with
    | none => exact .inl ⟨List.getLast?_eq_none_iff.1 hg, rfl, rfl⟩
    | some e => exact .inr ⟨e, List.mem_of_getLast? hg, rfl, rfl⟩
  have nd1 : (l1.map El.h).Nodup := by
    have := (List.nodup_cons.1 nd0).2
    rw [hsplit, List.map_append, List.map_append, List.map_append] at this
    exact (List.nodup_append.1 (List.nodup_append.1 (List.nodup_append.1 this).2.1).1).1
  have hm : ∀ e ∈ m, e.h ≠ spotH c l1 := fun e he e2 => by
    rcases hspot with ⟨_, h1, _⟩ | ⟨x, hx, h1, _⟩
    · rw [h1] at e2
      refine (List.nodup_cons.1 hnd).1 ?_
      rw [← e2, hset]
      exact List.mem_map.2 ⟨e, by simp [he], rfl⟩
    · have := (List.nodup_cons.1 hnd).2
      rw [hset, List.map_append, List.map_append, List.map_append] at this
      exact (List.nodup_append.1 (List.nodup_append.1 (List.nodup_append.1 this).2.1).1).2.2 x.h (List.mem_map.2 ⟨x, hx, rfl⟩) e.h (List.mem_map.2 ⟨e, he, rfl⟩) (h1.symm.trans e2.symm)
  have hoth : ∀ (j : Nat) (l : List El), j ≠ i → A.ls[j]? = some l → ∀ e ∈ l, e.h ≠ spotH c l1 := fun j l hj hjl e he e2 => by
    rcases hspot with ⟨_, h1, _⟩ | ⟨x, hx, h1, _⟩
    · exact M.ne_c (Ab.mem hjl he) (e2.trans h1)
    · have nd := (List.nodup_cons.1 nd0).2
      rw [hsplit, List.map_append, List.map_append] at nd
      have hx1 : x.h ∈ (l1 ++ l2).map El.h := List.mem_map.2 ⟨x, List.mem_append_left _ hx, rfl⟩
      have hjlt := (List.getElem?_eq_some_iff.1 hjl).1
      rcases Nat.lt_or_gt_of_ne hj with hlt | hgt
      · have : e.h ∈ ((A.ls.take i).flatten).map El.h := List.mem_map.2 ⟨e, List.mem_flatten.2 ⟨l, List.mem_of_getElem? (i := j) (by rw [List.getElem?_take_of_lt hlt]; exact hjl), he⟩, rfl⟩
        exact (List.nodup_append.1 nd).2.2 _ this _ (List.mem_append_left _ hx1) (e2.trans h1)
      · have : e.h ∈ ((A.ls.drop (i + 1)).flatten).map El.h := List.mem_map.2 ⟨e, List.mem_flatten.2 ⟨l, List.mem_of_getElem? (i := j - (i + 1)) (by rw [List.getElem?_drop, show i + 1 + (j - (i + 1)) = j from by omega]; exact hjl), he⟩, rfl⟩
        exact (List.nodup_append.1 (List.nodup_append.1 nd).2.1).2.2 _ hx1 _ this (h1.symm.trans e2.symm)
  refine ⟨?_, fun j l hj => ?_, hnd⟩
  · obtain ⟨rs, r1, r2⟩ := M.reg
    rcases hspot with ⟨e0, h1, h2⟩ | ⟨x, hx, h1, h2⟩
    · rw [h1] at hv hV
      rw [r1] at hv
      obtain rfl : rs = ws := by simpa using hv
      rw [h2] at hV
      refine ⟨_, by rw [hV, if_pos rfl], ⟨by rw [List.length_set, hlen]; exact r2.len, ?_, ?_, fun j hj => ?_, fun j hj => ?_, fun j l hj => ?_⟩⟩
      · rw [List.getD_eq_getElem?_getD, List.getElem?_set_ne (by omega), ← List.getD_eq_getElem?_getD]; exact r2.cnt
      · rw [List.getD_eq_getElem?_getD, List.getElem?_set_ne (by omega), ← List.getD_eq_getElem?_getD]; exact r2.chg
      · rw [List.getD_eq_getElem?_getD, List.getElem?_set_ne (by omega), ← List.getD_eq_getElem?_getD]
        exact r2.tk j (by rw [← hlen]; exact hj)
      · rw [List.getD_eq_getElem?_getD, List.getElem?_set_ne (by omega), ← List.getD_eq_getElem?_getD]
        exact r2.sv j (by rw [← hlen]; exact hj)
      · by_cases e : j = i
        · subst e
          rw [List.getElem?_set_self hi] at hj
          obtain rfl : l1 ++ m = l := by simpa using hj
          rw [List.getD_eq_getElem?_getD, List.getElem?_set_self (by rw [r2.len]; omega), e0, List.nil_append]
          exact hw
        · rw [List.getElem?_set_ne (Ne.symm e)] at hj
          rw [List.getD_eq_getElem?_getD, List.getElem?_set_ne (by omega), ← List.getD_eq_getElem?_getD]
          exact r2.hd j l hj
    · have hne : c.h ≠ spotH c l1 := by
        rw [h1]
        exact (M.ne_c (Ab.mem hl (List.mem_append_left _ hx))).symm
      refine ⟨rs, by rw [hV, if_neg hne]; exact r1, ⟨by rw [hlen]; exact r2.len, r2.cnt, r2.chg, fun j hj => r2.tk j (by rw [← hlen]; exact hj), fun j hj => r2.sv j (by rw [← hlen]; exact hj), fun j l hj => ?_⟩⟩
      by_cases e : j = i
      · subst e
        rw [List.getElem?_set_self hi] at hj
        obtain rfl : l1 ++ m = l := by simpa using hj
        rw [r2.hd j _ hl]
        cases l1 with
        | nil => simp at hx
        | cons a l1 => rfl
      · rw [List.getElem?_set_ne (Ne.symm e)] at hj
        exact r2.hd j l hj
  · by_cases e : j = i
    · subst e
      have hj : (A.ls.set j (l1 ++ m))[j]? = some l := hj
      rw [List.getElem?_set_self hi] at hj
      obtain rfl : l1 ++ m = l := by simpa using hj
      refine Link.cut (c := c) (M.link _ _ hl) nd1 (fun e he => by rw [hV, if_neg (hm e he)]) (fun e he hne => by rw [hV, if_neg hne]) (fun hne x y z h3 => ?_) hlm
      rcases hspot with ⟨e0, _⟩ | ⟨x0, hx, h1, h2⟩
      · exact absurd e0 hne
      · rw [h3] at hv
        obtain rfl : [x, y, z] = ws := by simpa using hv
        rw [hV, if_pos rfl, h2, hw]; rfl
    · have hj : (A.ls.set i (l1 ++ m))[j]? = some l := hj
      rw [List.getElem?_set_ne (Ne.symm e)] at hj
      exact (M.link j l hj).frame fun x hx => by rw [hV, if_neg (hoth j l e hj x hx)]
structure Bk (c : Lc) (cap : Int) (n : Nat) (G : Gr) (xs : List Int) : Prop where
  ok : Ok G
  own : ∃ ws, G.S.V c.h = some ws ∧ ws.length = n
  len : ∀ h ∈ xs ++ G.q.map Wt.h, ∃ p q r, G.S.V h = some [p, q, r]
  perm : (G.S.regs.map Reg.h).Perm (c.h :: (xs ++ G.q.map Wt.h))
  rng : ∀ h ∈ G.S.regs.map Reg.h, 1 ≤ h ∧ h ≤ G.S.made
  nd : (G.S.regs.map Reg.h).Nodup
  made : 0 ≤ G.S.made ∧ G.S.made < 2305843009213693952
  room : G.S.room + 3 * (xs.length + G.q.length) = cap
  room0 : 0 ≤ G.S.room
  capb : cap ≤ 20000
  bads : G.S.bads = 0
theorem Bk.nd2 (M : Bk c cap n G xs) : (c.h :: (xs ++ G.q.map Wt.h)).Nodup := M.perm.nodup_iff.1 M.nd
theorem Bk.qlen (M : Bk c cap n G xs) : G.q.length < 10000 := by
  have := M.room; have := M.room0; have := M.capb; omega
theorem Bk.wmade (M : Bk c cap n G xs) : wr (G.S.made + 1) = G.S.made + 1 := by have := M.made; exact wrs (by omega)
theorem Bk.fresh (M : Bk c cap n G xs) : G.S.fresh := by
  refine find_none_iff.2 fun h => ?_
  have := (M.rng _ h).2
  rw [M.wmade] at this
  omega
theorem Bk.ne_c (M : Bk c cap n G xs) {h : Int} (hm : h ∈ xs ++ G.q.map Wt.h) : h ≠ c.h := fun e => by
  have := M.nd2
  rw [List.nodup_cons] at this
  exact this.1 (e ▸ hm)
theorem Bk.bd (M : Bk c cap n G xs) {h : Int} (hm : h ∈ xs ++ G.q.map Wt.h) : 1 ≤ h ∧ h ≤ G.S.made := M.rng h (M.perm.mem_iff.2 (List.mem_cons_of_mem _ hm))
theorem Bk.perm' (M : Bk c cap n G xs) {ys : List Int} (p : xs.Perm ys) : Bk c cap n G ys := by
  refine ⟨M.ok, M.own, fun h hh => M.len h ?_, M.perm.trans ((p.append_right _).cons _), M.rng, M.nd, M.made, by rw [← p.length_eq]; exact M.room, M.room0, M.capb, M.bads⟩
  exact (p.append_right _).mem_iff.2 hh
theorem Bk.acc (M : Bk c cap n G xs) {a : Int} {i : Nat} {f : Wd → Wd} {ws : List Wd} (hv : G.S.V a = some ws) (hi : i < ws.length) : Bk c cap n (G.mem (G.S.acc a i true f).2) xs := by
  obtain ⟨e1, e2, e3, e4, e5⟩ := V_acc hv hi f
  refine ⟨⟨⟨M.ok.ind, M.ok.nd, M.ok.ws⟩, M.ok.full⟩, ?_, fun h hh => ?_, ?_, ?_, ?_, ?_, ?_, ?_, M.capb, ?_⟩
  · obtain ⟨us, u1, u2⟩ := M.own
    show ∃ ws, (G.S.acc a i true f).2.V c.h = some ws ∧ _
    rw [e2]
    by_cases e : c.h = a
    · rw [if_pos e]
      rw [e, hv] at u1
      obtain rfl : ws = us := by simpa using u1
      exact ⟨_, rfl, by rw [List.length_set]; exact u2⟩
    · rw [if_neg e]; exact ⟨us, u1, u2⟩
  · obtain ⟨p, q, r, h1⟩ := M.len h hh
    show ∃ p q r, (G.S.acc a i true f).2.V h = some [p, q, r]
    rw [e2]
    by_cases e : h = a
    · subst e
      rw [h1] at hv
      simp only [Option.some.injEq] at hv
      subst hv
      rw [if_pos rfl]
      match i, hi with
      | 0, _ => exact ⟨_, _, _, rfl⟩
      | 1, _ => exact ⟨_, _, _, rfl⟩
      | 2, _ => exact ⟨_, _, _, rfl⟩
    · rw [if_neg e]; exact ⟨p, q, r, h1⟩
  · show ((G.S.acc a i true f).2.regs.map Reg.h).Perm _
    rw [acc_keys]; exact M.perm
  · show ∀ h ∈ (G.S.acc a i true f).2.regs.map Reg.h, 1 ≤ h ∧ h ≤ (G.S.acc a i true f).2.made
    rw [acc_keys, acc_made]; exact M.rng
  · show ((G.S.acc a i true f).2.regs.map Reg.h).Nodup
    rw [acc_keys]; exact M.nd
  · show 0 ≤ (G.S.acc a i true f).2.made ∧ (G.S.acc a i true f).2.made < _
    rw [acc_made]; exact M.made
  · show (G.S.acc a i true f).2.room + _ = _
    rw [e4]; exact M.room
  · show 0 ≤ (G.S.acc a i true f).2.room
    rw [e4]; exact M.room0
  · show (G.S.acc a i true f).2.bads = 0
    rw [e3]; exact M.bads
end Go.Proofs.YtjggeoghlicmdaaGreat
namespace Go.Proofs.YtjggeoghlicmdaaGreat
open Go Go.AS Go.RowKit
set_option linter.unusedVariables false
variable {c : Lc} {A A' : Ab} {V V' : View} {G : Gr} {xs P : List Int} {cap : Int} {n : Nat}
structure Mem (c : Lc) (cap : Int) (A : Ab) (P : List Int) (G : Gr) : Prop where
  bk : Bk c cap (2 + 3 * A.ls.length) G (A.els.map El.h ++ P)
  vw : Vw c A G.S.V
  rooms : c.d3 = A.ls.length ∧ 1 ≤ A.ls.length ∧ A.ls.length ≤ 32
  made : G.S.made ≤ A.mb ∧ A.mb < 2305843009213693000
theorem made_acc {mb a j : Int} {may : Bool} {f : Wd → Wd} (h : G.S.made ≤ mb ∧ mb < 2305843009213693000) : (G.mem (G.S.acc a j may f).2).S.made ≤ mb ∧ mb < 2305843009213693000 := by
  have : (G.mem (G.S.acc a j may f).2).S.made = G.S.made := acc_made ..
  rw [this]; exact h
theorem lk_nat {i : Nat} (h : i < 100) : lk (i : Int) = ((2 + 3 * i : Nat) : Int) := by
  unfold lk
  rw [wrs (n := 3 * (i : Int)) (by omega), wrs (by omega)]; omega
theorem hd_nat {i : Nat} (h : i < 100) : hd (i : Int) = ((2 + 3 * i + 2 : Nat) : Int) := by
  unfold hd
  rw [wrs (n := 3 * (i : Int)) (by omega), wrs (n := 2 + 3 * (i : Int)) (by omega), wrs (by omega)]; omega
theorem lk1_nat {i : Nat} (h : i < 100) : wr (lk (i : Int) + 1) = ((2 + 3 * i + 1 : Nat) : Int) := by
  rw [lk_nat h, wrs (by omega)]; omega
theorem h_word {h : Int} (h1 : 1 ≤ h ∧ h < 2305843009213693952) : IntKind.i64.wrap ((BitVec.ofInt 64 h).toNat : Int) = h ∧ BitVec.ofInt 64 h ≠ 0 := by
  have e : ((BitVec.ofInt 64 h).toNat : Int) = h := by
    rw [BitVec.toNat_ofInt]; omega
  refine ⟨by rw [e]; exact wrap_i64 (by omega), fun h0 => ?_⟩
  rw [h0] at e
  simp at e; omega
theorem Mem.alive (M : Mem c cap A P G) {h : Int} (hm : h ∈ A.els.map El.h ++ P ++ G.q.map Wt.h) : ∃ p q r, G.S.V h = some [p, q, r] := M.bk.len h hm
theorem Mem.bd (M : Mem c cap A P G) {h : Int} (hm : h ∈ A.els.map El.h ++ P ++ G.q.map Wt.h) : 1 ≤ h ∧ h ≤ G.S.made ∧ h < 2305843009213693952 := by
  have := M.bk.bd hm; have := M.bk.made; omega
theorem Mem.el_bd (M : Mem c cap A P G) {e : El} (he : e ∈ A.els) : 1 ≤ e.h ∧ e.h < 2305843009213693952 := by
  have := M.bd (h := e.h) (List.mem_append_left _ (List.mem_append_left _ (List.mem_map.2 ⟨e, he, rfl⟩))); omega
theorem Mem.first0 (M : Mem c cap A P G) {i : Nat} {pre rest : List El} (hl : A.ls[i]? = some (pre ++ rest)) :
    IntKind.i64.wrap ((first rest).toNat : Int) = (match rest with | [] => 0 | e :: _ => e.h) := by
  cases rest with
  | nil => rfl
  | cons e rest => exact (h_word (M.el_bd (Ab.mem hl (by simp)))).1
theorem Mem.load (M : Mem c cap A P G) {a j : Int} {i : Nat} {ws : List Wd} (hv : G.S.V a = some ws) (hi : i < ws.length) (hj : j = (i : Int)) :
    (G.S.acc a j true id).1 = (ws.getD i 0, true) ∧ Mem c cap A P (G.mem (G.S.acc a j true id).2) ∧ (∀ h, (G.S.acc a j true id).2.V h = G.S.V h) := by
  subst hj
  obtain ⟨e1, e2, e3, e4, e5⟩ := V_acc hv hi id
  have same : ∀ h, (G.S.acc a i true id).2.V h = G.S.V h := fun h => by
    rw [e2]
    by_cases e : h = a
    · subst e
      rw [if_pos rfl, hv, List.getD_eq_getElem?_getD, List.getElem?_eq_getElem hi]
      simp
    · rw [if_neg e]
  refine ⟨e1, ⟨M.bk.acc hv hi, ?_, M.rooms, made_acc M.made⟩, same⟩
  have : (G.mem (G.S.acc a i true id).2).S.V = G.S.V := funext same
  rw [this]; exact M.vw
theorem Mem.own (M : Mem c cap A P G) {j : Int} {k : Nat} {f : Wd → Wd} (hj : j = (k : Int)) (hk : k < 2 + 3 * A.ls.length) (hls : A'.ls = A.ls) (hmb : A'.mb = A.mb) (hr : ∀ ws, RegOk A ws → RegOk A' (ws.set k (f (ws.getD k 0)))) :
    ∃ ws, RegOk A ws ∧ (G.S.acc c.h j true f).1 = (ws.getD k 0, true) ∧ Mem c cap A' P (G.mem (G.S.acc c.h j true f).2) ∧ (∀ h, h ≠ c.h → (G.S.acc c.h j true f).2.V h = G.S.V h) := by
  subst hj
  obtain ⟨ws, h1, h2⟩ := M.vw.reg
  have hi : k < ws.length := by rw [h2.len]; exact hk
  obtain ⟨e1, e2, e3, e4, e5⟩ := V_acc h1 hi f
  refine ⟨ws, h2, e1, ⟨?_, M.vw.own (A' := A') e2 (hr ws h2) hls, by rw [hls]; exact M.rooms, by rw [hmb]; exact made_acc M.made⟩, fun h hh => by rw [e2, if_neg hh]⟩
  have := M.bk.acc (f := f) h1 hi
  unfold Ab.els; rw [hls]; exact this
theorem set_get {ws : List Wd} {k j : Nat} {w : Wd} : (ws.set k w).getD j 0 = if k = j ∧ k < ws.length then w else ws.getD j 0 := by
  rw [List.getD_eq_getElem?_getD, List.getD_eq_getElem?_getD]
  by_cases e : k = j
  · subst e
    by_cases h : k < ws.length
    · rw [if_pos ⟨rfl, h⟩, List.getElem?_set_self h]; rfl
    · rw [if_neg (by omega), List.getElem?_eq_none (by simp; omega), List.getElem?_eq_none (by omega)]
  · rw [if_neg (by omega), List.getElem?_set_ne e]
theorem Mem.cnt (M : Mem c cap A P G) (f : Wd → Wd) : (G.S.acc c.h 0 true f).1 = (A.cnt, true) ∧ Mem c cap { A with cnt := f A.cnt } P (G.mem (G.S.acc c.h 0 true f).2) ∧ (∀ h, h ≠ c.h → (G.S.acc c.h 0 true f).2.V h = G.S.V h) := by
  obtain ⟨ws, h1, h2, h3, h4⟩ := M.own (A' := { A with cnt := f A.cnt }) (k := 0) (j := 0) (f := f) rfl (by omega) rfl rfl fun ws r => by
    refine ⟨by rw [List.length_set]; exact r.len, ?_, ?_, fun i hi => ?_, fun i hi => ?_, fun i l hl => ?_⟩
    · rw [set_get, if_pos ⟨rfl, by rw [r.len]; omega⟩, r.cnt]
    · rw [set_get, if_neg (by omega)]; exact r.chg
    · rw [set_get, if_neg (by omega)]; exact r.tk i hi
    · rw [set_get, if_neg (by omega)]; exact r.sv i hi
    · rw [set_get, if_neg (by omega)]; exact r.hd i l hl
  exact ⟨by rw [h2, h1.cnt], h3, h4⟩
theorem Mem.chg (M : Mem c cap A P G) (f : Wd → Wd) : (G.S.acc c.h 1 true f).1 = (A.chg, true) ∧ Mem c cap { A with chg := f A.chg } P (G.mem (G.S.acc c.h 1 true f).2) ∧ (∀ h, h ≠ c.h → (G.S.acc c.h 1 true f).2.V h = G.S.V h) := by
  obtain ⟨ws, h1, h2, h3, h4⟩ := M.own (A' := { A with chg := f A.chg }) (k := 1) (j := 1) (f := f) rfl (by omega) rfl rfl fun ws r => by
    refine ⟨by rw [List.length_set]; exact r.len, ?_, ?_, fun i hi => ?_, fun i hi => ?_, fun i l hl => ?_⟩
    · rw [set_get, if_neg (by omega)]; exact r.cnt
    · rw [set_get, if_pos ⟨rfl, by rw [r.len]; omega⟩, r.chg]
    · rw [set_get, if_neg (by omega)]; exact r.tk i hi
    · rw [set_get, if_neg (by omega)]; exact r.sv i hi
    · rw [set_get, if_neg (by omega)]; exact r.hd i l hl
  exact ⟨by rw [h2, h1.chg], h3, h4⟩
theorem Mem.tk (M : Mem c cap A P G) {i : Nat} (hi : i < A.ls.length) (f : Wd → Wd) : (G.S.acc c.h (lk i) true f).1 = (A.tk i, true) ∧ Mem c cap { A with tk := fun k => if k = i then f (A.tk i) else A.tk k } P (G.mem (G.S.acc c.h (lk i) true f).2) ∧ (∀ h, h ≠ c.h → (G.S.acc c.h (lk i) true f).2.V h = G.S.V h) := by
  have h32 := M.rooms.2.2
  obtain ⟨ws, h1, h2, h3, h4⟩ := M.own (A' := { A with tk := fun k => if k = i then f (A.tk i) else A.tk k }) (k := 2 + 3 * i) (j := lk i) (f := f) (lk_nat (by omega)) (by omega) rfl rfl fun ws r => by
    refine ⟨by rw [List.length_set]; exact r.len, ?_, ?_, fun k hk => ?_, fun k hk => ?_, fun k l hl => ?_⟩
    · rw [set_get, if_neg (by omega)]; exact r.cnt
    · rw [set_get, if_neg (by omega)]; exact r.chg
    · show _ = if k = i then f (A.tk i) else A.tk k
      by_cases e : k = i
      · subst e; rw [set_get, if_pos ⟨rfl, by rw [r.len]; omega⟩, if_pos rfl, r.tk k hk]
      · rw [set_get, if_neg (by omega), if_neg e]; exact r.tk k hk
    · rw [set_get, if_neg (by omega)]; exact r.sv k hk
    · rw [set_get, if_neg (by omega)]; exact r.hd k l hl
  exact ⟨by rw [h2, h1.tk i hi], h3, h4⟩
theorem Mem.sv (M : Mem c cap A P G) {i : Nat} (hi : i < A.ls.length) (f : Wd → Wd) : (G.S.acc c.h (wr (lk i + 1)) true f).1 = (A.sv i, true) ∧ Mem c cap { A with sv := fun k => if k = i then f (A.sv i) else A.sv k } P (G.mem (G.S.acc c.h (wr (lk i + 1)) true f).2) ∧ (∀ h, h ≠ c.h → (G.S.acc c.h (wr (lk i + 1)) true f).2.V h = G.S.V h) := by
  have h32 := M.rooms.2.2
  obtain ⟨ws, h1, h2, h3, h4⟩ := M.own (A' := { A with sv := fun k => if k = i then f (A.sv i) else A.sv k }) (k := 2 + 3 * i + 1) (j := wr (lk i + 1)) (f := f) (lk1_nat (by omega)) (by omega) rfl rfl fun ws r => by
    refine ⟨by rw [List.length_set]; exact r.len, ?_, ?_, fun k hk => ?_, fun k hk => ?_, fun k l hl => ?_⟩
    · rw [set_get, if_neg (by omega)]; exact r.cnt
    · rw [set_get, if_neg (by omega)]; exact r.chg
    · rw [set_get, if_neg (by omega)]; exact r.tk k hk
    · show _ = if k = i then f (A.sv i) else A.sv k
      by_cases e : k = i
      · subst e; rw [set_get, if_pos ⟨rfl, by rw [r.len]; omega⟩, if_pos rfl, r.sv k hk]
      · rw [set_get, if_neg (by omega), if_neg e]; exact r.sv k hk
    · rw [set_get, if_neg (by omega)]; exact r.hd k l hl
  exact ⟨by rw [h2, h1.sv i hi], h3, h4⟩
theorem Mem.spot (M : Mem c cap A P G) {i : Nat} {pre rest : List El} (hl : A.ls[i]? = some (pre ++ rest)) : ∃ ws, G.S.V (spotH c pre) = some ws ∧ spotI i pre < ws.length ∧ ws.getD (spotI i pre) 0 = first rest := by
  unfold spotH spotI
  cases hg : pre.getLast? with
  | none =>
    obtain rfl := List.getLast?_eq_none_iff.1 hg
    obtain ⟨ws, h1, h2⟩ := M.vw.reg
    have hi := (List.getElem?_eq_some_iff.1 hl).1
    exact ⟨ws, h1, by rw [h2.len]; show 2 + 3 * i + 2 < _; omega, h2.hd i _ hl⟩
  | some e =>
    obtain ⟨p2, rfl⟩ := List.getLast?_eq_some_iff.1 hg
    have := M.vw.link i _ hl
    rw [List.append_assoc] at this
    obtain ⟨v, hv⟩ := Link.at' this
    exact ⟨_, hv, by simp, rfl⟩
theorem Mem.ldSpot (M : Mem c cap A P G) {i : Nat} {pre rest : List El} (hl : A.ls[i]? = some (pre ++ rest)) {ah ai : Int} (e1 : ah = spotH c pre) (e2 : ai = (spotI i pre : Int)) :
    (G.S.acc ah ai true id).1 = (first rest, true) ∧ Mem c cap A P (G.mem (G.S.acc ah ai true id).2) ∧ (∀ h, (G.S.acc ah ai true id).2.V h = G.S.V h) := by
  obtain ⟨ws, h1, h2, h3⟩ := M.spot hl
  subst e1
  have := M.load h1 h2 e2
  rw [h3] at this; exact this
theorem Mem.elem (M : Mem c cap A P G) {i : Nat} {pre rest : List El} {e : El} (hl : A.ls[i]? = some (pre ++ e :: rest)) : ∃ v, G.S.V e.h = some [first rest, e.k, v] := Link.at' (M.vw.link i _ hl)
theorem Mem.ldNext (M : Mem c cap A P G) {i : Nat} {pre rest : List El} {e : El} (hl : A.ls[i]? = some (pre ++ e :: rest)) :
    (G.S.acc e.h 0 true id).1 = (first rest, true) ∧ Mem c cap A P (G.mem (G.S.acc e.h 0 true id).2) ∧ (∀ h, (G.S.acc e.h 0 true id).2.V h = G.S.V h) := by
  obtain ⟨v, hv⟩ := M.elem hl
  exact M.load (i := 0) (j := 0) hv (by simp) rfl
theorem Mem.ldKey (M : Mem c cap A P G) {i : Nat} {pre rest : List El} {e : El} (hl : A.ls[i]? = some (pre ++ e :: rest)) :
    (G.S.acc e.h 1 true id).1 = (e.k, true) ∧ Mem c cap A P (G.mem (G.S.acc e.h 1 true id).2) ∧ (∀ h, (G.S.acc e.h 1 true id).2.V h = G.S.V h) := by
  obtain ⟨v, hv⟩ := M.elem hl
  exact M.load (i := 1) (j := 1) hv (by simp) rfl
def val (S : Sm) (h : Int) : Wd := ((S.V h).getD []).getD 2 0
theorem Mem.ldVal (M : Mem c cap A P G) {h : Int} (hm : h ∈ A.els.map El.h ++ P ++ G.q.map Wt.h) :
    (G.S.acc h 2 true id).1 = (val G.S h, true) ∧ Mem c cap A P (G.mem (G.S.acc h 2 true id).2) ∧ (∀ h', (G.S.acc h 2 true id).2.V h' = G.S.V h') := by
  obtain ⟨p, q, r, hv⟩ := M.alive hm
  have := M.load (i := 2) (j := 2) hv (by simp) rfl
  unfold val; rw [hv]; exact this
theorem Mem.stVal (M : Mem c cap A P G) {h : Int} (hm : h ∈ A.els.map El.h ++ P ++ G.q.map Wt.h) (w : Wd) :
    (G.S.acc h 2 true fun _ => w).1.2 = true ∧ Mem c cap A P (G.mem (G.S.acc h 2 true fun _ => w).2) ∧ (∀ h', h' ≠ h → (G.S.acc h 2 true fun _ => w).2.V h' = G.S.V h') ∧ val (G.S.acc h 2 true fun _ => w).2 h = w := by
  obtain ⟨p, q, r, hv⟩ := M.alive hm
  obtain ⟨e1, e2, e3, e4, e5⟩ := V_acc (i := 2) hv (by simp) (fun _ => w)
  have hne := M.bk.ne_c hm
  refine ⟨congrArg Prod.snd e1, ⟨M.bk.acc (i := 2) hv (by simp), M.vw.other hne (fun h' hh => (e2 h').trans (if_neg hh)) fun e he eh x y z h3 => ?_, M.rooms, made_acc M.made⟩, fun h' hh => (e2 h').trans (if_neg hh), ?_⟩
  · rw [hv] at h3
    obtain ⟨rfl, rfl, rfl⟩ : p = x ∧ q = y ∧ r = z := by simpa using h3
    exact ⟨w, (e2 h).trans (if_pos rfl)⟩
  · unfold val
    rw [show (G.S.acc h 2 true fun _ => w).2.V h = some [p, q, w] from (e2 h).trans (if_pos rfl)]; rfl
theorem Mem.el_ne (M : Mem c cap A P G) {e : El} (he : e ∈ A.els) {h : Int} (hp : h ∈ P) : e.h ≠ h := fun e2 => by
  have := (List.nodup_cons.1 M.bk.nd2).2
  have := (List.nodup_append.1 this).1
  exact (List.nodup_append.1 this).2.2 e.h (List.mem_map.2 ⟨e, he, rfl⟩) h hp e2
theorem Mem.stP (M : Mem c cap A P G) {h j : Int} {i : Nat} {ws : List Wd} (hp : h ∈ P) (hv : G.S.V h = some ws) (hi : i < ws.length) (hj : j = (i : Int)) (w : Wd) :
    (G.S.acc h j true fun _ => w).1.2 = true ∧ Mem c cap A P (G.mem (G.S.acc h j true fun _ => w).2) ∧ (∀ h', (G.S.acc h j true fun _ => w).2.V h' = if h' = h then some (ws.set i w) else G.S.V h') := by
  subst hj
  obtain ⟨e1, e2, e3, e4, e5⟩ := V_acc hv hi (fun _ => w)
  have hne := M.bk.ne_c (h := h) (List.mem_append_left _ (List.mem_append_right _ hp))
  exact ⟨congrArg Prod.snd e1, ⟨M.bk.acc hv hi, M.vw.other hne (fun h' hh => (e2 h').trans (if_neg hh)) fun e he eh => absurd eh (M.el_ne he hp), M.rooms, made_acc M.made⟩, e2⟩
theorem Mem.stSpot (M : Mem c cap A P G) {i : Nat} {l1 l2 m : List El} {P' : List Int} (hl : A.ls[i]? = some (l1 ++ l2)) {w : Wd} (hw : w = first m) (hlm : Link G.S.V m)
    (hp : ((A.ls.set i (l1 ++ m)).flatten.map El.h ++ P').Perm (A.els.map El.h ++ P)) {ah ai : Int} (e1 : ah = spotH c l1) (e2 : ai = (spotI i l1 : Int)) :
    Mem c cap { A with ls := A.ls.set i (l1 ++ m) } P' (G.mem (G.S.acc ah ai true fun _ => w).2) ∧ (∀ h, h ≠ spotH c l1 → (G.S.acc ah ai true fun _ => w).2.V h = G.S.V h) ∧
      (∀ h, h ≠ c.h → val (G.S.acc ah ai true fun _ => w).2 h = val G.S h ∧ ((G.S.acc ah ai true fun _ => w).2.V h ≠ none → G.S.V h ≠ none)) := by
  obtain ⟨ws, h1, h2, h3⟩ := M.spot hl
  subst e1 e2
  obtain ⟨f1, f2, f3, f4, f5⟩ := V_acc h1 h2 (fun _ => w)
  have hnd : (c.h :: (A.ls.set i (l1 ++ m)).flatten.map El.h).Nodup := by
    have nd := M.bk.nd2
    have : (c.h :: ((A.ls.set i (l1 ++ m)).flatten.map El.h ++ P' ++ G.q.map Wt.h)).Nodup := ((hp.append_right _).cons _).nodup_iff.2 nd
    rw [List.append_assoc] at this
    exact ((List.sublist_append_left _ _).cons_cons c.h).nodup this
  have hlen : (A.ls.set i (l1 ++ m)).length = A.ls.length := List.length_set
  refine ⟨⟨?_, M.vw.cut hl hw hlm hnd h1 f2, by rw [show ({ A with ls := A.ls.set i (l1 ++ m) } : Ab).ls.length = A.ls.length from hlen]; exact M.rooms, made_acc M.made⟩, fun h hh => (f2 h).trans (if_neg hh), fun h hh => ?_⟩
  · have := (M.bk.acc (f := fun _ => w) h1 h2).perm' hp.symm
    rw [show ({ A with ls := A.ls.set i (l1 ++ m) } : Ab).ls.length = A.ls.length from hlen]
    exact this
  · by_cases e : h = spotH c l1
    · subst e
      have hsp : ∃ x ∈ l1, spotH c l1 = x.h ∧ spotI i l1 = 0 := by
        unfold spotH at hh ⊢
        unfold spotI
        cases hg : l1.getLast? with
        | none => rw [hg] at hh; exact absurd rfl hh
        | some x => exact ⟨x, List.mem_of_getLast? hg, rfl, rfl⟩
      obtain ⟨x, hx, hx1, hx2⟩ := hsp
      refine ⟨?_, fun _ => by rw [h1]; simp⟩
      have e0 := f2 (spotH c l1)
      rw [if_pos rfl, hx2] at e0
      unfold val
      rw [hx2]
      rw [e0, h1]
      show (ws.set 0 w).getD 2 0 = ws.getD 2 0
      rw [set_get, if_neg (by omega)]
    · have e0 := (f2 h).trans (if_neg e)
      exact ⟨by unfold val; rw [e0], fun hn => by rw [e0] at hn; exact hn⟩
theorem flat_hs {i : Nat} {l l' : List El} (h : A.ls[i]? = some l) : ((A.ls.set i l').flatten.map El.h).Perm (l'.map El.h ++ ((A.ls.take i).flatten ++ (A.ls.drop (i + 1)).flatten).map El.h) := by
  rw [flat_set h, List.map_append, List.map_append, List.map_append]
  exact List.perm_append_comm_assoc _ _ _
theorem flat_hs0 {i : Nat} {l : List El} (h : A.ls[i]? = some l) : (A.els.map El.h).Perm (l.map El.h ++ ((A.ls.take i).flatten ++ (A.ls.drop (i + 1)).flatten).map El.h) := by
  unfold Ab.els
  rw [flat_split h, List.map_append, List.map_append, List.map_append]
  exact List.perm_append_comm_assoc _ _ _
theorem perm_mid (a m r P : List Int) (x : Int) : (a ++ m ++ r ++ x :: P).Perm (a ++ x :: m ++ r ++ P) := by
  have h1 : (a ++ m ++ r ++ x :: P).Perm (x :: (a ++ m ++ r ++ P)) := List.perm_middle
  have h2 : (a ++ x :: m ++ r ++ P).Perm (x :: (a ++ m ++ r ++ P)) := by
    have := List.perm_middle (a := x) (l₁ := a) (l₂ := m ++ (r ++ P))
    simpa only [List.append_assoc, List.cons_append] using this
  exact h1.trans h2.symm
theorem Mem.unlink (M : Mem c cap A P G) {i : Nat} {l1 m : List El} {e : El} (hl : A.ls[i]? = some (l1 ++ e :: m)) {ah ai : Int} (e1 : ah = spotH c l1) (e2 : ai = (spotI i l1 : Int)) :
    Mem c cap { A with ls := A.ls.set i (l1 ++ m) } (e.h :: P) (G.mem (G.S.acc ah ai true fun _ => first m).2) ∧ (∀ h, h ≠ c.h → val (G.S.acc ah ai true fun _ => first m).2 h = val G.S h ∧ ((G.S.acc ah ai true fun _ => first m).2.V h ≠ none → G.S.V h ≠ none)) := by
  have hlk : Link G.S.V m := by
    have := M.vw.link i _ hl
    exact (Link.tail (l1 := l1) this).2
  have hp : ((A.ls.set i (l1 ++ m)).flatten.map El.h ++ e.h :: P).Perm (A.els.map El.h ++ P) := by
    have x1 : (l1 ++ m).map El.h = l1.map El.h ++ m.map El.h := List.map_append
    have x2 : (l1 ++ e :: m).map El.h = l1.map El.h ++ e.h :: m.map El.h := by rw [List.map_append]; rfl
    have p1 := (flat_hs (l' := l1 ++ m) hl).append_right (e.h :: P)
    have p2 := (flat_hs0 hl).append_right P
    rw [x1] at p1
    rw [x2] at p2
    exact p1.trans ((perm_mid _ _ _ _ _).trans p2.symm)
  obtain ⟨h1, _, h3⟩ := M.stSpot (P' := e.h :: P) (m := m) hl rfl hlk hp e1 e2
  exact ⟨h1, h3⟩
theorem Mem.link {h : Int} (M : Mem c cap A (h :: P) G) {i : Nat} {l1 m : List El} {k v : Wd} (hl : A.ls[i]? = some (l1 ++ m)) (hv : G.S.V h = some [first m, k, v]) {ah ai : Int} (e1 : ah = spotH c l1) (e2 : ai = (spotI i l1 : Int)) :
    Mem c cap { A with ls := A.ls.set i (l1 ++ ⟨h, k⟩ :: m) } P (G.mem (G.S.acc ah ai true fun _ => BitVec.ofInt 64 h).2) ∧ (∀ x, x ≠ c.h → val (G.S.acc ah ai true fun _ => BitVec.ofInt 64 h).2 x = val G.S x ∧ ((G.S.acc ah ai true fun _ => BitVec.ofInt 64 h).2.V x ≠ none → G.S.V x ≠ none)) := by
  have hlk : Link G.S.V (⟨h, k⟩ :: m) := ⟨⟨v, hv⟩, Link.tail (l1 := l1) (M.vw.link i _ hl)⟩
  have hp : ((A.ls.set i (l1 ++ ⟨h, k⟩ :: m)).flatten.map El.h ++ P).Perm (A.els.map El.h ++ h :: P) := by
    have x1 : (l1 ++ m).map El.h = l1.map El.h ++ m.map El.h := List.map_append
    have x2 : (l1 ++ ⟨h, k⟩ :: m).map El.h = l1.map El.h ++ h :: m.map El.h := by rw [List.map_append]; rfl
    have p1 := (flat_hs (l' := l1 ++ ⟨h, k⟩ :: m) hl).append_right P
    have p2 := (flat_hs0 hl).append_right (h :: P)
    rw [x2] at p1
    rw [x1] at p2
    exact p1.trans ((perm_mid _ _ _ _ _).symm.trans p2.symm)
  obtain ⟨h1, _, h3⟩ := M.stSpot (P' := P) (m := ⟨h, k⟩ :: m) hl rfl hlk hp e1 e2
  exact ⟨h1, h3⟩
theorem Mem.make (M : Mem c cap A P G) (b : Nat) :
    (G.S.room < 3 ∧ G.S.make b 3 = ((0, 5), G.S)) ∨
    (3 ≤ G.S.room ∧ (G.S.make b 3).1 = (G.S.made + 1, 0) ∧ (A.mb + 1 < 2305843009213693000 → Mem c cap { A with mb := A.mb + 1 } ((G.S.made + 1) :: P) (G.mem (G.S.make b 3).2)) ∧ (G.S.make b 3).2.V (G.S.made + 1) = some [0, 0, 0] ∧
      (∀ h, h ≠ G.S.made + 1 → (G.S.make b 3).2.V h = G.S.V h) ∧ (G.S.make b 3).2.made = G.S.made + 1) := by
  by_cases hr : G.S.room < 3
  · left; refine ⟨hr, ?_⟩
    unfold Sm.make
    rw [if_neg (by omega), if_pos hr]
  · right
    have B := M.bk
    have e : G.S.make b 3 = ((wr (G.S.made + 1), 0), G.S.mk' b 3) := by
      unfold Sm.make
      rw [if_neg (by omega), if_neg hr]; rfl
    have hv := V_mk b 3 B.fresh
    rw [B.wmade] at hv
    rw [e]
    have emade : (G.S.mk' b 3).made = G.S.made + 1 := B.wmade
    have eroom : (G.S.mk' b 3).room = G.S.room - 3 := by
      show wr (G.S.room - ((3 : Nat) : Int)) = _
      have := B.room; have := B.room0; have := B.capb
      rw [wrs (by omega)]; rfl
    have ekeys : (G.S.mk' b 3).regs.map Reg.h = G.S.regs.map Reg.h ++ [G.S.made + 1] := by
      show (G.S.regs ++ [_]).map Reg.h = _
      rw [List.map_append]
      show _ ++ [wr (G.S.made + 1)] = _
      rw [B.wmade]
    have hne : ∀ h ∈ G.S.regs.map Reg.h, h ≠ G.S.made + 1 := fun h hh e => by have := (B.rng h hh).2; omega
    have hold : ∀ h ∈ c.h :: (A.els.map El.h ++ P ++ G.q.map Wt.h), h ≠ G.S.made + 1 := fun h hh => hne h (B.perm.mem_iff.2 hh)
    have hch : c.h ≠ G.S.made + 1 := hold _ (List.mem_cons_self ..)
    refine ⟨by omega, by rw [B.wmade], fun hm => ⟨⟨⟨⟨B.ok.ind, B.ok.nd, B.ok.ws⟩, B.ok.full⟩, ?_, ?_, ?_, ?_, ?_, ?_, ?_, ?_, B.capb, B.bads⟩, ?_, M.rooms, ⟨show (G.S.mk' b 3).made ≤ A.mb + 1 by rw [emade]; have := M.made; omega, hm⟩⟩, ?_, fun h hh => ?_, emade⟩
    · obtain ⟨ws, w1, w2⟩ := B.own
      exact ⟨ws, by show (G.S.mk' b 3).V c.h = _; rw [hv, if_neg hch]; exact w1, w2⟩
    · intro h hh
      show ∃ p q r, (G.S.mk' b 3).V h = _
      by_cases e : h = G.S.made + 1
      · rw [hv, if_pos e]; exact ⟨0, 0, 0, rfl⟩
      · rw [hv, if_neg e]
        refine B.len h ?_
        simp only [List.mem_append, List.mem_cons] at hh ⊢
        rcases hh with (hh | hh | hh) | hh
        · exact .inl (.inl hh)
        · exact absurd hh e
        · exact .inl (.inr hh)
        · exact .inr hh
    · show ((G.S.mk' b 3).regs.map Reg.h).Perm _
      rw [ekeys]
      refine (List.perm_append_comm.trans ((B.perm.cons (G.S.made + 1)).trans ?_))
      show ((G.S.made + 1) :: c.h :: _).Perm _
      refine (List.Perm.swap _ _ _).trans (List.Perm.cons _ ?_)
      simp only [List.append_assoc, List.cons_append]
      exact List.perm_middle.symm
    · show ∀ h ∈ (G.S.mk' b 3).regs.map Reg.h, 1 ≤ h ∧ h ≤ (G.S.mk' b 3).made
      rw [ekeys, emade]
      intro h hh
      have := B.made
      rcases List.mem_append.1 hh with hh | hh
      · have := B.rng h hh; omega
      · simp only [List.mem_singleton] at hh; omega
    · show ((G.S.mk' b 3).regs.map Reg.h).Nodup
      rw [ekeys]
      exact List.nodup_append.2 ⟨B.nd, by simp, fun a ha b hb e => by simp only [List.mem_singleton] at hb; exact hne a ha (e.trans hb)⟩
    · show 0 ≤ (G.S.mk' b 3).made ∧ (G.S.mk' b 3).made < _
      rw [emade]; have := B.made; have := M.made; omega
    · show (G.S.mk' b 3).room + _ = cap
      rw [eroom]
      have := B.room
      simp only [List.length_append, List.length_cons] at this ⊢
      show G.S.room - 3 + 3 * ((((A.els.map El.h).length + (P.length + 1) : Nat) : Int) + G.q.length) = cap
      omega
    · show 0 ≤ (G.S.mk' b 3).room
      rw [eroom]; omega
    · refine ⟨?_, fun i l hl => (M.vw.link i l hl).frame fun e he => ?_, M.vw.nd⟩
      · obtain ⟨ws, w1, w2⟩ := M.vw.reg
        exact ⟨ws, by show (G.S.mk' b 3).V c.h = _; rw [hv, if_neg hch]; exact w1, ⟨w2.len, w2.cnt, w2.chg, w2.tk, w2.sv, w2.hd⟩⟩
      · show (G.S.mk' b 3).V e.h = _
        rw [hv, if_neg (hold _ (List.mem_cons_of_mem _ (List.mem_append_left _ (List.mem_append_left _ (List.mem_map.2 ⟨e, Ab.mem hl he, rfl⟩)))))]
    · rw [hv, if_pos rfl]; rfl
    · show (G.S.mk' b 3).V h = _
      rw [hv, if_neg hh]
theorem swept_mem {G1 : Gr} (p : Pre G1) (own : ∃ ws, G1.S.V c.h = some ws ∧ ws.length = n) (len : ∀ h ∈ xs ++ G1.q.map Wt.h, ∃ p q r, G1.S.V h = some [p, q, r])
    (perm : (G1.S.regs.map Reg.h).Perm (c.h :: (xs ++ G1.q.map Wt.h))) (rng : ∀ h ∈ G1.S.regs.map Reg.h, 1 ≤ h ∧ h ≤ G1.S.made) (nd : (G1.S.regs.map Reg.h).Nodup)
    (made : 0 ≤ G1.S.made ∧ G1.S.made < 2305843009213693952) (room : G1.S.room + 3 * (xs.length + G1.q.length) = cap) (room0 : 0 ≤ G1.S.room) (capb : cap ≤ 20000) (bads : G1.S.bads = 0) :
    Bk c cap n G1.swept xs ∧ (∀ h, G1.swept.S.V h ≠ none → G1.swept.S.V h = G1.S.V h) ∧ ∀ h ∈ c.h :: xs, G1.swept.S.V h = G1.S.V h := by
  have nd2 := perm.nodup_iff.1 nd
  have hV : ∀ h, G1.swept.S.V h = if h ∈ gone G1.q then none else G1.S.V h := fun h => V_frees (gone G1.q) G1.S h
  have hgq : ∀ h ∈ gone G1.q, h ∈ G1.q.map Wt.h := fun h hh => gone_sub hh
  have hng : ∀ h, h ∈ c.h :: xs → h ∉ gone G1.q := fun h hh hg => by
    rw [← List.cons_append] at nd2
    exact (List.nodup_append.1 nd2).2.2 h hh h (hgq h hg) rfl
  have keys : G1.swept.S.regs.map Reg.h = (G1.S.regs.map Reg.h).filter fun h => !(gone G1.q).contains h := frees_keys _ _
  have hkg := kept_gone G1.q
  have h3 : ∀ h ∈ gone G1.q, G1.S.size h = 3 := fun h hh => by
    obtain ⟨a, b, d, hv⟩ := len h (List.mem_append_right _ (hgq h hh))
    rw [size_V hv]; rfl
  have hroom : G1.swept.S.room = G1.S.room + 3 * (gone G1.q).length := frees_room (gone G1.q) G1.S (gone_nd p.nd) h3 room0 (by omega)
  refine ⟨⟨p.swept, ?_, ?_, ?_, ?_, ?_, ?_, ?_, ?_, capb, ?_⟩, fun h hn => ?_, fun h hh => by rw [hV, if_neg (hng h hh)]⟩
  · rw [hV, if_neg (hng _ (List.mem_cons_self ..))]; exact own
  · intro h hh
    rcases List.mem_append.1 hh with hh | hh
    · rw [hV, if_neg (hng _ (List.mem_cons_of_mem _ hh))]
      exact len h (List.mem_append_left _ hh)
    · rw [hV, if_neg (fun hg => gone_kept p.nd hg hh)]
      exact len h (List.mem_append_right _ (kept_sub hh))
  · rw [keys]
    refine (perm.filter _).trans ?_
    rw [← List.cons_append, List.filter_append, filter_gone p.nd]
    have : (c.h :: xs).filter (fun h => !(gone G1.q).contains h) = c.h :: xs := List.filter_eq_self.2 fun h hh => by
      have := hng h hh
      simpa using this
    rw [this]
    exact List.Perm.refl _
  · rw [keys]
    intro h hh
    have := rng h (List.mem_filter.1 hh).1
    show 1 ≤ h ∧ h ≤ (frees G1.S (gone G1.q)).made
    rw [frees_made]; exact this
  · rw [keys]; exact nd.filter _
  · show 0 ≤ (frees G1.S (gone G1.q)).made ∧ (frees G1.S (gone G1.q)).made < _
    rw [frees_made]; exact made
  · rw [hroom]
    show G1.S.room + 3 * ((gone G1.q).length : Int) + 3 * ((xs.length : Int) + (kept G1.q).length) = cap
    omega
  · rw [hroom]; omega
  · show (frees G1.S (gone G1.q)).bads = 0
    rw [frees_bads]; exact bads
  · rw [hV] at hn ⊢
    by_cases hg : h ∈ gone G1.q
    · rw [if_pos hg] at hn; exact absurd rfl hn
    · rw [if_neg hg]
theorem Mem.defer {h : Int} (M : Mem c cap A (h :: P) G) (b : Nat) :
    Mem c cap A P (G.defer h b).2 ∧ (∀ a, (G.defer h b).2.S.V a ≠ none → (G.defer h b).2.S.V a = G.S.V a) ∧ (∀ a ∈ c.h :: (A.els.map El.h ++ P), (G.defer h b).2.S.V a = G.S.V a) ∧ (G.defer h b).2.ins = G.ins ∧ (G.defer h b).2.q = kept (G.q ++ [⟨h, b, G.ins⟩]) ∧ (G.defer h b).2.S.made = G.S.made := by
  have B := M.bk
  obtain ⟨p1, p2, p3, hv⟩ := B.len h (by simp)
  have hs : G.S.size h ≠ 0 := by rw [size_V hv]; simp
  have nd := (List.nodup_cons.1 B.nd2).2
  have hq : h ∉ G.q.map Wt.h := fun hh => (List.nodup_append.1 nd).2.2 h (List.mem_append_right _ (by simp)) h hh rfl
  have e : G.defer h b = (gone (G.add h b).q, (G.add h b).swept) := if_neg (by simp only [not_or]; exact ⟨hs, hq⟩)
  rw [e]
  have hm : (G.add h b).q.map Wt.h = G.q.map Wt.h ++ [h] := by show (G.q ++ [_]).map Wt.h = _; rw [List.map_append]; rfl
  have hlen : ((G.add h b).q.length : Int) = G.q.length + 1 := by show ((G.q ++ [_]).length : Int) = _; simp
  obtain ⟨B', f1, f2⟩ := swept_mem (c := c) (cap := cap) (xs := A.els.map El.h ++ P) (n := 2 + 3 * A.ls.length) (B.ok.add (mb := b) h hq) B.own (fun a ha => B.len a (by
      rw [hm] at ha
      simp only [List.mem_append, List.mem_cons, List.not_mem_nil, or_false] at ha ⊢
      rcases ha with (ha | ha) | ha | ha
      · exact .inl (.inl ha)
      · exact .inl (.inr (.inr ha))
      · exact .inr ha
      · exact .inl (.inr (.inl ha)))) (B.perm.trans (by
      rw [hm]
      refine List.Perm.cons _ ?_
      simp only [List.append_assoc, List.cons_append]
      refine List.Perm.append_left _ ?_
      have : (P ++ (G.q.map Wt.h ++ [h])) = (P ++ G.q.map Wt.h) ++ [h] := by simp
      rw [this]
      exact (List.perm_append_comm (l₁ := [h]) (l₂ := P ++ G.q.map Wt.h))))
    B.rng B.nd B.made (by
      have := B.room
      rw [hlen]
      simp only [List.length_append, List.length_cons] at this ⊢
      show G.S.room + _ = cap
      omega) B.room0 B.capb B.bads
  refine ⟨⟨B', ?_, M.rooms, by show (frees G.S (gone (G.add h b).q)).made ≤ A.mb ∧ _; rw [frees_made]; exact M.made⟩, f1, f2, rfl, rfl, frees_made _ _⟩
  obtain ⟨ws, w1, w2⟩ := M.vw.reg
  refine ⟨⟨ws, (f2 c.h (List.mem_cons_self ..)).trans w1, w2⟩, fun i l hl => (M.vw.link i l hl).frame fun e he => f2 e.h (List.mem_cons_of_mem _ (List.mem_append_left _ (List.mem_map.2 ⟨e, Ab.mem hl he, rfl⟩))), M.vw.nd⟩
theorem Mem.free {h : Int} (M : Mem c cap A (h :: P) G) : Mem c cap A P (G.mem (G.S.free h).2) ∧ ∀ a, a ≠ h → (G.S.free h).2.V a = G.S.V a := by
  have B := M.bk
  obtain ⟨p1, p2, p3, hv⟩ := B.len h (by simp)
  have hV : ∀ a, (G.S.free h).2.V a = if a = h then none else G.S.V a := V_free G.S h
  have nd := B.nd2
  have hnd := (List.nodup_cons.1 nd).2
  rw [List.append_assoc] at hnd
  have hout : h ∉ A.els.map El.h ++ P ++ G.q.map Wt.h := fun hh => by
    have p : (A.els.map El.h ++ (h :: P ++ G.q.map Wt.h)).Perm (h :: (A.els.map El.h ++ P ++ G.q.map Wt.h)) := by
      rw [List.append_assoc, List.cons_append]; exact List.perm_middle
    exact (List.nodup_cons.1 (p.nodup_iff.1 hnd)).1 hh
  have hch : c.h ≠ h := (B.ne_c (h := h) (by simp)).symm
  have keys : (G.S.free h).2.regs.map Reg.h = (G.S.regs.map Reg.h).filter fun x => x != h := by
    unfold Sm.free; simp only [List.filter_map]; rfl
  have eroom : (G.S.free h).2.room = G.S.room + 3 := by
    show wr (G.S.room + G.S.size h) = _
    have := B.room; have := B.room0; have := B.capb
    rw [size_V hv, wrs (by simp; omega)]; rfl
  refine ⟨⟨⟨⟨⟨B.ok.ind, B.ok.nd, B.ok.ws⟩, B.ok.full⟩, ?_, fun a ha => ?_, ?_, ?_, ?_, B.made, ?_, ?_, B.capb, B.bads⟩, ?_, M.rooms, M.made⟩, fun a ha => by rw [hV, if_neg ha]⟩
  · obtain ⟨ws, w1, w2⟩ := B.own
    exact ⟨ws, by show (G.S.free h).2.V c.h = _; rw [hV, if_neg hch]; exact w1, w2⟩
  · have hne : a ≠ h := fun e => hout (e ▸ ha)
    show ∃ p q r, (G.S.free h).2.V a = _
    rw [hV, if_neg hne]
    refine B.len a ?_
    simp only [List.mem_append, List.mem_cons] at ha ⊢
    rcases ha with (ha | ha) | ha
    · exact .inl (.inl ha)
    · exact .inl (.inr (.inr ha))
    · exact .inr ha
  · show ((G.S.free h).2.regs.map Reg.h).Perm _
    rw [keys]
    refine (B.perm.filter _).trans ?_
    have p : (c.h :: (A.els.map El.h ++ h :: P ++ G.q.map Wt.h)).Perm (h :: c.h :: (A.els.map El.h ++ P ++ G.q.map Wt.h)) := by
      refine (List.Perm.cons c.h ?_).trans (List.Perm.swap _ _ _)
      rw [List.append_assoc, List.append_assoc, List.cons_append]; exact List.perm_middle
    refine (p.filter _).trans ?_
    rw [List.filter_cons_of_neg (by simp)]
    have : (c.h :: (A.els.map El.h ++ P ++ G.q.map Wt.h)).filter (fun x => x != h) = c.h :: (A.els.map El.h ++ P ++ G.q.map Wt.h) := List.filter_eq_self.2 fun x hx => by
      rcases List.mem_cons.1 hx with hx | hx
      · rw [hx]; simpa using hch
      · have : x ≠ h := fun e => hout (e ▸ hx)
        simpa using this
    rw [this]
  · show ∀ x ∈ (G.S.free h).2.regs.map Reg.h, _
    rw [keys]
    intro x hx
    exact B.rng x (List.mem_filter.1 hx).1
  · show ((G.S.free h).2.regs.map Reg.h).Nodup
    rw [keys]; exact B.nd.filter _
  · show (G.S.free h).2.room + _ = cap
    rw [eroom]
    have := B.room
    simp only [List.length_append, List.length_cons] at this ⊢
    show G.S.room + 3 + 3 * (((_ + _ : Nat) : Int) + G.q.length) = cap
    omega
  · show 0 ≤ (G.S.free h).2.room
    rw [eroom]; have := B.room0; omega
  · obtain ⟨ws, w1, w2⟩ := M.vw.reg
    refine ⟨⟨ws, by show (G.S.free h).2.V c.h = _; rw [hV, if_neg hch]; exact w1, w2⟩, fun i l hl => (M.vw.link i l hl).frame fun e he => ?_, M.vw.nd⟩
    show (G.S.free h).2.V e.h = _
    rw [hV, if_neg (M.el_ne (Ab.mem hl he) (by simp))]
end Go.Proofs.YtjggeoghlicmdaaGreat
namespace Go.Proofs.YtjggeoghlicmdaaGreat
open Go Go.AS Go.RowKit
set_option linter.unusedVariables false
variable {c : Lc} {A A' : Ab} {G : Gr} {P : List Int} {cap : Int} {q : Qr} {i : Nat} {pre rest : List El} {e : El} {b : Bs}
structure In (c : Lc) (A : Ab) (i : Nat) (q : Qr) (pre rest : List El) : Prop where
  room : q.room = i
  ls : A.ls[i]? = some (pre ++ rest)
  ah : q.ah = spotH c pre
  ai : q.ai = spotI i pre
theorem In.lt (h : In c A i q pre rest) : i < A.ls.length := (List.getElem?_eq_some_iff.1 h.ls).1
theorem In.same {q' : Qr} (h : In c A i q pre rest) (e1 : q'.room = q.room) (e2 : q'.ah = q.ah) (e3 : q'.ai = q.ai) : In c A i q' pre rest := ⟨e1.trans h.room, h.ls, e2.trans h.ah, e3.trans h.ai⟩
theorem In.el (h : In c A i q pre (e :: rest)) : e ∈ A.els := Ab.mem h.ls (by simp)
theorem In.on {q' : Qr} (h : In c A i q pre (e :: rest)) (e1 : q'.room = q.room) (e2 : q'.ah = e.h) (e3 : q'.ai = 0) : In c A i q' (pre ++ [e]) rest := by
  refine ⟨e1.trans h.room, by rw [List.append_assoc]; exact h.ls, ?_, ?_⟩
  · rw [e2]; unfold spotH; rw [List.getLast?_concat]
  · rw [e3]; unfold spotI; rw [List.getLast?_concat]; rfl
theorem Mem.elm (M : Mem c cap A P G) (he : e ∈ A.els) : e.h ∈ A.els.map El.h ++ P ++ G.q.map Wt.h := List.mem_append_left _ (List.mem_append_left _ (List.mem_map.2 ⟨e, he, rfl⟩))
theorem s_load (M : Mem c cap A P G) (I : In c A i q pre rest) (k : Wd) (bh : Bool) (cb : Cb) : doLoad q G.S k bh cb = (q.loaded (first rest) k bh cb, (G.S.acc q.ah q.ai true id).2) ∧ Mem c cap A P (G.mem (G.S.acc q.ah q.ai true id).2) ∧
    q.loaded (first rest) k bh cb = (match rest with | [] => ({ q with cur := 0 }.to (.ask k bh cb)).cb cb false | e :: _ => { q with cur := e.h }.to (.ask k bh cb)) := by
  obtain ⟨h1, h2, h3⟩ := M.ldSpot I.ls I.ah I.ai
  refine ⟨by unfold doLoad; rw [h1], h2, ?_⟩
  unfold Qr.loaded
  rw [M.first0 I.ls]
  cases rest with
  | nil => rfl
  | cons e r =>
    have := M.el_bd I.el
    show (if e.h = 0 then _ else _) = _
    rw [if_neg (by omega)]
theorem s_loadN (M : Mem c cap A P G) (I : In c A i q pre rest) (k : Wd) (bh : Bool) (cb : Cb) : doNx c (.load k bh cb) q G b = (q.loaded (first rest) k bh cb, G.mem (G.S.acc q.ah q.ai true id).2) := by
  show ((doLoad q G.S k bh cb).1, G.mem (doLoad q G.S k bh cb).2) = _
  rw [(s_load M I k bh cb).1]
theorem In.head {q' : Qr} {l : List El} (hl : A.ls[i]? = some l) (h1 : q'.room = i) (h2 : q'.ah = c.h) (h3 : q'.ai = hd i) (hi : i < 100) : In c A i q' [] l := ⟨h1, hl, h2, h3.trans (hd_nat hi)⟩
theorem s_th (M : Mem c cap A P G) {l : List El} (hl : A.ls[i]? = some l) (hr : q.room = i) (k : Th) :
    ∃ G', doNx c (.th k) q G b = (({ q with ah := c.h, ai := hd q.room }.to (.load (k.key q).1 (k.key q).2.1 (k.key q).2.2)).loaded (first l) (k.key q).1 (k.key q).2.1 (k.key q).2.2, G') ∧ Mem c cap A P G' := by
  have h32 := M.rooms.2.2
  have hi := (List.getElem?_eq_some_iff.1 hl).1
  have I : In c A i ({ q with ah := c.h, ai := hd q.room }.to (.load (k.key q).1 (k.key q).2.1 (k.key q).2.2)) [] l := In.head hl hr rfl (by show hd q.room = hd i; rw [hr]) (by omega)
  obtain ⟨h1, h2, _⟩ := s_load M I (k.key q).1 (k.key q).2.1 (k.key q).2.2
  refine ⟨_, ?_, h2⟩
  show ((doTh c k q G.S).1, G.mem (doTh c k q G.S).2) = _
  unfold doTh; rw [h1]
theorem s_ask (M : Mem c cap A P G) (I : In c A i q pre (e :: rest)) (hc : q.cur = e.h) (k : Wd) (bh : Bool) (cb : Cb) : doNx c (.ask k bh cb) q G b = (q.asked e.k k bh cb, G.mem (G.S.acc q.cur 1 true id).2) ∧ Mem c cap A P (G.mem (G.S.acc q.cur 1 true id).2) := by
  obtain ⟨h1, h2, h3⟩ := M.ldKey I.ls
  rw [hc]
  refine ⟨?_, h2⟩
  show (q.asked (G.S.acc q.cur 1 true id).1.1 k bh cb, G.mem (G.S.acc q.cur 1 true id).2) = _
  rw [hc, h1]
theorem s_look (M : Mem c cap A P G) (he : e ∈ A.els) (hc : q.cur = e.h) : ∃ G', doNx c .look q G b = ((q.give 0 [val G.S e.h] 0 (q.elem c (val G.S e.h))).to .leave, G') ∧ Mem c cap A P G' := by
  obtain ⟨h1, h2, h3⟩ := M.ldVal (M.elm he)
  refine ⟨G.mem (G.S.acc q.cur 2 true id).2, ?_, by rw [hc]; exact h2⟩
  show ((q.give 0 [(G.S.acc q.cur 2 true id).1.1] 0 (q.elem c (G.S.acc q.cur 2 true id).1.1)).to .leave, _) = _
  rw [hc, h1]
theorem s_change (M : Mem c cap A P G) (f : Fb) : ∃ G', doNx c (.change f) q G b = (q.to (.after f), G') ∧ Mem c cap { A with chg := A.chg + 1 } P G' := by
  obtain ⟨h1, h2, h3⟩ := M.chg (addF 1)
  rw [addF_eq] at h2
  exact ⟨_, rfl, h2⟩
theorem s_drop (M : Mem c cap A P G) : ∃ G', doNx c .drop q G b = (q.to (.after .drop), G') ∧ Mem c cap { A with chg := A.chg + 1 } P G' := by
  obtain ⟨h1, h2, h3⟩ := M.chg (addF 1)
  rw [addF_eq] at h2
  exact ⟨_, rfl, h2⟩
theorem s_take (M : Mem c cap A P G) : ∃ G', doNx c .take q G b = (q.to (.change (.take .away)), G') ∧ Mem c cap { A with cnt := A.cnt + tick } P G' := by
  obtain ⟨h1, h2, h3⟩ := M.cnt (addF tick)
  rw [addF_eq] at h2
  exact ⟨_, rfl, h2⟩
theorem s_off (M : Mem c cap A P G) (a : Aw) : ∃ G', doNx c (.off a) q G b = (q.to (.unl1 a), G') ∧ Mem c cap { A with cnt := A.cnt + untick } P G' := by
  obtain ⟨h1, h2, h3⟩ := M.cnt (addF untick)
  rw [addF_eq] at h2
  exact ⟨_, rfl, h2⟩
theorem s_afterDrop (M : Mem c cap A P G) : ∃ G', doNx c (.after .drop) q G b = ((q.give 0 [] 0 0).to (.unl1 .away), G') ∧ Mem c cap { A with cnt := fetchF 0 lowM lowM A.cnt } P G' := by
  obtain ⟨h1, h2, h3⟩ := M.cnt (fetchF 0 lowM lowM)
  exact ⟨_, rfl, h2⟩
theorem s_afterTake (M : Mem c cap A P G) (he : e ∈ A.els) (hc : q.cur = e.h) (a : Aw) : ∃ G', doNx c (.after (.take a)) q G b = ((q.give 0 [val G.S e.h] 0 0).to (.off a), G') ∧ Mem c cap A P G' := by
  obtain ⟨h1, h2, h3⟩ := M.ldVal (M.elm he)
  refine ⟨G.mem (G.S.acc q.cur 2 true id).2, ?_, by rw [hc]; exact h2⟩
  show ((q.give 0 [(G.S.acc q.cur 2 true id).1.1] 0 0).to (.off a), G.mem (G.S.acc q.cur 2 true id).2) = _
  rw [hc, h1]
theorem s_afterAdd (M : Mem c cap A P G) : ∃ G', Mem c cap { A with cnt := casF lowM q.was (q.was + 1) A.cnt } P G' ∧
    doNx c (.after .add) q G b = (if A.cnt &&& lowM = q.was then (q.give 0 [] 0 0).to .link else q.to .space, G') ∧ G'.S.V = fun h => if h = c.h then G'.S.V c.h else G.S.V h := by
  obtain ⟨h1, h2, h3⟩ := M.cnt (casF lowM q.was (q.was + 1))
  refine ⟨_, h2, ?_, funext fun h => ?_⟩
  · show ((doAfter c .add q G.S).1, G.mem (doAfter c .add q G.S).2) = _
    unfold doAfter
    simp only [h1]
    split <;> rfl
  · split
    · rename_i e; subst e; rfl
    · rename_i e; exact h3 h e
theorem s_unl1 (M : Mem c cap A P G) (I : In c A i q pre (e :: rest)) (hc : q.cur = e.h) (a : Aw) : ∃ G', doNx c (.unl1 a) q G b = (q.to (.unl2 (first rest) a), G') ∧ Mem c cap A P G' := by
  obtain ⟨h1, h2, h3⟩ := M.ldNext I.ls
  refine ⟨G.mem (G.S.acc q.cur 0 true id).2, ?_, by rw [hc]; exact h2⟩
  show (q.to (.unl2 (G.S.acc q.cur 0 true id).1.1 a), _) = _
  rw [hc, h1]
theorem s_leave (M : Mem c cap A P G) (hr : q.room = i) (hi : i < A.ls.length) : ∃ G', doNx c .leave q G b = ({ q with dn := true }, G') ∧ Mem c cap { A with sv := fun k => if k = i then A.sv i + 1 else A.sv k } P G' := by
  obtain ⟨h1, h2, h3⟩ := M.sv hi (addF 1)
  rw [addF_eq] at h2
  refine ⟨G.mem (dropL c q G.S), rfl, ?_⟩
  unfold dropL; rw [hr]; exact h2
theorem s_free (M : Mem c cap A P G) (hr : q.room = i) (hi : i < A.ls.length) (room : Int) : ∃ G', doNx c (.free room) q G b = (q.search c (wr (room + 1)) false b.1, G') ∧ Mem c cap { A with sv := fun k => if k = i then A.sv i + 1 else A.sv k } P G' := by
  obtain ⟨h1, h2, h3⟩ := M.sv hi (addF 1)
  rw [addF_eq] at h2
  refine ⟨G.mem (dropL c q G.S), rfl, ?_⟩
  unfold dropL; rw [hr]; exact h2
theorem s_freeBegin (M : Mem c cap A P G) (hr : q.room = i) (hi : i < A.ls.length) : ∃ G', doNx c .freeBegin q G b = (q.to .begin, G') ∧ Mem c cap { A with sv := fun k => if k = i then A.sv i + 1 else A.sv k } P G' := by
  obtain ⟨h1, h2, h3⟩ := M.sv hi (addF 1)
  rw [addF_eq] at h2
  refine ⟨G.mem (dropL c q G.S), rfl, ?_⟩
  unfold dropL; rw [hr]; exact h2
theorem s_begin (M : Mem c cap A P G) : ∃ G', doNx c .begin q G b = ({ q with was := A.chg }.search c (if q.fl = 1 then 0 else bkt q.ky c.d3) (decide (q.fl ≠ 1)) b.1, G') ∧ Mem c cap A P G' := by
  obtain ⟨h1, h2, h3⟩ := M.chg id
  refine ⟨G.mem (G.S.acc c.h 1 true id).2, ?_, h2⟩
  show (Qr.search c { q with was := (G.S.acc c.h 1 true id).1.1 } _ _ _, _) = _
  rw [h1]
theorem still_eq (M : Mem c cap A P G) : (q.still c G.S).1 = decide (A.chg = q.was) ∧ Mem c cap A P (G.mem (q.still c G.S).2) := by
  obtain ⟨h1, h2, h3⟩ := M.chg id
  unfold Qr.still
  exact ⟨by rw [h1], h2⟩
theorem s_stillNo (M : Mem c cap A P G) : ∃ G', doNx c .stillNo q G b = (if A.chg = q.was then { q.give 2 [] 0 0 with dn := true } else q.to .begin, G') ∧ Mem c cap A P G' := by
  obtain ⟨h1, h2⟩ := still_eq (q := q) M
  refine ⟨_, ?_, h2⟩
  show (if (q.still c G.S).1 then _ else _, _) = _
  rw [h1]
  by_cases e : A.chg = q.was
  · rw [if_pos e, if_pos (decide_eq_true e)]
  · rw [if_neg e, if_neg (by simpa using e)]
theorem s_stillKey (M : Mem c cap A P G) : ∃ G', doNx c .stillKey q G b = (if A.chg = q.was then (q.give 0 [] q.key 0).to .leave else q.to .freeBegin, G') ∧ Mem c cap A P G' := by
  obtain ⟨h1, h2⟩ := still_eq (q := q) M
  refine ⟨_, ?_, h2⟩
  show (if (q.still c G.S).1 then _ else _, _) = _
  rw [h1]
  by_cases e : A.chg = q.was
  · rw [if_pos e, if_pos (decide_eq_true e)]
  · rw [if_neg e, if_neg (by simpa using e)]
theorem s_draw (M : Mem c cap A P G) {t : Tk} {k : Th} (hi : i < A.ls.length) (ht : t.i = lk i) (hp : t.ph = 0) : ∃ G', doNx c (.enter t k) q G b = (q.to (.enter { t with t := A.tk i, ph := 1 } k), G') ∧ Mem c cap { A with tk := fun k => if k = i then A.tk i + 1 else A.tk k } P G' := by
  obtain ⟨h1, h2, h3⟩ := M.tk hi (addF 1)
  rw [addF_eq] at h2
  have et : t.step c G.S = (false, { t with t := A.tk i, ph := 1 }, (G.S.acc c.h (lk i) true (addF 1)).2) := by
    unfold Tk.step
    rw [if_pos hp, ht]
    simp only [h1, if_true]
  refine ⟨_, ?_, h2⟩
  show (q.to (if (t.step c G.S).1 then .th k else .enter (t.step c G.S).2.1 k), G.mem (t.step c G.S).2.2) = _
  rw [et]; rfl
theorem s_wait (M : Mem c cap A P G) {t : Tk} {k : Th} (hi : i < A.ls.length) (ht : t.i = lk i) (hp : t.ph = 1) : ∃ G', doNx c (.enter t k) q G b = (q.to (if A.sv i = t.t then .th k else .enter t k), G') ∧ Mem c cap A P G' := by
  obtain ⟨h1, h2, h3⟩ := M.sv hi id
  have h2 : Mem c cap A P (G.mem (G.S.acc c.h (wr (lk i + 1)) true id).2) := by
    have e : ({ A with sv := fun k => if k = i then id (A.sv i) else A.sv k } : Ab) = A := by
      have : (fun k => if k = i then id (A.sv i) else A.sv k) = A.sv := by
        funext k; split
        · rename_i e; rw [e]; rfl
        · rfl
      rw [this]
    rw [e] at h2; exact h2
  have et : t.step c G.S = (if A.sv i = t.t then (true, { t with ph := 2 }, (G.S.acc c.h (wr (lk i + 1)) true id).2) else (false, t, (G.S.acc c.h (wr (lk i + 1)) true id).2)) := by
    unfold Tk.step
    rw [if_neg (show ¬ t.ph = 0 by omega), if_pos hp, ht, h1]
    by_cases e : A.sv i = t.t
    · rw [if_pos ⟨rfl, e⟩, if_pos e, ← ht]
    · rw [if_neg (fun h => e h.2), if_neg e]
  refine ⟨_, ?_, h2⟩
  show (q.to (if (t.step c G.S).1 then .th k else .enter (t.step c G.S).2.1 k), G.mem (t.step c G.S).2.2) = _
  rw [et]
  by_cases e : A.sv i = t.t
  · rw [if_pos e, if_pos e]; rfl
  · rw [if_neg e, if_neg e]; rfl
theorem s_words {h : Int} {gw bw n : Nat} {all ws : List Wd} (M : Mem c cap A (h :: P) G) (hv : G.S.V h = some ws) (hl : ws.length = 3) (hn : 1 ≤ n ∧ n ≤ 3) :
    ∃ G', doNx c (.words gw bw h all n) q G b = (q.to (if n = 1 then .change .add else .words gw bw h all (n - 1)), G') ∧ Mem c cap A (h :: P) G' ∧ G'.S.V h = some (ws.set (n - 1) (all.getD (n - 1) 0)) := by
  obtain ⟨h1, h2, h3⟩ := M.stP (h := h) (by simp) hv (i := n - 1) (j := ((n - 1 : Nat) : Int)) (by omega) rfl (all.getD (n - 1) 0)
  refine ⟨_, rfl, h2, ?_⟩
  show (G.S.acc h ((n - 1 : Nat) : Int) true fun _ => all.getD (n - 1) 0).2.V h = _
  rw [h3, if_pos rfl]
end Go.Proofs.YtjggeoghlicmdaaGreat
namespace Go.Proofs.YtjggeoghlicmdaaGreat
open Go Go.AS Go.RowKit
set_option linter.unusedVariables false
variable {c : Lc} {A A' : Ab} {G : Gr} {Pv : List Int} {cap : Int} {q : Qr} {i : Nat} {pre rest : List El} {e : El} {b : Bs} {P : Qr → Gr → Prop} {n m : Nat} {had : Bool} {mx : Int}
theorem In.to {q' : Qr} (h : In c A i q pre rest) (e0 : A'.ls = A.ls) (e1 : q'.room = q.room) (e2 : q'.ah = q.ah) (e3 : q'.ai = q.ai) : In c A' i q' pre rest := ⟨e1.trans h.room, by rw [e0]; exact h.ls, e2.trans h.ah, e3.trans h.ai⟩
def Al (c : Lc) (P : Qr → Gr → Prop) : Nat → Bool → Qr → Gr → Prop
  | 0, _, _, _ => False
  | n + 1, had, q, G => q.dn = false ∧ q.nx ≠ .none ∧ G.S.fresh ∧ G.q.length < 10000 ∧ ∀ b,
      ((q.step c G b).1.dn = true → had.toNat + (q.step c G b).1.eff.toNat = 1 ∧ P (q.step c G b).1 (q.step c G b).2) ∧
      ((q.step c G b).1.dn = false → had.toNat + (q.step c G b).1.eff.toNat ≤ 1 ∧ Al c P n (had || (q.step c G b).1.eff) (q.step c G b).1 (q.step c G b).2)
structure Idle (c : Lc) (cap mx : Int) (A : Ab) (G : Gr) : Prop where
  mem : Mem c cap A [] G
  lock : ∀ j, j < A.ls.length → A.tk j = A.sv j
  cnt : A.cnt = BitVec.ofNat 64 A.ls.flatten.length
  le : (A.ls.flatten.length : Int) ≤ c.d1
  d1 : 1 ≤ c.d1 ∧ c.d1 ≤ 64
  mx : A.mb ≤ mx
theorem and_low (w : Wd) : (w &&& lowM).toNat = w.toNat % 4294967296 := by
  rw [BitVec.toNat_and]
  show w.toNat &&& (2 ^ 32 - 1) = _
  rw [Nat.and_two_pow_sub_one_eq_mod]
end Go.Proofs.YtjggeoghlicmdaaGreat
namespace Go.Proofs.YtjggeoghlicmdaaGreat
open Go Go.AS Go.RowKit
set_option linter.unusedVariables false
variable {c : Lc} {A A' : Ab} {G : Gr} {Pv : List Int} {cap : Int} {q q0 : Qr} {i : Nat} {pre rest : List El} {e : El} {b : Bs} {P : Qr → Gr → Prop} {n m k : Nat} {had : Bool} {mx : Int} {h : Int}
def curOf : List El → Int
  | [] => 0
  | e :: _ => e.h
end Go.Proofs.YtjggeoghlicmdaaGreat
namespace Go.Proofs.YtjggeoghlicmdaaGreat
open Go Go.AS Go.RowKit
set_option linter.unusedVariables false
variable {c : Lc} {A A' : Ab} {G : Gr} {Pv : List Int} {cap : Int} {q q0 : Qr} {i : Nat} {pre rest : List El} {e : El} {P : Qr → Gr → Prop} {n m k : Nat} {had : Bool} {mx : Int} {h : Int}
abbrev drawn (A : Ab) (i : Nat) : Ab := { A with tk := fun k => if k = i then A.tk i + 1 else A.tk k }
abbrev freed (A : Ab) (i : Nat) : Ab := { A with sv := fun k => if k = i then A.sv i + 1 else A.sv k }
theorem bkt_in {k : Wd} {n : Int} (h : 1 ≤ n) : 0 ≤ bkt k n ∧ bkt k n < n := by
  unfold bkt
  rw [if_neg (by omega)]
  exact ⟨Int.emod_nonneg _ (by omega), Int.emod_lt_of_pos _ (by omega)⟩
end Go.Proofs.YtjggeoghlicmdaaGreat
namespace Go.Proofs.YtjggeoghlicmdaaGreat
open Go Go.AS Go.RowKit
set_option linter.unusedVariables false
variable {H H' : Heap} {R : Value → Heap → Prop} {L : List Asr} {m : Nat} {S : Sm} {c : Lc} {q : Qr} {X : Gx}
theorem newG2_s {n : Int} (hs : Sep H (mem m S :: L)) (hR : ∀ H' g mi, IsG H' g m ⟨n, mi, [], [], S⟩ L → R (P g) H') : CA en F.grace_New [I n, P m] H R := by
  apply vc_grace_New
  refine im_new (ik := .i64) hs fun mi H2 h2 => Sep.nw h2 fun g H4 h4 => hR H4 g mi ⟨none, [], fun _ => rfl, fun _ => rfl, ?_⟩
  have h5 : Sep H4 (wm [] :: bx g (.cells true 0 [P m, I n, .map (some mi), .slice none 0 0]) :: im .i64 mi [] :: mem m S :: L) := Sep.many0 h4
  have h6 : Sep H4 (gl 2 none [] :: wm [] :: bx g (.cells true 0 [P m, I n, .map (some mi), .slice none 0 0]) :: im .i64 mi [] :: mem m S :: L) := gl_none.2 h5
  exact Sep.pick h6 5 [2, 3, 0, 1, 4] (by decide)
theorem genter_s {g m : Nat} {a : Int} {M : List Asr} (h : Sep H (grA g m X :: M))
    (hR : ∀ H' X', X'.G = (X.G.enter a).2 → Sep H' (grA g m X' :: M) → R (.bool (X.G.enter a).1) H') : CA en F.grace_Grace_Enter [P g, I a] H R :=
  enter_s (gr_isG h) fun H' h' => by
    obtain ⟨X', e, h2⟩ := isG_gr h'
    exact hR H' X' e h2
theorem hash_chk {n b : Int} (h : 1 ≤ n ∧ n ≤ 64) (hb : pow b) : chks [⟨4, n, 1, b, 0⟩] = 0 := by
  have e1 : ¬ (n < 1) := by omega
  have e2 : ¬ (n > 64) := by omega
  simp [chks, firstBad, chk, kindOf, kindD, e1, e2, hb]
theorem pow_b {b : Int} (h : pow b) : 1 ≤ b ∧ b ≤ 32 := by
  rcases h with rfl | rfl | rfl | rfl | rfl | rfl <;> decide
abbrev hcOf (x m g : Nat) (n b : Int) : Lc := ⟨x, m, g, 4, n, 1, b, 0, 1⟩
theorem hnew_s {g : Nat} {n b : Int} (hn : 1 ≤ n ∧ n ≤ 64) (hb : pow b) (h : Sep H (grA g m X :: L)) (hm : X.G.S.made = 0) (hf : X.G.S.fresh) (hroom : 100 ≤ X.G.S.room)
    (hR : ∀ H' x bk, Sep H' (xA (hcOf x m g n b) :: grA g m (X.to (X.G.S.mk' bk (2 + 3 * b).toNat)) :: L) → R (.tuple #[P x, I 0]) H') : CA en F.hash_New [P m, P g, .agg #[I 4, I n, I 1, I b, I 0]] H R := by
  have hb2 := pow_b hb
  have ew : wr (2 + wr (3 * b)) = 2 + 3 * b := by rw [wrs (n := 3 * b) (by omega), wrs (by omega)]
  apply vc_hash_New
  refine Sep.nw h fun i1 H2 h2 => ⟨_, _, _, _, _, Sep.lds0 h2 rfl, Sep.nw h2 fun i8 H9 h9 => Sep.st0 h9 (Nat.le_of_ble_eq_true rfl) fun H10 h10 => Sep.st0 h10 (Nat.le_of_ble_eq_true rfl) fun H11 h11 => Sep.st0 h11 (Nat.le_of_ble_eq_true rfl) fun H12 h12 => ⟨_, Sep.ld1 h12 rfl, cond_no rfl ⟨_, _, _, _, _, Sep.lds0 h12 rfl, Sep.nw h12 fun i42 H43 h43 => ?_⟩⟩⟩
  refine Check_ok (l := [⟨4, n, 1, b, 0⟩]) ⟨rfl, .inr ⟨i42, true, 5, rfl, h43.footlt (by simp [bx]), Sep.get0 h43⟩⟩ fun H45 fr => ⟨_, rfl, ?_⟩
  have h45 := (h43.keep fr).tail
  rw [hash_chk hn hb]
  refine cond_no rfl ⟨_, Sep.ld1 h45 rfl, ?_⟩
  show CA en F.smem_Mem_Make [P m, I (wr (2 + wr (3 * b)))] H45 _
  rw [ew]
  refine gmake_s (Sep.up2 h45) hf fun H49 bk h49 => ⟨_, _, rfl, ?_⟩
  have e : X.G.S.make bk (2 + 3 * b) = ((1, 0), X.G.S.mk' bk (2 + 3 * b).toNat) := by
    unfold Sm.make
    rw [if_neg (by omega), if_neg (by omega), hm]; rfl
  rw [e] at h49 ⊢
  refine cond_no rfl ⟨_, _, _, _, _, Sep.lds2 h49 rfl, Sep.nw h49 fun x H58 h58 => ?_⟩
  exact hR H58 x bk (Sep.pick h58 4 [0, 1] (by decide))
def ents (k : Nat) : List Int := (List.range k).map Int.ofNat
theorem ents_mem {k : Nat} {a : Int} : a ∈ ents k ↔ 0 ≤ a ∧ a < k := by
  unfold ents
  simp only [List.mem_map, List.mem_range]
  constructor
  · rintro ⟨j, hj, rfl⟩; exact ⟨by simp, by simpa using hj⟩
  · intro ⟨h0, h1⟩; exact ⟨a.toNat, by omega, by simp; omega⟩
theorem ents_succ (k : Nat) : ents (k + 1) = ents k ++ [(k : Int)] := by unfold ents; rw [List.range_succ, List.map_append]; rfl
theorem ents_nd (k : Nat) : (ents k).Nodup := by
  unfold ents
  exact List.Pairwise.map _ (fun a b h e => h (Int.ofNat.inj e)) List.nodup_range
theorem idle_new {mp mi bk x m g B : Nat} {n b room : Int} (hn : 1 ≤ n ∧ n ≤ 64) (hb : pow b) (hB : b = (B : Int)) (hr : 100 ≤ room ∧ room ≤ 20000) :
    Idle (hcOf x m g n b) (room - (2 + 3 * b)) 1 ⟨List.replicate B [], 0, 0, fun _ => 0, fun _ => 0, 1⟩ (⟨10, mi, ents 10, [], (newSm mp room).mk' bk (2 + 3 * b).toNat⟩ : Gr) := by
  have hb2 := pow_b hb
  have hc : clampRoom room = room := by rw [clampRoom_eq]; omega
  have hw : wr ((newSm mp room).made + 1) = 1 := wrs (by simp [newSm])
  have eB : (2 + 3 * b).toNat = 2 + 3 * B := by omega
  have hV : ((newSm mp room).mk' bk (2 + 3 * b).toNat).V 1 = some (List.replicate (2 + 3 * B) 0) := by
    rw [V_mk bk _ rfl, hw, if_pos rfl, eB]
  have hk : ((newSm mp room).mk' bk (2 + 3 * b).toNat).regs.map Reg.h = [1] := by
    show [wr ((newSm mp room).made + 1)] = [1]
    rw [hw]
  have hmd : ((newSm mp room).mk' bk (2 + 3 * b).toNat).made = 1 := hw
  have hrm : ((newSm mp room).mk' bk (2 + 3 * b).toNat).room = room - (2 + 3 * b) := by
    show wr (clampRoom room - ((2 + 3 * b).toNat : Nat)) = _
    rw [hc, wrs (by omega)]; omega
  have hels : (List.replicate B ([] : List El)).flatten = [] := by simp
  have hg : ∀ i, (List.replicate (2 + 3 * B) (0 : Wd)).getD i 0 = 0 := fun i => by
    rw [List.getD_eq_getElem?_getD, List.getElem?_replicate]; split <;> rfl
  refine ⟨⟨⟨⟨⟨ents_nd 10, by simp, by simp⟩, by simp⟩, ⟨_, hV, by simp⟩, ?_, ?_, ?_, ?_, ?_, ?_, ?_, ?_, rfl⟩, ⟨⟨_, hV, ⟨by simp, hg _, hg _, fun i _ => hg _, fun i _ => hg _, fun i l hl => ?_⟩⟩, fun i l hl => ?_, ?_⟩, ?_, ?_⟩, fun _ _ => rfl, ?_, ?_, hn, by show (1 : Int) ≤ 1; decide⟩
  · show ∀ h ∈ (Ab.els _).map El.h ++ [] ++ [], _
    unfold Ab.els; rw [hels]; simp
  · show (((newSm mp room).mk' bk (2 + 3 * b).toNat).regs.map Reg.h).Perm (1 :: ((Ab.els _).map El.h ++ [] ++ []))
    rw [hk]; unfold Ab.els; rw [hels]; exact List.Perm.refl _
  · show ∀ h ∈ ((newSm mp room).mk' bk (2 + 3 * b).toNat).regs.map Reg.h, 1 ≤ h ∧ h ≤ ((newSm mp room).mk' bk (2 + 3 * b).toNat).made
    rw [hk, hmd]; intro h hh; simp only [List.mem_singleton] at hh; omega
  · show (((newSm mp room).mk' bk (2 + 3 * b).toNat).regs.map Reg.h).Nodup
    rw [hk]; simp
  · show 0 ≤ ((newSm mp room).mk' bk (2 + 3 * b).toNat).made ∧ ((newSm mp room).mk' bk (2 + 3 * b).toNat).made < _
    rw [hmd]; decide
  · show ((newSm mp room).mk' bk (2 + 3 * b).toNat).room + 3 * ((((Ab.els _).map El.h ++ []).length : Int) + (([] : List Wt).length : Nat)) = room - (2 + 3 * b)
    rw [hrm]; unfold Ab.els; rw [hels]; simp
  · show 0 ≤ ((newSm mp room).mk' bk (2 + 3 * b).toNat).room
    rw [hrm]; omega
  · show room - (2 + 3 * b) ≤ 20000; omega
  · rw [hg]
    have := List.mem_of_getElem? hl
    rw [List.eq_of_mem_replicate this]; rfl
  · have := List.mem_of_getElem? hl
    rw [List.eq_of_mem_replicate this]; trivial
  · show ((1 : Int) :: (Ab.els _).map El.h).Nodup
    unfold Ab.els; rw [hels]; simp
  · show b = ((List.replicate B ([] : List El)).length : Nat) ∧ 1 ≤ (List.replicate B ([] : List El)).length ∧ (List.replicate B ([] : List El)).length ≤ 32
    rw [List.length_replicate]; omega
  · show ((newSm mp room).mk' bk (2 + 3 * b).toNat).made ≤ 1 ∧ (1 : Int) < _
    rw [hmd]; decide
  · show (0 : Wd) = BitVec.ofNat 64 (List.replicate B ([] : List El)).flatten.length
    rw [hels]; rfl
  · show (((List.replicate B ([] : List El)).flatten.length : Nat) : Int) ≤ n
    rw [hels]; show (0 : Int) ≤ n; omega
theorem made_s {n b room : Int} (hn : 1 ≤ n ∧ n ≤ 64) (hb : pow b) (hr : 100 ≤ room ∧ room ≤ 20000) (h : Sep H L)
    (hR : ∀ H' x m g X A, Idle (hcOf x m g n b) (room - (2 + 3 * b)) 1 A X.G → A.ls = List.replicate b.toNat [] → X.G.n = 10 → X.G.ins = ents 10 → X.G.q = [] → A.chg = 0 → Sep H' (xA (hcOf x m g n b) :: grA g m X :: L) → R (.tuple #[P x, P m, P g]) H') : CA en F.crossbarlaw15_made [I n, I b, I room] H R := by
  have hc : clampRoom room = room := by rw [clampRoom_eq]; omega
  have hb2 := pow_b hb
  apply vc_crossbarlaw15_made
  refine new_s h fun H2 m mp h2 => ⟨_, rfl, cond_no rfl ?_⟩
  refine newG2_s h2 fun H5 g mi hg => ⟨_, rfl, cond_no rfl ?_⟩
  obtain ⟨X0, eX, h5⟩ := isG_gr hg
  refine use_crossbarlaw15_made_0 (fun k t6 t7 t8 t11 H => ∃ (j : Nat) (X : Gx), j ≤ 10 ∧ k = 10 - j ∧ t11 = (j : Int) ∧ X.G = ⟨10, mi, ents j, [], newSm mp room⟩ ∧ Sep H (grA g m X :: L)) 10 ⟨0, X0, by decide, rfl, rfl, eX, h5⟩ ?_
  rintro k t6 t7 t8 t11 ys H1 ⟨j, X, hj, rfl, rfl, hX, h1⟩
  refine cond_of (fun e => ?_) fun e => ?_
  · have e : j < 10 := by have := of_decide_eq_true e; omega
    refine genter_s h1 fun H2 X' eX' h2 => ⟨_, rfl, ?_⟩
    have he : X.G.enter (j : Int) = (true, ⟨10, mi, ents (j + 1), [], newSm mp room⟩) := by
      rw [hX, ents_succ]
      unfold Gr.enter
      rw [if_neg]
      rintro (h | h | h)
      · omega
      · have h : (10 : Int) ≤ j := h
        omega
      · have := (ents_mem.1 h).2; omega
    rw [he] at eX' ⊢
    refine cond_no rfl ⟨10 - (j + 1), by omega, j + 1, X', by omega, rfl, by rw [wrap_i64 (by omega)]; omega, eX', h2⟩
  · have e : j = 10 := by have := of_decide_eq_false e; omega
    subst e
    refine asPtr_in (asPtr_in (asPtr_in ?_))
    refine hnew_s hn hb h1 (by rw [hX]; rfl) (by rw [hX]; rfl) (by rw [hX]; show 100 ≤ clampRoom room; rw [hc]; exact hr.1) fun H13 x bk h13 => ⟨_, _, rfl, cond_no rfl ?_⟩
    refine hR H13 x m g (X.to (X.G.S.mk' bk (2 + 3 * b).toNat)) ⟨List.replicate b.toNat [], 0, 0, fun _ => 0, fun _ => 0, 1⟩ ?_ rfl ?_ ?_ ?_ rfl h13
    · show Idle _ _ _ _ (X.G.mem (X.G.S.mk' bk (2 + 3 * b).toNat))
      rw [hX]; exact idle_new hn hb (by omega) hr
    · show X.G.n = 10
      rw [hX]
    · show X.G.ins = ents 10
      rw [hX]
    · show X.G.q = []
      rw [hX]
theorem Rk.gone {PL : List Asr} {r : Nat} (h : Rk H PL r c q X L) : Sep H (xA c :: grA c.g c.m X :: L) := by
  obtain ⟨sa, nv, hrv, hnv, hs⟩ := h.ex
  exact Sep.pick hs 5 [2, 3] (by decide)
theorem finish_s {Pq : Qr → Gr → Prop} {PL : List Asr} {r N : Nat} {most : Int} (h : Rk H PL r c q X L) (hA : Al c Pq N false q X.G) (hN : (N : Int) ≤ most) (hm : most < 100000) (hd3 : c.d3 < 9223372036854775808)
    (hR : ∀ H' X' q' o, Pq q' X'.G → (o = none → q'.rv = []) → Sep H' (xA c :: grA c.g c.m X' :: gl 1 o (q'.rv.map W) :: L) → R (.tuple #[.agg #[I q'.no, .slice (addr o) q'.rv.length 0, W q'.rk, I q'.el], .bool true]) H') :
    CA en F.crossbarlaw15_finish [P r, I most] H R := by
  apply vc_crossbarlaw15_finish
  obtain ⟨sa0, nv0, hrv0, hnv0, hs0⟩ := h.ex
  refine Sep.nw hs0 fun i1 H2 h2 => cond_no rfl ?_
  have h2' : Rk H2 PL r c q X (bx i1 (.cells true 0 [I 0, .slice none 0 0, W 0, I 0]) :: L) := ⟨sa0, nv0, hrv0, hnv0, Sep.pick h2 6 [1, 2, 3, 4, 5, 0] (by decide)⟩
  refine use_crossbarlaw15_finish_0 (fun k t5 t6 t7 H => ∃ (j : Nat) (had : Bool) (q : Qr) (PL : List Asr) (X : Gx), t6 = (had.toNat : Int) ∧ t7 = (j : Int) ∧ (j : Int) + k ≤ most ∧ Al c Pq k had q X.G ∧ Rk H PL r c q X (bx i1 (.cells true 0 [I 0, .slice none 0 0, W 0, I 0]) :: L)) N ⟨0, false, q, PL, X, rfl, rfl, by omega, hA, h2'⟩ ?_
  rintro k t5 t6 t7 ys H1 ⟨j, had, q, PL, X, rfl, rfl, hj, hA, hk⟩
  match k, hA with
  | k + 1, ⟨a1, a2, a3, a4, a5⟩ =>
  refine cond_yes (by rw [decide_eq_true_eq]; omega) ?_
  refine step_s hk a4 a3 (fun _ => a2) hd3 fun H2 PL' X' b hp eX o2 => ?_
  have et : q.tells (q.step c X.G b).1 = ((q.step c X.G b).1.eff, (q.step c X.G b).1.dn) := by unfold Qr.tells; rw [if_neg (by rw [a1]; exact Bool.false_ne_true)]
  rw [et]
  refine ⟨_, _, rfl, ?_⟩
  have wj : IntKind.i64.wrap ((j : Int) + 1) = ((j + 1 : Nat) : Int) := by rw [wrap_i64 (by omega)]; omega
  have wt : had.toNat + (q.step c X.G b).1.eff.toNat ≤ 1 → IntKind.i64.wrap ((had.toNat : Int) + 1) = ((had.toNat + 1 : Nat) : Int) := fun _ => by cases had <;> decide
  have fin : (q.step c X.G b).1.dn = true → ∀ te : Bool, te = true → CA en F.hash_Run_Result [P r] H2 fun v H' => ∃ n7, ∃ a8 i9, ∃ n10, ∃ n11, v = (.agg #[I n7, .slice a8 i9 0, .int .u64 n10, I n11]) ∧ stc H' i1 0 [I n7, .slice a8 i9 0, .int .u64 n10, I n11] fun H12 =>
      AS.asBool (.bool te) fun b20 => ∃ n21, ∃ a22 i23, ∃ n24, ∃ n25, H12.cellsAt i1 0 4 = some [I n21, .slice a22 i23 0, .int .u64 n24, I n25] ∧ R (.tuple #[.agg #[I n21, .slice a22 i23 0, .int .u64 n24, I n25], .bool b20]) H12 := by
    intro hd te hte
    refine rres_s o2 fun H3 o ho o3 => ⟨_, _, _, _, _, rfl, ?_⟩
    have g3 := o3.gone
    have g4 := Sep.pick g3 4 [3, 0, 1, 2] (by decide)
    refine Sep.st0 g4 (Nat.le_of_ble_eq_true rfl) fun H5 h5 => ?_
    rw [hte]
    refine ⟨_, _, _, _, _, Sep.lds0 h5 rfl, ?_⟩
    refine hR H5 X' _ o ?_ ho (Sep.rm0 h5)
    rw [eX]; exact ((a5 b).1 hd).2
  have go : (q.step c X.G b).1.dn = false → ∀ t, t = ((had.toNat + (q.step c X.G b).1.eff.toNat : Nat) : Int) → ∃ k', k' < k + 1 ∧ ∃ (j' : Nat) (had : Bool) (q : Qr) (PL : List Asr) (X : Gx), t = (had.toNat : Int) ∧ IntKind.i64.wrap ((j : Int) + 1) = (j' : Int) ∧ (j' : Int) + k' ≤ most ∧ Al c Pq k' had q X.G ∧ Rk H2 PL r c q X (bx i1 (.cells true 0 [I 0, .slice none 0 0, W 0, I 0]) :: L) := fun hd t ht => by
    have h1 := (a5 b).2 hd
    refine ⟨k, by omega, j + 1, had || (q.step c X.G b).1.eff, (q.step c X.G b).1, PL', X', ?_, wj, by omega, ?_, o2⟩
    · rw [ht]
      have h2 := h1.1
      revert h2
      cases had <;> cases (q.step c X.G b).1.eff <;> decide
    · rw [eX]; exact h1.2
  refine cond_of (fun ee => ?_) fun ee => ?_
  · have ee : (q.step c X.G b).1.eff = true := ee
    refine cond_of (fun dd => ?_) fun dd => ?_
    · have h1 := ((a5 b).1 dd).1
      have h0 : had = false := by
        rw [ee] at h1
        cases had with
        | false => rfl
        | true => exact absurd h1 (by decide)
      subst h0
      exact fin dd (IntKind.i64.wrap (((Bool.toNat false : Nat) : Int) + 1) == 1) (by decide)
    · exact go dd _ (by rw [wt ((a5 b).2 dd).1, ee]; rfl)
  · have ee : (q.step c X.G b).1.eff = false := ee
    refine cond_of (fun dd => ?_) fun dd => ?_
    · have h1 := ((a5 b).1 dd).1
      have h0 : had = true := by
        rw [ee] at h1
        cases had with
        | true => rfl
        | false => exact absurd h1 (by decide)
      subst h0
      exact fin dd (((Bool.toNat true : Nat) : Int) == 1) (by decide)
    · exact go dd _ (by rw [ee]; cases had <;> rfl)
end Go.Proofs.YtjggeoghlicmdaaGreat
