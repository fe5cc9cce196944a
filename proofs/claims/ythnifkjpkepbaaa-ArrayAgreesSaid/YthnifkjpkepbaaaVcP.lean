/-
  What functions of this seat's program need (printed by a program, checked by the kernel).
-/
import Derived.Test.YthnifkjpkepbaaaNames
import Derived.Test.YthnifkjpkepbaaaAs41
namespace Go.Proofs.Ythnifkjpkepbaaa
open Go Go.AS Go.RowKit
set_option linter.unusedVariables false
set_option maxRecDepth 100000
set_option maxHeartbeats 2000000

/-! crossbarref13_Great -/
noncomputable def L_crossbarref13_Great_0 : Code := loopAt Go.Proofs.Try.f31 0
noncomputable def L_crossbarref13_Great_1 : Code := loopAt Go.Proofs.Try.f31 1

theorem vc_crossbarref13_Great (x0 : Option Addr) (x0l : Nat) (x1 : Option Addr) (x1l : Nat) (H : Heap) (R : Value → Heap → Prop) :
    (
 bif (decide (((x0l : Nat) : Int) < 1)) then (
 R (.bool true) H)
 else (
 bif (decide (((x0l : Nat) : Int) > 4)) then (
 R (.bool true) H)
 else (
 bif (decide (((x1l : Nat) : Int) > 600)) then (
 R (.bool true) H)
 else (
 LA en L_crossbarref13_Great_0 [(.slice x0 x0l 0), (.slice x1 x1l 0), undef, undef, (.bool false), (.int .i64 0), undef, (.slice x0 x0l 0), (.int .i64 ((x0l : Nat) : Int)), (.bool (decide (((x0l : Nat) : Int) < 1))), (.bool false), (.slice x0 x0l 0), (.int .i64 ((x0l : Nat) : Int)), (.bool (decide (((x0l : Nat) : Int) > 4))), (.bool (decide (((x0l : Nat) : Int) > 4))), (.bool false), (.slice x1 x1l 0), (.int .i64 ((x1l : Nat) : Int)), (.bool (decide (((x1l : Nat) : Int) > 600))), (.bool false), undef, undef, undef, undef, undef, undef, undef, undef, undef, undef, undef, undef, undef, undef, undef, undef, undef, undef, undef, undef, undef, undef, undef, undef, undef, undef, undef, undef, undef, undef, undef, undef] H [(X.exit 0, fun (y1 : Fr) (H2 : Heap) =>
 AS.asBool (y1.getD 4 undef) fun b3 =>
 R (.bool false) H2),
 (X.ret, fun (y4 : Fr) (H5 : Heap) =>
 AS.asBool (y4.getD 4 undef) fun b6 =>
 R (.bool b6) H5),
 (X.ret, fun (y7 : Fr) (H8 : Heap) =>
 AS.asBool (y7.getD 4 undef) fun b9 =>
 R (.bool b9) H8)])))) →
    CA en F.crossbarref13_Great [(.slice x0 x0l 0), (.slice x1 x1l 0)] H R := by
  intro h
  refine wpFn_ok (Z := [[(4, (.bool false))], [(4, (.bool false))]]) (fn := Go.Proofs.Try.f31) ?_ ?_ ?_
  · kernel_rfl
  · kernel_rfl
  · apply turnInto h
    kernel_rfl

theorem use_crossbarref13_Great_0 {t0 : Option Addr} {t0l : Nat} {t1 : Option Addr} {t1l : Nat} {t7 : Option Addr} {t7l : Nat} {t8 : Int} {t9 : Bool} {t11 : Option Addr} {t11l : Nat} {t12 : Int} {t13 : Bool} {t14 : Bool} {t16 : Option Addr} {t16l : Nat} {t17 : Int} {t18 : Bool} {K0 : Fr → Heap → Prop} {K1 : Fr → Heap → Prop} {K2 : Fr → Heap → Prop} {t4 : Bool} {t5 : Int} {t6 : Value} {t20 : Value} {t21 : Value} {t22 : Value} {t23 : Value} {t24 : Value} {t25 : Value} {t26 : Value} {t27 : Value} {t28 : Value} {t29 : Value} {t30 : Value} {t31 : Value} {t32 : Value} {t33 : Value} {t34 : Value} {t35 : Value} {t36 : Value} {t37 : Value} {t38 : Value} {t39 : Value} {t40 : Value} {t41 : Value} {t42 : Value} {t43 : Value} {t44 : Value} {t45 : Value} {t46 : Value} {t47 : Value} {t48 : Value} {t49 : Value} {t50 : Value} {t51 : Value} {H : Heap} (I : Nat → Bool → Int → Heap → Prop) (n : Nat) (h0 : I n t4 t5 H)
    (hstep : ∀ (n : Nat) (t4 : Bool) (t5 : Int) (ys : Fr) (H : Heap), I n t4 t5 H →
    (
 bif (decide (t5 < ((t0l : Nat) : Int))) then (
 inB t5 t0l ∧
 asRow t0 fun i1 i2 =>
 ∃ a3 i4, H.cell i1 (i2 + (t5.toNat * 1)) = some (.slice a3 i4 0) ∧
 bif (decide (((i4 : Nat) : Int) > 12)) then (
 K1 [(.slice t0 t0l 0), (.slice t1 t1l 0), undef, undef, (.bool true), (.int .i64 t5), (ys.getD 6 undef), (.slice t7 t7l 0), (.int .i64 t8), (.bool t9), (.bool false), (.slice t11 t11l 0), (.int .i64 t12), (.bool t13), (.bool t14), (.bool false), (.slice t16 t16l 0), (.int .i64 t17), (.bool t18), (.bool false), (.int .i64 t5), (.slice t0 t0l 0), (.int .i64 ((t0l : Nat) : Int)), (.bool true), (ys.getD 24 undef), (ys.getD 25 undef), (.slice t0 t0l 0), (.int .i64 t5), (.pointer (some ⟨i1, (i2 + (t5.toNat * 1)), none⟩)), (.slice a3 i4 0), (.int .i64 ((i4 : Nat) : Int)), (.bool true), (ys.getD 32 undef), (ys.getD 33 undef), (ys.getD 34 undef), (ys.getD 35 undef), (ys.getD 36 undef), (ys.getD 37 undef), (ys.getD 38 undef), (ys.getD 39 undef), (ys.getD 40 undef), (ys.getD 41 undef), (ys.getD 42 undef), (ys.getD 43 undef), (ys.getD 44 undef), (ys.getD 45 undef), (ys.getD 46 undef), (ys.getD 47 undef), (ys.getD 48 undef), (ys.getD 49 undef), (ys.getD 50 undef), (ys.getD 51 undef)] H)
 else (
 LA en L_crossbarref13_Great_1 [(.slice t0 t0l 0), (.slice t1 t1l 0), undef, undef, (.bool t4), (.int .i64 t5), (.int .i64 0), (.slice t7 t7l 0), (.int .i64 t8), (.bool t9), (.bool false), (.slice t11 t11l 0), (.int .i64 t12), (.bool t13), (.bool t14), (.bool false), (.slice t16 t16l 0), (.int .i64 t17), (.bool t18), (.bool false), (.int .i64 t5), (.slice t0 t0l 0), (.int .i64 ((t0l : Nat) : Int)), (.bool true), (ys.getD 24 undef), (ys.getD 25 undef), (.slice t0 t0l 0), (.int .i64 t5), (.pointer (some ⟨i1, (i2 + (t5.toNat * 1)), none⟩)), (.slice a3 i4 0), (.int .i64 ((i4 : Nat) : Int)), (.bool false), (ys.getD 32 undef), (ys.getD 33 undef), (ys.getD 34 undef), (ys.getD 35 undef), (ys.getD 36 undef), (ys.getD 37 undef), (ys.getD 38 undef), (ys.getD 39 undef), (ys.getD 40 undef), (ys.getD 41 undef), (ys.getD 42 undef), (ys.getD 43 undef), (ys.getD 44 undef), (ys.getD 45 undef), (ys.getD 46 undef), (ys.getD 47 undef), (ys.getD 48 undef), (ys.getD 49 undef), (ys.getD 50 undef), (ys.getD 51 undef)] H [(X.exit 2, fun (y5 : Fr) (H6 : Heap) =>
 AS.asBool (y5.getD 4 undef) fun b7 =>
 ∃ k8, k8 < n ∧
 I k8 b7 (IntKind.i64.wrap (t5 + 1)) H6),
 (X.ret, fun (y9 : Fr) (H10 : Heap) =>
 AS.asBool (y9.getD 4 undef) fun b11 =>
 K1 [(.slice t0 t0l 0), (.slice t1 t1l 0), undef, undef, (.bool b11), (.int .i64 t5), (y9.getD 6 undef), (.slice t7 t7l 0), (.int .i64 t8), (.bool t9), (.bool false), (.slice t11 t11l 0), (.int .i64 t12), (.bool t13), (.bool t14), (.bool false), (.slice t16 t16l 0), (.int .i64 t17), (.bool t18), (.bool false), (.int .i64 t5), (.slice t0 t0l 0), (.int .i64 ((t0l : Nat) : Int)), (.bool true), (ys.getD 24 undef), (ys.getD 25 undef), (.slice t0 t0l 0), (.int .i64 t5), (.pointer (some ⟨i1, (i2 + (t5.toNat * 1)), none⟩)), (.slice a3 i4 0), (.int .i64 ((i4 : Nat) : Int)), (.bool false), (y9.getD 32 undef), (y9.getD 33 undef), (y9.getD 34 undef), (y9.getD 35 undef), (y9.getD 36 undef), (y9.getD 37 undef), (y9.getD 38 undef), (y9.getD 39 undef), (y9.getD 40 undef), (y9.getD 41 undef), (y9.getD 42 undef), (y9.getD 43 undef), (y9.getD 44 undef), (y9.getD 45 undef), (y9.getD 46 undef), (y9.getD 47 undef), (y9.getD 48 undef), (y9.getD 49 undef), (y9.getD 50 undef), (y9.getD 51 undef)] H10)]))
 else (
 K0 [(.slice t0 t0l 0), (.slice t1 t1l 0), undef, undef, (.bool t4), (.int .i64 t5), (ys.getD 6 undef), (.slice t7 t7l 0), (.int .i64 t8), (.bool t9), (.bool false), (.slice t11 t11l 0), (.int .i64 t12), (.bool t13), (.bool t14), (.bool false), (.slice t16 t16l 0), (.int .i64 t17), (.bool t18), (.bool false), (.int .i64 t5), (.slice t0 t0l 0), (.int .i64 ((t0l : Nat) : Int)), (.bool false), (ys.getD 24 undef), (ys.getD 25 undef), (ys.getD 26 undef), (ys.getD 27 undef), (ys.getD 28 undef), (ys.getD 29 undef), (ys.getD 30 undef), (ys.getD 31 undef), (ys.getD 32 undef), (ys.getD 33 undef), (ys.getD 34 undef), (ys.getD 35 undef), (ys.getD 36 undef), (ys.getD 37 undef), (ys.getD 38 undef), (ys.getD 39 undef), (ys.getD 40 undef), (ys.getD 41 undef), (ys.getD 42 undef), (ys.getD 43 undef), (ys.getD 44 undef), (ys.getD 45 undef), (ys.getD 46 undef), (ys.getD 47 undef), (ys.getD 48 undef), (ys.getD 49 undef), (ys.getD 50 undef), (ys.getD 51 undef)] H))) :
    LA en L_crossbarref13_Great_0 [(.slice t0 t0l 0), (.slice t1 t1l 0), undef, undef, (.bool t4), (.int .i64 t5), t6, (.slice t7 t7l 0), (.int .i64 t8), (.bool t9), (.bool false), (.slice t11 t11l 0), (.int .i64 t12), (.bool t13), (.bool t14), (.bool false), (.slice t16 t16l 0), (.int .i64 t17), (.bool t18), (.bool false), t20, t21, t22, t23, t24, t25, t26, t27, t28, t29, t30, t31, t32, t33, t34, t35, t36, t37, t38, t39, t40, t41, t42, t43, t44, t45, t46, t47, t48, t49, t50, t51] H [(X.exit 0, K0), (X.ret, K1), (X.ret, K2)] := by
  refine LA_rule (Z := [[(4, (.bool false))]]) (fun m xs H' => AS.asBool (xs.getD 4 undef) fun t4 => AS.asInt .i64 (xs.getD 5 undef) fun t5 => I m t4 t5 H') ?_ n H ?_
  · intro n H
    suffices hs : ∀ s20 : Value, ∀ s21 : Value, ∀ s22 : Value, ∀ s23 : Value, ∀ s26 : Value, ∀ s27 : Value, ∀ s28 : Value, ∀ s29 : Value, ∀ s30 : Value, ∀ s31 : Value, ∀ s4 : Value, ∀ s6 : Value, ∀ s32 : Value, ∀ s33 : Value, ∀ s34 : Value, ∀ s35 : Value, ∀ s36 : Value, ∀ s37 : Value, ∀ s38 : Value, ∀ s41 : Value, ∀ s42 : Value, ∀ s43 : Value, ∀ s44 : Value, ∀ s45 : Value, ∀ s46 : Value, ∀ s47 : Value, ∀ s48 : Value, ∀ s49 : Value, ∀ s50 : Value, ∀ s51 : Value, ∀ s39 : Value, ∀ s40 : Value, ∀ s24 : Value, ∀ s25 : Value, ∀ s5 : Value, ((AS.asBool s4 fun t4 => AS.asInt .i64 s5 fun t5 => I n t4 t5 H) → wpCode en L_crossbarref13_Great_0 [[(4, (.bool false))]] [(.slice t0 t0l 0), (.slice t1 t1l 0), undef, undef, s4, s5, s6, (.slice t7 t7l 0), (.int .i64 t8), (.bool t9), (.bool false), (.slice t11 t11l 0), (.int .i64 t12), (.bool t13), (.bool t14), (.bool false), (.slice t16 t16l 0), (.int .i64 t17), (.bool t18), (.bool false), s20, s21, s22, s23, s24, s25, s26, s27, s28, s29, s30, s31, s32, s33, s34, s35, s36, s37, s38, s39, s40, s41, s42, s43, s44, s45, s46, s47, s48, s49, s50, s51] H (loopQ (fun m xs H' => AS.asBool (xs.getD 4 undef) fun t4 => AS.asInt .i64 (xs.getD 5 undef) fun t5 => I m t4 t5 H') n [(X.exit 0, K0), (X.ret, K1), (X.ret, K2)])) by
      apply turnInto hs
      kernel_rfl
    intro s20 s21 s22 s23 s26 s27 s28 s29 s30 s31 s4 s6 s32 s33 s34 s35 s36 s37 s38 s41 s42 s43 s44 s45 s46 s47 s48 s49 s50 s51 s39 s40 s24 s25 s5 hP
    replace hP := asBool_elim hP
    obtain ⟨t4, rfl, hP⟩ := hP
    replace hP := asInt_elim hP
    obtain ⟨t5, rfl, hP⟩ := hP
    apply turnInto (hstep n t4 t5 [(.slice t0 t0l 0), (.slice t1 t1l 0), undef, undef, (.bool t4), (.int .i64 t5), s6, (.slice t7 t7l 0), (.int .i64 t8), (.bool t9), (.bool false), (.slice t11 t11l 0), (.int .i64 t12), (.bool t13), (.bool t14), (.bool false), (.slice t16 t16l 0), (.int .i64 t17), (.bool t18), (.bool false), s20, s21, s22, s23, s24, s25, s26, s27, s28, s29, s30, s31, s32, s33, s34, s35, s36, s37, s38, s39, s40, s41, s42, s43, s44, s45, s46, s47, s48, s49, s50, s51] H hP)
    kernel_rfl
  · apply turnInto h0
    kernel_rfl

theorem use_crossbarref13_Great_1 {t0 : Option Addr} {t0l : Nat} {t1 : Option Addr} {t1l : Nat} {t5 : Int} {t7 : Option Addr} {t7l : Nat} {t8 : Int} {t9 : Bool} {t11 : Option Addr} {t11l : Nat} {t12 : Int} {t13 : Bool} {t14 : Bool} {t16 : Option Addr} {t16l : Nat} {t17 : Int} {t18 : Bool} {t20 : Int} {t21 : Option Addr} {t21l : Nat} {t22 : Int} {t24 : Value} {t25 : Value} {t26 : Option Addr} {t26l : Nat} {t27 : Int} {t28 : Nat} {t28o : Nat} {t29 : Option Addr} {t29l : Nat} {t30 : Int} {K0 : Fr → Heap → Prop} {K1 : Fr → Heap → Prop} {t4 : Bool} {t6 : Int} {t32 : Value} {t33 : Value} {t34 : Value} {t35 : Value} {t36 : Value} {t37 : Value} {t38 : Value} {t39 : Value} {t40 : Value} {t41 : Value} {t42 : Value} {t43 : Value} {t44 : Value} {t45 : Value} {t46 : Value} {t47 : Value} {t48 : Value} {t49 : Value} {t50 : Value} {t51 : Value} {H : Heap} (I : Nat → Bool → Int → Heap → Prop) (n : Nat) (h0 : I n t4 t6 H)
    (hstep : ∀ (n : Nat) (t4 : Bool) (t6 : Int) (ys : Fr) (H : Heap), I n t4 t6 H →
    (
 inB t5 t0l ∧
 asRow t0 fun i1 i2 =>
 ∃ a3 i4, H.cell i1 (i2 + (t5.toNat * 1)) = some (.slice a3 i4 0) ∧
 bif (decide (t6 < ((i4 : Nat) : Int))) then (
 inB t5 t0l ∧
 asRow t0 fun i5 i6 =>
 ∃ a7 i8, H.cell i5 (i6 + (t5.toNat * 1)) = some (.slice a7 i8 0) ∧
 inB t6 i8 ∧
 asRow a7 fun i9 i10 =>
 ∃ a11 i12, H.cell i9 (((i10 + (t6.toNat * 7)) + 1) + 2) = some (.slice a11 i12 0) ∧
 bif (decide (((i12 : Nat) : Int) > 8)) then (
 K1 [(.slice t0 t0l 0), (.slice t1 t1l 0), undef, undef, (.bool true), (.int .i64 t5), (.int .i64 t6), (.slice t7 t7l 0), (.int .i64 t8), (.bool t9), (.bool false), (.slice t11 t11l 0), (.int .i64 t12), (.bool t13), (.bool t14), (.bool false), (.slice t16 t16l 0), (.int .i64 t17), (.bool t18), (.bool false), (.int .i64 t20), (.slice t21 t21l 0), (.int .i64 t22), (.bool true), t24, t25, (.slice t26 t26l 0), (.int .i64 t27), (.pointer (some ⟨t28, t28o, none⟩)), (.slice t29 t29l 0), (.int .i64 t30), (.bool false), (.int .i64 t6), (.slice t0 t0l 0), (.int .i64 t5), (.pointer (some ⟨i1, (i2 + (t5.toNat * 1)), none⟩)), (.slice a3 i4 0), (.int .i64 ((i4 : Nat) : Int)), (.bool true), (ys.getD 39 undef), (ys.getD 40 undef), (.slice t0 t0l 0), (.int .i64 t5), (.pointer (some ⟨i5, (i6 + (t5.toNat * 1)), none⟩)), (.slice a7 i8 0), (.int .i64 t6), (.pointer (some ⟨i9, (i10 + (t6.toNat * 7)), none⟩)), (.pointer (some ⟨i9, ((i10 + (t6.toNat * 7)) + 1), none⟩)), (.pointer (some ⟨i9, (((i10 + (t6.toNat * 7)) + 1) + 2), none⟩)), (.slice a11 i12 0), (.int .i64 ((i12 : Nat) : Int)), (.bool true)] H)
 else (
 ∃ k13, k13 < n ∧
 I k13 t4 (IntKind.i64.wrap (t6 + 1)) H))
 else (
 K0 [(.slice t0 t0l 0), (.slice t1 t1l 0), undef, undef, (.bool t4), (.int .i64 t5), (.int .i64 t6), (.slice t7 t7l 0), (.int .i64 t8), (.bool t9), (.bool false), (.slice t11 t11l 0), (.int .i64 t12), (.bool t13), (.bool t14), (.bool false), (.slice t16 t16l 0), (.int .i64 t17), (.bool t18), (.bool false), (.int .i64 t20), (.slice t21 t21l 0), (.int .i64 t22), (.bool true), t24, t25, (.slice t26 t26l 0), (.int .i64 t27), (.pointer (some ⟨t28, t28o, none⟩)), (.slice t29 t29l 0), (.int .i64 t30), (.bool false), (.int .i64 t6), (.slice t0 t0l 0), (.int .i64 t5), (.pointer (some ⟨i1, (i2 + (t5.toNat * 1)), none⟩)), (.slice a3 i4 0), (.int .i64 ((i4 : Nat) : Int)), (.bool false), (ys.getD 39 undef), (ys.getD 40 undef), (ys.getD 41 undef), (ys.getD 42 undef), (ys.getD 43 undef), (ys.getD 44 undef), (ys.getD 45 undef), (ys.getD 46 undef), (ys.getD 47 undef), (ys.getD 48 undef), (ys.getD 49 undef), (ys.getD 50 undef), (ys.getD 51 undef)] H))) :
    LA en L_crossbarref13_Great_1 [(.slice t0 t0l 0), (.slice t1 t1l 0), undef, undef, (.bool t4), (.int .i64 t5), (.int .i64 t6), (.slice t7 t7l 0), (.int .i64 t8), (.bool t9), (.bool false), (.slice t11 t11l 0), (.int .i64 t12), (.bool t13), (.bool t14), (.bool false), (.slice t16 t16l 0), (.int .i64 t17), (.bool t18), (.bool false), (.int .i64 t20), (.slice t21 t21l 0), (.int .i64 t22), (.bool true), t24, t25, (.slice t26 t26l 0), (.int .i64 t27), (.pointer (some ⟨t28, t28o, none⟩)), (.slice t29 t29l 0), (.int .i64 t30), (.bool false), t32, t33, t34, t35, t36, t37, t38, t39, t40, t41, t42, t43, t44, t45, t46, t47, t48, t49, t50, t51] H [(X.exit 2, K0), (X.ret, K1)] := by
  refine LA_rule (Z := []) (fun m xs H' => AS.asBool (xs.getD 4 undef) fun t4 => AS.asInt .i64 (xs.getD 6 undef) fun t6 => I m t4 t6 H') ?_ n H ?_
  · intro n H
    suffices hs : ∀ s32 : Value, ∀ s33 : Value, ∀ s34 : Value, ∀ s35 : Value, ∀ s36 : Value, ∀ s37 : Value, ∀ s38 : Value, ∀ s41 : Value, ∀ s42 : Value, ∀ s43 : Value, ∀ s44 : Value, ∀ s45 : Value, ∀ s46 : Value, ∀ s47 : Value, ∀ s48 : Value, ∀ s49 : Value, ∀ s50 : Value, ∀ s51 : Value, ∀ s4 : Value, ∀ s39 : Value, ∀ s40 : Value, ∀ s6 : Value, ((AS.asBool s4 fun t4 => AS.asInt .i64 s6 fun t6 => I n t4 t6 H) → wpCode en L_crossbarref13_Great_1 [] [(.slice t0 t0l 0), (.slice t1 t1l 0), undef, undef, s4, (.int .i64 t5), s6, (.slice t7 t7l 0), (.int .i64 t8), (.bool t9), (.bool false), (.slice t11 t11l 0), (.int .i64 t12), (.bool t13), (.bool t14), (.bool false), (.slice t16 t16l 0), (.int .i64 t17), (.bool t18), (.bool false), (.int .i64 t20), (.slice t21 t21l 0), (.int .i64 t22), (.bool true), t24, t25, (.slice t26 t26l 0), (.int .i64 t27), (.pointer (some ⟨t28, t28o, none⟩)), (.slice t29 t29l 0), (.int .i64 t30), (.bool false), s32, s33, s34, s35, s36, s37, s38, s39, s40, s41, s42, s43, s44, s45, s46, s47, s48, s49, s50, s51] H (loopQ (fun m xs H' => AS.asBool (xs.getD 4 undef) fun t4 => AS.asInt .i64 (xs.getD 6 undef) fun t6 => I m t4 t6 H') n [(X.exit 2, K0), (X.ret, K1)])) by
      apply turnInto hs
      kernel_rfl
    intro s32 s33 s34 s35 s36 s37 s38 s41 s42 s43 s44 s45 s46 s47 s48 s49 s50 s51 s4 s39 s40 s6 hP
    replace hP := asBool_elim hP
    obtain ⟨t4, rfl, hP⟩ := hP
    replace hP := asInt_elim hP
    obtain ⟨t6, rfl, hP⟩ := hP
    apply turnInto (hstep n t4 t6 [(.slice t0 t0l 0), (.slice t1 t1l 0), undef, undef, (.bool t4), (.int .i64 t5), (.int .i64 t6), (.slice t7 t7l 0), (.int .i64 t8), (.bool t9), (.bool false), (.slice t11 t11l 0), (.int .i64 t12), (.bool t13), (.bool t14), (.bool false), (.slice t16 t16l 0), (.int .i64 t17), (.bool t18), (.bool false), (.int .i64 t20), (.slice t21 t21l 0), (.int .i64 t22), (.bool true), t24, t25, (.slice t26 t26l 0), (.int .i64 t27), (.pointer (some ⟨t28, t28o, none⟩)), (.slice t29 t29l 0), (.int .i64 t30), (.bool false), s32, s33, s34, s35, s36, s37, s38, s39, s40, s41, s42, s43, s44, s45, s46, s47, s48, s49, s50, s51] H hP)
    kernel_rfl
  · apply turnInto h0
    kernel_rfl


/-! crossbarref13_Turn -/

theorem vc_crossbarref13_Turn (x0 : Option Addr) (x0l : Nat) (x1 : Int) (x2 : Int) (H : Heap) (R : Value → Heap → Prop) :
    (
 bif (decide (x1 < ((x0l : Nat) : Int))) then (
 inB x1 x0l ∧
 asRow x0 fun i1 i2 =>
 ∃ n3, H.cell i1 (i2 + (x1.toNat * 1)) = some (.int .i64 n3) ∧
 CA en F.crossbarkit_Pick [(.int .i64 n3), (.int .i64 x2)] H fun v4 H5 =>
 ∃ n6, v4 = (.int .i64 n6) ∧
 R (.int .i64 n6) H5)
 else (
 nz x2 ∧
 R (.int .i64 (Int.tmod x1 x2)) H)) →
    CA en F.crossbarref13_Turn [(.slice x0 x0l 0), (.int .i64 x1), (.int .i64 x2)] H R := by
  intro h
  refine wpFn_ok (Z := []) (fn := Go.Proofs.Try.f33) ?_ ?_ ?_
  · kernel_rfl
  · kernel_rfl
  · apply turnInto h
    kernel_rfl


/-! crossbarref13_Right -/

theorem vc_crossbarref13_Right (x0 : Option Addr) (x0l : Nat) (x1 : Int) (x2_0 : Int) (x2_1 : Int) (x2_2 : Option Addr) (x2_2l : Nat) (x2_3 : Int) (x2_4 : Int) (H : Heap) (R : Value → Heap → Prop) :
    (
 nwH H (.cells true 0 [(.int .i64 x2_0), (.int .u64 x2_1), (.slice x2_2 x2_2l 0), (.int .i64 x2_3), (.int .i64 x2_4)]) fun i1 H2 =>
 CA en F.crossbarref11_New [(.slice x0 x0l 0), (.int .i64 x1)] H2 fun v3 H4 =>
 ∃ a5, ∃ n6, v3 = (.tuple #[(.pointer a5), (.int .i64 n6)]) ∧
 bif (n6 == 0) then (
 ∃ n7, ∃ n8, ∃ a9 i10, ∃ n11, ∃ n12, H4.cellsAt i1 0 5 = some [(.int .i64 n7), (.int .u64 n8), (.slice a9 i10 0), (.int .i64 n11), (.int .i64 n12)] ∧
 CA en F.crossbarref11_Maps_Do [(.pointer a5), (.int .i64 1), (.agg #[(.int .i64 n7), (.int .u64 n8), (.slice a9 i10 0), (.int .i64 n11), (.int .i64 n12)])] H4 fun v13 H14 =>
 ∃ n15, ∃ a16 i17, ∃ n18, ∃ n19, v13 = (.agg #[(.int .i64 n15), (.slice a16 i17 0), (.int .u64 n18), (.int .i64 n19)]) ∧
 R (.bool (n15 != 1)) H14)
 else (
 R (.bool false) H4)) →
    CA en F.crossbarref13_Right [(.slice x0 x0l 0), (.int .i64 x1), (.agg #[(.int .i64 x2_0), (.int .u64 x2_1), (.slice x2_2 x2_2l 0), (.int .i64 x2_3), (.int .i64 x2_4)])] H R := by
  intro h
  refine wpFn_ok (Z := []) (fn := Go.Proofs.Try.f50) ?_ ?_ ?_
  · kernel_rfl
  · kernel_rfl
  · apply turnInto h
    kernel_rfl


/-! crossbarref13_Pairs_Agree -/

theorem vc_crossbarref13_Pairs_Agree (x0 : Option Addr) (x1_0 : Int) (x1_1 : Option Addr) (x1_1l : Nat) (x1_2 : Int) (x1_3 : Int) (x2_0 : Int) (x2_1 : Option Addr) (x2_1l : Nat) (x2_2 : Int) (x2_3 : Int) (H : Heap) (R : Value → Heap → Prop) :
    (
 nwH H (.cells true 0 [(.int .i64 x1_0), (.slice x1_1 x1_1l 0), (.int .u64 x1_2), (.int .i64 x1_3)]) fun i1 H2 =>
 nwH H2 (.cells true 0 [(.int .i64 x2_0), (.slice x2_1 x2_1l 0), (.int .u64 x2_2), (.int .i64 x2_3)]) fun i3 H4 =>
 ∃ n5, H4.cell i1 0 = some (.int .i64 n5) ∧
 ∃ n6, H4.cell i3 0 = some (.int .i64 n6) ∧
 bif (n5 == n6) then (
 ∃ n7, H4.cell i1 2 = some (.int .u64 n7) ∧
 ∃ n8, H4.cell i3 2 = some (.int .u64 n8) ∧
 bif (n7 == n8) then (
 ∃ a9 i10, H4.cell i1 1 = some (.slice a9 i10 0) ∧
 ∃ a11 i12, H4.cell i3 1 = some (.slice a11 i12 0) ∧
 CA en F.crossbarkit_SameWords [(.slice a9 i10 0), (.slice a11 i12 0)] H4 fun v13 H14 =>
 ∃ b15, v13 = (.bool b15) ∧
 bif b15 then (
 ∃ n16, H14.cell i1 3 = some (.int .i64 n16) ∧
 ∃ n17, H14.cell i3 3 = some (.int .i64 n17) ∧
 CA en F.crossbarref13_Pairs_Same [(.pointer x0), (.int .i64 n16), (.int .i64 n17)] H14 fun v18 H19 =>
 ∃ b20, v18 = (.bool b20) ∧
 R (.bool b20) H19)
 else (
 R (.bool false) H14))
 else (
 R (.bool false) H4))
 else (
 R (.bool false) H4)) →
    CA en F.crossbarref13_Pairs_Agree [(.pointer x0), (.agg #[(.int .i64 x1_0), (.slice x1_1 x1_1l 0), (.int .u64 x1_2), (.int .i64 x1_3)]), (.agg #[(.int .i64 x2_0), (.slice x2_1 x2_1l 0), (.int .u64 x2_2), (.int .i64 x2_3)])] H R := by
  intro h
  refine wpFn_ok (Z := []) (fn := Go.Proofs.Try.f60) ?_ ?_ ?_
  · kernel_rfl
  · kernel_rfl
  · apply turnInto h
    kernel_rfl


/-! crossbarref13_Pairs_Of -/
noncomputable def L_crossbarref13_Pairs_Of_0 : Code := loopAt Go.Proofs.Try.f62 0

theorem vc_crossbarref13_Pairs_Of (x0 : Option Addr) (x1 : Int) (H : Heap) (R : Value → Heap → Prop) :
    (
 LA en L_crossbarref13_Pairs_Of_0 [(.pointer x0), (.int .i64 x1), undef, undef, (.int .i64 0), (.int .i64 0), undef, undef, undef, undef, undef, undef, undef, undef, undef, undef, undef, undef, undef, undef, undef, undef, undef, undef, undef, undef, undef, undef, undef, undef, undef] H [(X.exit 0, fun (y1 : Fr) (H2 : Heap) =>
 AS.asInt .i64 (y1.getD 4 undef) fun n3 =>
 R (.int .i64 0) H2),
 (X.ret, fun (y4 : Fr) (H5 : Heap) =>
 AS.asInt .i64 (y4.getD 4 undef) fun n6 =>
 R (.int .i64 n6) H5)]) →
    CA en F.crossbarref13_Pairs_Of [(.pointer x0), (.int .i64 x1)] H R := by
  intro h
  refine wpFn_ok (Z := [[(4, (.int .i64 0))]]) (fn := Go.Proofs.Try.f62) ?_ ?_ ?_
  · kernel_rfl
  · kernel_rfl
  · apply turnInto h
    kernel_rfl

theorem use_crossbarref13_Pairs_Of_0 {t0 : Option Addr} {t1 : Int} {K0 : Fr → Heap → Prop} {K1 : Fr → Heap → Prop} {t4 : Int} {t5 : Int} {t6 : Value} {t7 : Value} {t8 : Value} {t9 : Value} {t10 : Value} {t11 : Value} {t12 : Value} {t13 : Value} {t14 : Value} {t15 : Value} {t16 : Value} {t17 : Value} {t18 : Value} {t19 : Value} {t20 : Value} {t21 : Value} {t22 : Value} {t23 : Value} {t24 : Value} {t25 : Value} {t26 : Value} {t27 : Value} {t28 : Value} {t29 : Value} {t30 : Value} {H : Heap} (I : Nat → Int → Int → Heap → Prop) (n : Nat) (h0 : I n t4 t5 H)
    (hstep : ∀ (n : Nat) (t4 : Int) (t5 : Int) (ys : Fr) (H : Heap), I n t4 t5 H →
    (
 AS.asAddr (.pointer t0) fun i1 i2 =>
 ∃ a3 i4, H.cell i1 i2 = some (.slice a3 i4 0) ∧
 bif (decide (t5 < ((i4 : Nat) : Int))) then (
 AS.asAddr (.pointer t0) fun i5 i6 =>
 ∃ a7 i8, H.cell i5 i6 = some (.slice a7 i8 0) ∧
 inB t5 i8 ∧
 asRow a7 fun i9 i10 =>
 ∃ n11, H.cell i9 (i10 + (t5.toNat * 1)) = some (.int .i64 n11) ∧
 bif (n11 == t1) then (
 AS.asAddr (.pointer t0) fun i12 i13 =>
 ∃ a14 i15, H.cell i12 (i13 + 1) = some (.slice a14 i15 0) ∧
 inB t5 i15 ∧
 asRow a14 fun i16 i17 =>
 ∃ n18, H.cell i16 (i17 + (t5.toNat * 1)) = some (.int .i64 n18) ∧
 K1 [(.pointer t0), (.int .i64 t1), undef, undef, (.int .i64 n18), (.int .i64 t5), (.int .i64 t5), (.pointer t0), (.pointer (some ⟨i1, i2, none⟩)), (.pointer (some ⟨i1, i2, none⟩)), (.slice a3 i4 0), (.int .i64 ((i4 : Nat) : Int)), (.bool true), (ys.getD 13 undef), (ys.getD 14 undef), (.pointer t0), (.pointer (some ⟨i5, i6, none⟩)), (.pointer (some ⟨i5, i6, none⟩)), (.slice a7 i8 0), (.int .i64 t5), (.pointer (some ⟨i9, (i10 + (t5.toNat * 1)), none⟩)), (.int .i64 n11), (.int .i64 t1), (.bool true), (.pointer t0), (.pointer (some ⟨i12, i13, none⟩)), (.pointer (some ⟨i12, (i13 + 1), none⟩)), (.slice a14 i15 0), (.int .i64 t5), (.pointer (some ⟨i16, (i17 + (t5.toNat * 1)), none⟩)), (.int .i64 n18)] H)
 else (
 ∃ k19, k19 < n ∧
 I k19 t4 (IntKind.i64.wrap (t5 + 1)) H))
 else (
 K0 [(.pointer t0), (.int .i64 t1), undef, undef, (.int .i64 t4), (.int .i64 t5), (.int .i64 t5), (.pointer t0), (.pointer (some ⟨i1, i2, none⟩)), (.pointer (some ⟨i1, i2, none⟩)), (.slice a3 i4 0), (.int .i64 ((i4 : Nat) : Int)), (.bool false), (ys.getD 13 undef), (ys.getD 14 undef), (ys.getD 15 undef), (ys.getD 16 undef), (ys.getD 17 undef), (ys.getD 18 undef), (ys.getD 19 undef), (ys.getD 20 undef), (ys.getD 21 undef), (ys.getD 22 undef), (ys.getD 23 undef), (ys.getD 24 undef), (ys.getD 25 undef), (ys.getD 26 undef), (ys.getD 27 undef), (ys.getD 28 undef), (ys.getD 29 undef), (ys.getD 30 undef)] H))) :
    LA en L_crossbarref13_Pairs_Of_0 [(.pointer t0), (.int .i64 t1), undef, undef, (.int .i64 t4), (.int .i64 t5), t6, t7, t8, t9, t10, t11, t12, t13, t14, t15, t16, t17, t18, t19, t20, t21, t22, t23, t24, t25, t26, t27, t28, t29, t30] H [(X.exit 0, K0), (X.ret, K1)] := by
  refine LA_rule (Z := []) (fun m xs H' => AS.asInt .i64 (xs.getD 4 undef) fun t4 => AS.asInt .i64 (xs.getD 5 undef) fun t5 => I m t4 t5 H') ?_ n H ?_
  · intro n H
    suffices hs : ∀ s6 : Value, ∀ s7 : Value, ∀ s8 : Value, ∀ s9 : Value, ∀ s10 : Value, ∀ s11 : Value, ∀ s12 : Value, ∀ s15 : Value, ∀ s16 : Value, ∀ s17 : Value, ∀ s18 : Value, ∀ s19 : Value, ∀ s20 : Value, ∀ s21 : Value, ∀ s22 : Value, ∀ s23 : Value, ∀ s24 : Value, ∀ s25 : Value, ∀ s26 : Value, ∀ s27 : Value, ∀ s28 : Value, ∀ s29 : Value, ∀ s30 : Value, ∀ s4 : Value, ∀ s13 : Value, ∀ s14 : Value, ∀ s5 : Value, ((AS.asInt .i64 s4 fun t4 => AS.asInt .i64 s5 fun t5 => I n t4 t5 H) → wpCode en L_crossbarref13_Pairs_Of_0 [] [(.pointer t0), (.int .i64 t1), undef, undef, s4, s5, s6, s7, s8, s9, s10, s11, s12, s13, s14, s15, s16, s17, s18, s19, s20, s21, s22, s23, s24, s25, s26, s27, s28, s29, s30] H (loopQ (fun m xs H' => AS.asInt .i64 (xs.getD 4 undef) fun t4 => AS.asInt .i64 (xs.getD 5 undef) fun t5 => I m t4 t5 H') n [(X.exit 0, K0), (X.ret, K1)])) by
      apply turnInto hs
      kernel_rfl
    intro s6 s7 s8 s9 s10 s11 s12 s15 s16 s17 s18 s19 s20 s21 s22 s23 s24 s25 s26 s27 s28 s29 s30 s4 s13 s14 s5 hP
    replace hP := asInt_elim hP
    obtain ⟨t4, rfl, hP⟩ := hP
    replace hP := asInt_elim hP
    obtain ⟨t5, rfl, hP⟩ := hP
    apply turnInto (hstep n t4 t5 [(.pointer t0), (.int .i64 t1), undef, undef, (.int .i64 t4), (.int .i64 t5), s6, s7, s8, s9, s10, s11, s12, s13, s14, s15, s16, s17, s18, s19, s20, s21, s22, s23, s24, s25, s26, s27, s28, s29, s30] H hP)
    kernel_rfl
  · apply turnInto h0
    kernel_rfl


/-! crossbarref13_Pairs_Same -/
noncomputable def L_crossbarref13_Pairs_Same_0 : Code := loopAt Go.Proofs.Try.f77 0

theorem vc_crossbarref13_Pairs_Same (x0 : Option Addr) (x1 : Int) (x2 : Int) (H : Heap) (R : Value → Heap → Prop) :
    (
 bif (x1 == 0) then (
 R (.bool (x1 == x2)) H)
 else (
 bif (x2 == 0) then (
 R (.bool (x1 == x2)) H)
 else (
 LA en L_crossbarref13_Pairs_Same_0 [(.pointer x0), (.int .i64 x1), (.int .i64 x2), undef, undef, undef, (.bool false), (.int .i64 0), (.int .i64 x1), (.bool (x1 == 0)), (.bool false), (.int .i64 x2), (.bool (x2 == 0)), (.bool false), undef, undef, undef, undef, undef, undef, undef, undef, undef, undef, undef, undef, undef, undef, undef, undef, undef, undef, undef, undef, undef, undef, undef, undef, undef, undef, undef, undef, undef, undef, undef, undef, undef, undef, undef, undef, undef, undef, undef, undef, undef, undef, undef, undef, undef, undef, undef, undef, undef, undef, undef, undef, undef, undef, undef, undef, undef, undef, undef, undef, undef, undef, undef, undef, undef, undef, undef, undef, undef, undef, undef, undef] H [(X.exit 0, fun (y1 : Fr) (H2 : Heap) =>
 AS.asBool (y1.getD 6 undef) fun b3 =>
 AS.asAddr (.pointer x0) fun i4 i5 =>
 ∃ a6 i7, H2.cell i4 i5 = some (.slice a6 i7 0) ∧
 nwH H2 (.cells true 1 [(.int .i64 x1)]) fun i8 H9 =>
 ∃ l10, rowOf H9 1 (some ⟨i8, 0, none⟩) 1 = some l10 ∧
 apd H9 8 1 a6 i7 1 l10 fun a11 i12 H13 =>
 AS.asAddr (.pointer x0) fun i14 i15 =>
 stc H13 i14 i15 [(.slice a11 i12 0)] fun H16 =>
 AS.asAddr (.pointer x0) fun i17 i18 =>
 ∃ a19 i20, H16.cell i17 (i18 + 1) = some (.slice a19 i20 0) ∧
 nwH H16 (.cells true 1 [(.int .i64 x2)]) fun i21 H22 =>
 ∃ l23, rowOf H22 1 (some ⟨i21, 0, none⟩) 1 = some l23 ∧
 apd H22 8 1 a19 i20 1 l23 fun a24 i25 H26 =>
 AS.asAddr (.pointer x0) fun i27 i28 =>
 stc H26 i27 (i28 + 1) [(.slice a24 i25 0)] fun H29 =>
 R (.bool true) H29),
 (X.ret, fun (y30 : Fr) (H31 : Heap) =>
 AS.asBool (y30.getD 6 undef) fun b32 =>
 R (.bool b32) H31)]))) →
    CA en F.crossbarref13_Pairs_Same [(.pointer x0), (.int .i64 x1), (.int .i64 x2)] H R := by
  intro h
  refine wpFn_ok (Z := [[(6, (.bool false))]]) (fn := Go.Proofs.Try.f77) ?_ ?_ ?_
  · kernel_rfl
  · kernel_rfl
  · apply turnInto h
    kernel_rfl

theorem use_crossbarref13_Pairs_Same_0 {t0 : Option Addr} {t1 : Int} {t2 : Int} {t8 : Int} {t9 : Bool} {t11 : Int} {t12 : Bool} {K0 : Fr → Heap → Prop} {K1 : Fr → Heap → Prop} {t6 : Bool} {t7 : Int} {t17 : Value} {t18 : Value} {t19 : Value} {t20 : Value} {t21 : Value} {t22 : Value} {t23 : Value} {t24 : Value} {t25 : Value} {t26 : Value} {t27 : Value} {t28 : Value} {t29 : Value} {t30 : Value} {t31 : Value} {t32 : Value} {t33 : Value} {t34 : Value} {t35 : Value} {t36 : Value} {t37 : Value} {t38 : Value} {t39 : Value} {t40 : Value} {t41 : Value} {t42 : Value} {t43 : Value} {t44 : Value} {t45 : Value} {t46 : Value} {t47 : Value} {t48 : Value} {t49 : Value} {t50 : Value} {t51 : Value} {t52 : Value} {t53 : Value} {t54 : Value} {t55 : Value} {t56 : Value} {t57 : Value} {t58 : Value} {t59 : Value} {t60 : Value} {t61 : Value} {t62 : Value} {t63 : Value} {t64 : Value} {t65 : Value} {H : Heap} (I : Nat → Bool → Int → Heap → Prop) (n : Nat) (h0 : I n t6 t7 H)
    (hstep : ∀ (n : Nat) (t6 : Bool) (t7 : Int) (ys : Fr) (H : Heap), I n t6 t7 H →
    (
 AS.asAddr (.pointer t0) fun i1 i2 =>
 ∃ a3 i4, H.cell i1 i2 = some (.slice a3 i4 0) ∧
 bif (decide (t7 < ((i4 : Nat) : Int))) then (
 AS.asAddr (.pointer t0) fun i5 i6 =>
 ∃ a7 i8, H.cell i5 i6 = some (.slice a7 i8 0) ∧
 inB t7 i8 ∧
 asRow a7 fun i9 i10 =>
 ∃ n11, H.cell i9 (i10 + (t7.toNat * 1)) = some (.int .i64 n11) ∧
 bif (n11 == t1) then (
 AS.asAddr (.pointer t0) fun i12 i13 =>
 ∃ a14 i15, H.cell i12 i13 = some (.slice a14 i15 0) ∧
 inB t7 i15 ∧
 asRow a14 fun i16 i17 =>
 ∃ n18, H.cell i16 (i17 + (t7.toNat * 1)) = some (.int .i64 n18) ∧
 bif (n18 == t1) then (
 AS.asAddr (.pointer t0) fun i19 i20 =>
 ∃ a21 i22, H.cell i19 (i20 + 1) = some (.slice a21 i22 0) ∧
 inB t7 i22 ∧
 asRow a21 fun i23 i24 =>
 ∃ n25, H.cell i23 (i24 + (t7.toNat * 1)) = some (.int .i64 n25) ∧
 K1 [(.pointer t0), (.int .i64 t1), (.int .i64 t2), undef, undef, undef, (.bool (n25 == t2)), (.int .i64 t7), (.int .i64 t8), (.bool t9), (.bool false), (.int .i64 t11), (.bool t12), (.bool false), undef, undef, undef, (.int .i64 t7), (.pointer t0), (.pointer (some ⟨i1, i2, none⟩)), (.pointer (some ⟨i1, i2, none⟩)), (.slice a3 i4 0), (.int .i64 ((i4 : Nat) : Int)), (.bool true), (ys.getD 24 undef), (ys.getD 25 undef), (.pointer t0), (.pointer (some ⟨i5, i6, none⟩)), (.pointer (some ⟨i5, i6, none⟩)), (.slice a7 i8 0), (.int .i64 t7), (.pointer (some ⟨i9, (i10 + (t7.toNat * 1)), none⟩)), (.int .i64 n11), (.int .i64 t1), (.bool (n11 == t1)), (.bool true), undef, undef, undef, undef, undef, undef, undef, undef, undef, (.bool true), (.pointer t0), (.pointer (some ⟨i12, i13, none⟩)), (.pointer (some ⟨i12, i13, none⟩)), (.slice a14 i15 0), (.int .i64 t7), (.pointer (some ⟨i16, (i17 + (t7.toNat * 1)), none⟩)), (.int .i64 n18), (.int .i64 t1), (.bool (n18 == t1)), (.bool true), (.pointer t0), (.pointer (some ⟨i19, i20, none⟩)), (.pointer (some ⟨i19, (i20 + 1), none⟩)), (.slice a21 i22 0), (.int .i64 t7), (.pointer (some ⟨i23, (i24 + (t7.toNat * 1)), none⟩)), (.int .i64 n25), (.int .i64 t2), (.bool (n25 == t2)), (.bool (n25 == t2)), undef, undef, undef, undef, undef, undef, undef, undef, undef, undef, undef, undef, undef, undef, undef, undef, undef, undef, undef, undef] H)
 else (
 K1 [(.pointer t0), (.int .i64 t1), (.int .i64 t2), undef, undef, undef, (.bool false), (.int .i64 t7), (.int .i64 t8), (.bool t9), (.bool false), (.int .i64 t11), (.bool t12), (.bool false), undef, undef, undef, (.int .i64 t7), (.pointer t0), (.pointer (some ⟨i1, i2, none⟩)), (.pointer (some ⟨i1, i2, none⟩)), (.slice a3 i4 0), (.int .i64 ((i4 : Nat) : Int)), (.bool true), (ys.getD 24 undef), (ys.getD 25 undef), (.pointer t0), (.pointer (some ⟨i5, i6, none⟩)), (.pointer (some ⟨i5, i6, none⟩)), (.slice a7 i8 0), (.int .i64 t7), (.pointer (some ⟨i9, (i10 + (t7.toNat * 1)), none⟩)), (.int .i64 n11), (.int .i64 t1), (.bool (n11 == t1)), (.bool true), undef, undef, undef, undef, undef, undef, undef, undef, undef, (.bool true), (.pointer t0), (.pointer (some ⟨i12, i13, none⟩)), (.pointer (some ⟨i12, i13, none⟩)), (.slice a14 i15 0), (.int .i64 t7), (.pointer (some ⟨i16, (i17 + (t7.toNat * 1)), none⟩)), (.int .i64 n18), (.int .i64 t1), (.bool (n18 == t1)), (.bool false), undef, undef, undef, undef, undef, undef, undef, undef, undef, (.bool false), undef, undef, undef, undef, undef, undef, undef, undef, undef, undef, undef, undef, undef, undef, undef, undef, undef, undef, undef, undef] H))
 else (
 AS.asAddr (.pointer t0) fun i26 i27 =>
 ∃ a28 i29, H.cell i26 (i27 + 1) = some (.slice a28 i29 0) ∧
 inB t7 i29 ∧
 asRow a28 fun i30 i31 =>
 ∃ n32, H.cell i30 (i31 + (t7.toNat * 1)) = some (.int .i64 n32) ∧
 bif (n32 == t2) then (
 AS.asAddr (.pointer t0) fun i33 i34 =>
 ∃ a35 i36, H.cell i33 i34 = some (.slice a35 i36 0) ∧
 inB t7 i36 ∧
 asRow a35 fun i37 i38 =>
 ∃ n39, H.cell i37 (i38 + (t7.toNat * 1)) = some (.int .i64 n39) ∧
 bif (n39 == t1) then (
 AS.asAddr (.pointer t0) fun i40 i41 =>
 ∃ a42 i43, H.cell i40 (i41 + 1) = some (.slice a42 i43 0) ∧
 inB t7 i43 ∧
 asRow a42 fun i44 i45 =>
 ∃ n46, H.cell i44 (i45 + (t7.toNat * 1)) = some (.int .i64 n46) ∧
 K1 [(.pointer t0), (.int .i64 t1), (.int .i64 t2), undef, undef, undef, (.bool (n46 == t2)), (.int .i64 t7), (.int .i64 t8), (.bool t9), (.bool false), (.int .i64 t11), (.bool t12), (.bool false), undef, undef, undef, (.int .i64 t7), (.pointer t0), (.pointer (some ⟨i1, i2, none⟩)), (.pointer (some ⟨i1, i2, none⟩)), (.slice a3 i4 0), (.int .i64 ((i4 : Nat) : Int)), (.bool true), (ys.getD 24 undef), (ys.getD 25 undef), (.pointer t0), (.pointer (some ⟨i5, i6, none⟩)), (.pointer (some ⟨i5, i6, none⟩)), (.slice a7 i8 0), (.int .i64 t7), (.pointer (some ⟨i9, (i10 + (t7.toNat * 1)), none⟩)), (.int .i64 n11), (.int .i64 t1), (.bool (n11 == t1)), (.bool false), (.pointer t0), (.pointer (some ⟨i26, i27, none⟩)), (.pointer (some ⟨i26, (i27 + 1), none⟩)), (.slice a28 i29 0), (.int .i64 t7), (.pointer (some ⟨i30, (i31 + (t7.toNat * 1)), none⟩)), (.int .i64 n32), (.int .i64 t2), (.bool (n32 == t2)), (.bool true), (.pointer t0), (.pointer (some ⟨i33, i34, none⟩)), (.pointer (some ⟨i33, i34, none⟩)), (.slice a35 i36 0), (.int .i64 t7), (.pointer (some ⟨i37, (i38 + (t7.toNat * 1)), none⟩)), (.int .i64 n39), (.int .i64 t1), (.bool (n39 == t1)), (.bool true), (.pointer t0), (.pointer (some ⟨i40, i41, none⟩)), (.pointer (some ⟨i40, (i41 + 1), none⟩)), (.slice a42 i43 0), (.int .i64 t7), (.pointer (some ⟨i44, (i45 + (t7.toNat * 1)), none⟩)), (.int .i64 n46), (.int .i64 t2), (.bool (n46 == t2)), (.bool (n46 == t2)), undef, undef, undef, undef, undef, undef, undef, undef, undef, undef, undef, undef, undef, undef, undef, undef, undef, undef, undef, undef] H)
 else (
 K1 [(.pointer t0), (.int .i64 t1), (.int .i64 t2), undef, undef, undef, (.bool false), (.int .i64 t7), (.int .i64 t8), (.bool t9), (.bool false), (.int .i64 t11), (.bool t12), (.bool false), undef, undef, undef, (.int .i64 t7), (.pointer t0), (.pointer (some ⟨i1, i2, none⟩)), (.pointer (some ⟨i1, i2, none⟩)), (.slice a3 i4 0), (.int .i64 ((i4 : Nat) : Int)), (.bool true), (ys.getD 24 undef), (ys.getD 25 undef), (.pointer t0), (.pointer (some ⟨i5, i6, none⟩)), (.pointer (some ⟨i5, i6, none⟩)), (.slice a7 i8 0), (.int .i64 t7), (.pointer (some ⟨i9, (i10 + (t7.toNat * 1)), none⟩)), (.int .i64 n11), (.int .i64 t1), (.bool (n11 == t1)), (.bool false), (.pointer t0), (.pointer (some ⟨i26, i27, none⟩)), (.pointer (some ⟨i26, (i27 + 1), none⟩)), (.slice a28 i29 0), (.int .i64 t7), (.pointer (some ⟨i30, (i31 + (t7.toNat * 1)), none⟩)), (.int .i64 n32), (.int .i64 t2), (.bool (n32 == t2)), (.bool true), (.pointer t0), (.pointer (some ⟨i33, i34, none⟩)), (.pointer (some ⟨i33, i34, none⟩)), (.slice a35 i36 0), (.int .i64 t7), (.pointer (some ⟨i37, (i38 + (t7.toNat * 1)), none⟩)), (.int .i64 n39), (.int .i64 t1), (.bool (n39 == t1)), (.bool false), undef, undef, undef, undef, undef, undef, undef, undef, undef, (.bool false), undef, undef, undef, undef, undef, undef, undef, undef, undef, undef, undef, undef, undef, undef, undef, undef, undef, undef, undef, undef] H))
 else (
 ∃ k47, k47 < n ∧
 I k47 t6 (IntKind.i64.wrap (t7 + 1)) H)))
 else (
 K0 [(.pointer t0), (.int .i64 t1), (.int .i64 t2), undef, undef, undef, (.bool t6), (.int .i64 t7), (.int .i64 t8), (.bool t9), (.bool false), (.int .i64 t11), (.bool t12), (.bool false), undef, undef, undef, (.int .i64 t7), (.pointer t0), (.pointer (some ⟨i1, i2, none⟩)), (.pointer (some ⟨i1, i2, none⟩)), (.slice a3 i4 0), (.int .i64 ((i4 : Nat) : Int)), (.bool false), (ys.getD 24 undef), (ys.getD 25 undef), (ys.getD 26 undef), (ys.getD 27 undef), (ys.getD 28 undef), (ys.getD 29 undef), (ys.getD 30 undef), (ys.getD 31 undef), (ys.getD 32 undef), (ys.getD 33 undef), (ys.getD 34 undef), (ys.getD 35 undef), (ys.getD 36 undef), (ys.getD 37 undef), (ys.getD 38 undef), (ys.getD 39 undef), (ys.getD 40 undef), (ys.getD 41 undef), (ys.getD 42 undef), (ys.getD 43 undef), (ys.getD 44 undef), (ys.getD 45 undef), (ys.getD 46 undef), (ys.getD 47 undef), (ys.getD 48 undef), (ys.getD 49 undef), (ys.getD 50 undef), (ys.getD 51 undef), (ys.getD 52 undef), (ys.getD 53 undef), (ys.getD 54 undef), (ys.getD 55 undef), (ys.getD 56 undef), (ys.getD 57 undef), (ys.getD 58 undef), (ys.getD 59 undef), (ys.getD 60 undef), (ys.getD 61 undef), (ys.getD 62 undef), (ys.getD 63 undef), (ys.getD 64 undef), (ys.getD 65 undef), undef, undef, undef, undef, undef, undef, undef, undef, undef, undef, undef, undef, undef, undef, undef, undef, undef, undef, undef, undef] H))) :
    LA en L_crossbarref13_Pairs_Same_0 [(.pointer t0), (.int .i64 t1), (.int .i64 t2), undef, undef, undef, (.bool t6), (.int .i64 t7), (.int .i64 t8), (.bool t9), (.bool false), (.int .i64 t11), (.bool t12), (.bool false), undef, undef, undef, t17, t18, t19, t20, t21, t22, t23, t24, t25, t26, t27, t28, t29, t30, t31, t32, t33, t34, t35, t36, t37, t38, t39, t40, t41, t42, t43, t44, t45, t46, t47, t48, t49, t50, t51, t52, t53, t54, t55, t56, t57, t58, t59, t60, t61, t62, t63, t64, t65, undef, undef, undef, undef, undef, undef, undef, undef, undef, undef, undef, undef, undef, undef, undef, undef, undef, undef, undef, undef] H [(X.exit 0, K0), (X.ret, K1)] := by
  refine LA_rule (Z := []) (fun m xs H' => AS.asBool (xs.getD 6 undef) fun t6 => AS.asInt .i64 (xs.getD 7 undef) fun t7 => I m t6 t7 H') ?_ n H ?_
  · intro n H
    suffices hs : ∀ s17 : Value, ∀ s18 : Value, ∀ s19 : Value, ∀ s20 : Value, ∀ s21 : Value, ∀ s22 : Value, ∀ s23 : Value, ∀ s26 : Value, ∀ s27 : Value, ∀ s28 : Value, ∀ s29 : Value, ∀ s30 : Value, ∀ s31 : Value, ∀ s32 : Value, ∀ s33 : Value, ∀ s34 : Value, ∀ s35 : Value, ∀ s36 : Value, ∀ s37 : Value, ∀ s38 : Value, ∀ s39 : Value, ∀ s40 : Value, ∀ s41 : Value, ∀ s42 : Value, ∀ s43 : Value, ∀ s44 : Value, ∀ s45 : Value, ∀ s46 : Value, ∀ s47 : Value, ∀ s48 : Value, ∀ s49 : Value, ∀ s50 : Value, ∀ s51 : Value, ∀ s52 : Value, ∀ s53 : Value, ∀ s54 : Value, ∀ s55 : Value, ∀ s56 : Value, ∀ s57 : Value, ∀ s58 : Value, ∀ s59 : Value, ∀ s60 : Value, ∀ s61 : Value, ∀ s62 : Value, ∀ s63 : Value, ∀ s64 : Value, ∀ s65 : Value, ∀ s6 : Value, ∀ s24 : Value, ∀ s25 : Value, ∀ s7 : Value, ((AS.asBool s6 fun t6 => AS.asInt .i64 s7 fun t7 => I n t6 t7 H) → wpCode en L_crossbarref13_Pairs_Same_0 [] [(.pointer t0), (.int .i64 t1), (.int .i64 t2), undef, undef, undef, s6, s7, (.int .i64 t8), (.bool t9), (.bool false), (.int .i64 t11), (.bool t12), (.bool false), undef, undef, undef, s17, s18, s19, s20, s21, s22, s23, s24, s25, s26, s27, s28, s29, s30, s31, s32, s33, s34, s35, s36, s37, s38, s39, s40, s41, s42, s43, s44, s45, s46, s47, s48, s49, s50, s51, s52, s53, s54, s55, s56, s57, s58, s59, s60, s61, s62, s63, s64, s65, undef, undef, undef, undef, undef, undef, undef, undef, undef, undef, undef, undef, undef, undef, undef, undef, undef, undef, undef, undef] H (loopQ (fun m xs H' => AS.asBool (xs.getD 6 undef) fun t6 => AS.asInt .i64 (xs.getD 7 undef) fun t7 => I m t6 t7 H') n [(X.exit 0, K0), (X.ret, K1)])) by
      apply turnInto hs
      kernel_rfl
    intro s17 s18 s19 s20 s21 s22 s23 s26 s27 s28 s29 s30 s31 s32 s33 s34 s35 s36 s37 s38 s39 s40 s41 s42 s43 s44 s45 s46 s47 s48 s49 s50 s51 s52 s53 s54 s55 s56 s57 s58 s59 s60 s61 s62 s63 s64 s65 s6 s24 s25 s7 hP
    replace hP := asBool_elim hP
    obtain ⟨t6, rfl, hP⟩ := hP
    replace hP := asInt_elim hP
    obtain ⟨t7, rfl, hP⟩ := hP
    apply turnInto (hstep n t6 t7 [(.pointer t0), (.int .i64 t1), (.int .i64 t2), undef, undef, undef, (.bool t6), (.int .i64 t7), (.int .i64 t8), (.bool t9), (.bool false), (.int .i64 t11), (.bool t12), (.bool false), undef, undef, undef, s17, s18, s19, s20, s21, s22, s23, s24, s25, s26, s27, s28, s29, s30, s31, s32, s33, s34, s35, s36, s37, s38, s39, s40, s41, s42, s43, s44, s45, s46, s47, s48, s49, s50, s51, s52, s53, s54, s55, s56, s57, s58, s59, s60, s61, s62, s63, s64, s65, undef, undef, undef, undef, undef, undef, undef, undef, undef, undef, undef, undef, undef, undef, undef, undef, undef, undef, undef, undef] H hP)
    kernel_rfl
  · apply turnInto h0
    kernel_rfl


/-! crossbarlaw13_play_turn -/

theorem vc_crossbarlaw13_play_turn (x0 : Option Addr) (x1 : Int) (x2 : Option Addr) (x2l : Nat) (H : Heap) (R : Value → Heap → Prop) :
    (
 AS.asAddr (.pointer x0) fun i1 i2 =>
 ∃ a3 i4, H.cell i1 (i2 + 7) = some (.slice a3 i4 0) ∧
 inB x1 i4 ∧
 asRow a3 fun i5 i6 =>
 ∃ a7, H.cell i5 (i6 + (x1.toNat * 1)) = some (.pointer a7) ∧
 bif (!a7.isNone) then (
 CA en F.crossbarlaw13_play_step [(.pointer x0), (.int .i64 x1)] H fun v8 H9 =>
 ∃ b10, v8 = (.bool b10) ∧
 R (.bool b10) H9)
 else (
 AS.asAddr (.pointer x0) fun i11 i12 =>
 ∃ a13 i14, H.cell i11 (i12 + 9) = some (.slice a13 i14 0) ∧
 inB x1 i14 ∧
 asRow a13 fun i15 i16 =>
 ∃ n17, H.cell i15 (i16 + (x1.toNat * 1)) = some (.int .i64 n17) ∧
 bif (decide (n17 ≥ ((x2l : Nat) : Int))) then (
 R (.bool true) H)
 else (
 AS.asAddr (.pointer x0) fun i18 i19 =>
 ∃ a20 i21, H.cell i18 (i19 + 9) = some (.slice a20 i21 0) ∧
 inB x1 i21 ∧
 asRow a20 fun i22 i23 =>
 ∃ n24, H.cell i22 (i23 + (x1.toNat * 1)) = some (.int .i64 n24) ∧
 inB n24 x2l ∧
 asRow x2 fun i25 i26 =>
 ∃ n27, ∃ n28, ∃ n29, ∃ a30 i31, ∃ n32, ∃ n33, ∃ n34, H.cellsAt i25 (i26 + (n24.toNat * 7)) 7 = some [(.int .i64 n27), (.int .i64 n28), (.int .u64 n29), (.slice a30 i31 0), (.int .i64 n32), (.int .i64 n33), (.int .u64 n34)] ∧
 nwH H (.cells true 0 [(.int .i64 0), (.int .i64 0), (.int .u64 0), (.slice none 0 0), (.int .i64 0), (.int .i64 0), (.int .u64 0)]) fun i35 H36 =>
 stc H36 i35 0 [(.int .i64 n27), (.int .i64 n28), (.int .u64 n29), (.slice a30 i31 0), (.int .i64 n32), (.int .i64 n33), (.int .u64 n34)] fun H37 =>
 AS.asAddr (.pointer x0) fun i38 i39 =>
 ∃ a40 i41, (H37.bump 15).cell i38 (i39 + 9) = some (.slice a40 i41 0) ∧
 AS.asAddr (.pointer x0) fun i42 i43 =>
 ∃ a44 i45, (H37.bump 15).cell i42 (i43 + 9) = some (.slice a44 i45 0) ∧
 inB x1 i45 ∧
 asRow a44 fun i46 i47 =>
 ∃ n48, (H37.bump 15).cell i46 (i47 + (x1.toNat * 1)) = some (.int .i64 n48) ∧
 inB x1 i41 ∧
 asRow a40 fun i49 i50 =>
 stc (H37.bump 15) i49 (i50 + (x1.toNat * 1)) [(.int .i64 (IntKind.i64.wrap (n48 + 1)))] fun H51 =>
 (
 ∃ n52, H51.cell i35 0 = some (.int .i64 n52) ∧
 bif (n52 == 1) then (
 ∃ n53, ∃ n54, ∃ n55, ∃ a56 i57, ∃ n58, ∃ n59, ∃ n60, H51.cellsAt i35 0 7 = some [(.int .i64 n53), (.int .i64 n54), (.int .u64 n55), (.slice a56 i57 0), (.int .i64 n58), (.int .i64 n59), (.int .u64 n60)] ∧
 CA en F.crossbarlaw13_play_direct [(.pointer x0), (.int .i64 x1), (.agg #[(.int .i64 n53), (.int .i64 n54), (.int .u64 n55), (.slice a56 i57 0), (.int .i64 n58), (.int .i64 n59), (.int .u64 n60)])] H51 fun v61 H62 =>
 ∃ b63, v61 = (.bool b63) ∧
 R (.bool b63) H62)
 else (
 ∃ n64, H51.cell i35 0 = some (.int .i64 n64) ∧
 bif (n64 == 2) then (
 ∃ n65, ∃ n66, ∃ n67, ∃ a68 i69, ∃ n70, ∃ n71, ∃ n72, H51.cellsAt i35 0 7 = some [(.int .i64 n65), (.int .i64 n66), (.int .u64 n67), (.slice a68 i69 0), (.int .i64 n70), (.int .i64 n71), (.int .u64 n72)] ∧
 CA en F.crossbarlaw13_play_direct [(.pointer x0), (.int .i64 x1), (.agg #[(.int .i64 n65), (.int .i64 n66), (.int .u64 n67), (.slice a68 i69 0), (.int .i64 n70), (.int .i64 n71), (.int .u64 n72)])] H51 fun v73 H74 =>
 ∃ b75, v73 = (.bool b75) ∧
 R (.bool b75) H74)
 else (
 AS.asAddr (.pointer x0) fun i76 i77 =>
 ∃ a78 i79, (H51.bump 12).cell i76 i77 = some (.slice a78 i79 0) ∧
 AS.asAddr (.pointer x0) fun i80 i81 =>
 ∃ n82, (H51.bump 12).cell i80 (i81 + 1) = some (.int .i64 n82) ∧
 ∃ n83, ∃ n84, ∃ a85 i86, ∃ n87, ∃ n88, (H51.bump 12).cellsAt i35 1 5 = some [(.int .i64 n83), (.int .u64 n84), (.slice a85 i86 0), (.int .i64 n87), (.int .i64 n88)] ∧
 CA en F.crossbarref13_Right [(.slice a78 i79 0), (.int .i64 n82), (.agg #[(.int .i64 n83), (.int .u64 n84), (.slice a85 i86 0), (.int .i64 n87), (.int .i64 n88)])] (H51.bump 12) fun v89 H90 =>
 ∃ b91, v89 = (.bool b91) ∧
 (
 bif (!b91) then (
 R (.bool true) H90)
 else (
 ∃ n92, ∃ n93, ∃ a94 i95, ∃ n96, ∃ n97, H90.cellsAt i35 1 5 = some [(.int .i64 n92), (.int .u64 n93), (.slice a94 i95 0), (.int .i64 n96), (.int .i64 n97)] ∧
 nwH H90 (.cells true 0 [(.int .i64 0), (.int .u64 0), (.slice none 0 0), (.int .i64 0), (.int .i64 0)]) fun i98 H99 =>
 stc H99 i98 0 [(.int .i64 n92), (.int .u64 n93), (.slice a94 i95 0), (.int .i64 n96), (.int .i64 n97)] fun H100 =>
 ∃ a101 i102, H100.cell i35 3 = some (.slice a101 i102 0) ∧
 CA en F.crossbarkit_CopyWords [(.slice a101 i102 0)] H100 fun v103 H104 =>
 ∃ a105 i106, v103 = (.slice a105 i106 0) ∧
 stc H104 i98 2 [(.slice a105 i106 0)] fun H107 =>
 AS.asAddr (.pointer x0) fun i108 i109 =>
 ∃ a110 i111, (H107.bump 13).cell i108 (i109 + 7) = some (.slice a110 i111 0) ∧
 AS.asAddr (.pointer x0) fun i112 i113 =>
 ∃ a114, (H107.bump 13).cell i112 (i113 + 3) = some (.pointer a114) ∧
 ∃ n115, ∃ n116, ∃ a117 i118, ∃ n119, ∃ n120, (H107.bump 13).cellsAt i98 0 5 = some [(.int .i64 n115), (.int .u64 n116), (.slice a117 i118 0), (.int .i64 n119), (.int .i64 n120)] ∧
 CA en F.array_Map_Begin [(.pointer a114), (.agg #[(.int .i64 n115), (.int .u64 n116), (.slice a117 i118 0), (.int .i64 n119), (.int .i64 n120)])] (H107.bump 13) fun v121 H122 =>
 ∃ a123, v121 = (.pointer a123) ∧
 inB x1 i111 ∧
 asRow a110 fun i124 i125 =>
 stc H122 i124 (i125 + (x1.toNat * 1)) [(.pointer a123)] fun H126 =>
 (
 ∃ a131 i132, H126.cell i98 2 = some (.slice a131 i132 0) ∧
 CA en F.crossbarkit_SpoilWords [(.slice a131 i132 0)] H126 fun v133 H134 =>
 v133 = undef ∧
 AS.asAddr (.pointer x0) fun i135 i136 =>
 ∃ a137 i138, (H134.bump 9).cell i135 (i136 + 8) = some (.slice a137 i138 0) ∧
 ∃ n139, ∃ n140, ∃ a141 i142, ∃ n143, ∃ n144, (H134.bump 9).cellsAt i35 1 5 = some [(.int .i64 n139), (.int .u64 n140), (.slice a141 i142 0), (.int .i64 n143), (.int .i64 n144)] ∧
 inB x1 i138 ∧
 asRow a137 fun i145 i146 =>
 stc (H134.bump 9) i145 (i146 + (x1.toNat * 5)) [(.int .i64 n139), (.int .u64 n140), (.slice a141 i142 0), (.int .i64 n143), (.int .i64 n144)] fun H147 =>
 (
 AS.asAddr (.pointer x0) fun i148 i149 =>
 ∃ a150 i151, H147.cell i148 (i149 + 10) = some (.slice a150 i151 0) ∧
 inB x1 i151 ∧
 asRow a150 fun i152 i153 =>
 stc H147 i152 (i153 + (x1.toNat * 1)) [(.int .i64 0)] fun H154 =>
 AS.asAddr (.pointer x0) fun i155 i156 =>
 ∃ a157 i158, H154.cell i155 (i156 + 11) = some (.slice a157 i158 0) ∧
 inB x1 i158 ∧
 asRow a157 fun i159 i160 =>
 stc H154 i159 (i160 + (x1.toNat * 1)) [(.bool false)] fun H161 =>
 AS.asAddr (.pointer x0) fun i162 i163 =>
 ∃ a164 i165, H161.cell i162 (i163 + 7) = some (.slice a164 i165 0) ∧
 inB x1 i165 ∧
 asRow a164 fun i166 i167 =>
 ∃ a168, H161.cell i166 (i167 + (x1.toNat * 1)) = some (.pointer a168) ∧
 bif (!a168.isNone) then (
 CA en F.crossbarlaw13_play_step [(.pointer x0), (.int .i64 x1)] H161 fun v169 H170 =>
 ∃ b171, v169 = (.bool b171) ∧
 R (.bool b171) H170)
 else (
 R (.bool false) H161)) ∧
 True) ∧
 ((∃ a129 i130, (H107.bump 13).cell i108 (i109 + 7) = some (.slice a129 i130 0) ∧
 (a110 = a129 ∧ i111 = i130 ∧ 0 = 0)) ∧ (∃ a127 i128, H122.cell i108 (i109 + 7) = some (.slice a127 i128 0) ∧
 (a110 = a127 ∧ i111 = i128 ∧ 0 = 0)) ∧ True) ∧
 True)) ∧
 True))) ∧
 True))) →
    CA en F.crossbarlaw13_play_turn [(.pointer x0), (.int .i64 x1), (.slice x2 x2l 0)] H R := by
  intro h
  refine wpFn_ok (Z := []) (fn := Go.Proofs.Try.f34) ?_ ?_ ?_
  · kernel_rfl
  · kernel_rfl
  · apply turnInto h
    kernel_rfl


/-! crossbarlaw13_play_over -/

theorem vc_crossbarlaw13_play_over (x0 : Option Addr) (x1 : Int) (x2 : Option Addr) (x2l : Nat) (H : Heap) (R : Value → Heap → Prop) :
    (
 AS.asAddr (.pointer x0) fun i1 i2 =>
 ∃ a3 i4, H.cell i1 (i2 + 7) = some (.slice a3 i4 0) ∧
 inB x1 i4 ∧
 asRow a3 fun i5 i6 =>
 ∃ a7, H.cell i5 (i6 + (x1.toNat * 1)) = some (.pointer a7) ∧
 bif a7.isNone then (
 AS.asAddr (.pointer x0) fun i8 i9 =>
 ∃ a10 i11, H.cell i8 (i9 + 9) = some (.slice a10 i11 0) ∧
 inB x1 i11 ∧
 asRow a10 fun i12 i13 =>
 ∃ n14, H.cell i12 (i13 + (x1.toNat * 1)) = some (.int .i64 n14) ∧
 R (.bool (decide (n14 ≥ ((x2l : Nat) : Int)))) H)
 else (
 R (.bool false) H)) →
    CA en F.crossbarlaw13_play_over [(.pointer x0), (.int .i64 x1), (.slice x2 x2l 0)] H R := by
  intro h
  refine wpFn_ok (Z := []) (fn := Go.Proofs.Try.f35) ?_ ?_ ?_
  · kernel_rfl
  · kernel_rfl
  · apply turnInto h
    kernel_rfl


/-! crossbarlaw13_play_step -/

theorem vc_crossbarlaw13_play_step (x0 : Option Addr) (x1 : Int) (H : Heap) (R : Value → Heap → Prop) :
    (
 AS.asAddr (.pointer x0) fun i1 i2 =>
 ∃ a3 i4, H.cell i1 (i2 + 7) = some (.slice a3 i4 0) ∧
 inB x1 i4 ∧
 asRow a3 fun i5 i6 =>
 ∃ a7, H.cell i5 (i6 + (x1.toNat * 1)) = some (.pointer a7) ∧
 AS.asAddr (.pointer x0) fun i8 i9 =>
 ∃ a10, H.cell i8 (i9 + 2) = some (.pointer a10) ∧
 CA en F.smem_Mem_Count [(.pointer a10)] H fun v11 H12 =>
 ∃ n13, v11 = (.int .i64 n13) ∧
 CA en F.array_Run_Step [(.pointer a7)] H12 fun v14 H15 =>
 ∃ b16, ∃ b17, v14 = (.tuple #[(.bool b16), (.bool b17)]) ∧
 AS.asAddr (.pointer x0) fun i18 i19 =>
 ∃ a20 i21, (H15.bump 15).cell i18 (i19 + 10) = some (.slice a20 i21 0) ∧
 AS.asAddr (.pointer x0) fun i22 i23 =>
 ∃ a24 i25, (H15.bump 15).cell i22 (i23 + 10) = some (.slice a24 i25 0) ∧
 inB x1 i25 ∧
 asRow a24 fun i26 i27 =>
 ∃ n28, (H15.bump 15).cell i26 (i27 + (x1.toNat * 1)) = some (.int .i64 n28) ∧
 inB x1 i21 ∧
 asRow a20 fun i29 i30 =>
 stc (H15.bump 15) i29 (i30 + (x1.toNat * 1)) [(.int .i64 (IntKind.i64.wrap (n28 + 1)))] fun H31 =>
 (
 AS.asAddr (.pointer x0) fun i32 i33 =>
 ∃ a34, H31.cell i32 (i33 + 2) = some (.pointer a34) ∧
 CA en F.smem_Mem_Count [(.pointer a34)] H31 fun v35 H36 =>
 ∃ n37, v35 = (.int .i64 n37) ∧
 bif (decide (n37 > (IntKind.i64.wrap (n13 + 1)))) then (
 R (.bool false) H36)
 else (
 AS.asAddr (.pointer x0) fun i38 i39 =>
 ∃ a40 i41, H36.cell i38 (i39 + 10) = some (.slice a40 i41 0) ∧
 inB x1 i41 ∧
 asRow a40 fun i42 i43 =>
 ∃ n44, H36.cell i42 (i43 + (x1.toNat * 1)) = some (.int .i64 n44) ∧
 bif (decide (n44 > 3)) then (
 R (.bool false) H36)
 else (
 bif b16 then (
 AS.asAddr (.pointer x0) fun i45 i46 =>
 ∃ a47 i48, H36.cell i45 (i46 + 11) = some (.slice a47 i48 0) ∧
 inB x1 i48 ∧
 asRow a47 fun i49 i50 =>
 ∃ b51, H36.cell i49 (i50 + (x1.toNat * 1)) = some (.bool b51) ∧
 bif b51 then (
 R (.bool false) H36)
 else (
 bif b16 then (
 AS.asAddr (.pointer x0) fun i52 i53 =>
 ∃ a54 i55, H36.cell i52 (i53 + 11) = some (.slice a54 i55 0) ∧
 inB x1 i55 ∧
 asRow a54 fun i56 i57 =>
 stc H36 i56 (i57 + (x1.toNat * 1)) [(.bool true)] fun H58 =>
 CA en F.array_Run_Result [(.pointer a7)] H58 fun v59 H60 =>
 ∃ n61, ∃ a62 i63, ∃ n64, ∃ n65, v59 = (.agg #[(.int .i64 n61), (.slice a62 i63 0), (.int .u64 n64), (.int .i64 n65)]) ∧
 nwH H60 (.cells true 0 [(.int .i64 0), (.slice none 0 0), (.int .u64 0), (.int .i64 0)]) fun i66 H67 =>
 stc H67 i66 0 [(.int .i64 n61), (.slice a62 i63 0), (.int .u64 n64), (.int .i64 n65)] fun H68 =>
 ∃ J69 : List Value → Heap → Prop, (
 AS.asAddr (.pointer x0) fun i70 i71 =>
 ∃ n72, ∃ a73 i74, ∃ n75, ∃ n76, (H68.bump 39).cellsAt i66 0 4 = some [(.int .i64 n72), (.slice a73 i74 0), (.int .u64 n75), (.int .i64 n76)] ∧
 AS.asAddr (.pointer x0) fun i77 i78 =>
 ∃ a79, (H68.bump 39).cell i77 (i78 + 4) = some (.pointer a79) ∧
 AS.asAddr (.pointer x0) fun i80 i81 =>
 ∃ a82 i83, (H68.bump 39).cell i80 (i81 + 8) = some (.slice a82 i83 0) ∧
 inB x1 i83 ∧
 asRow a82 fun i84 i85 =>
 ∃ n86, ∃ n87, ∃ a88 i89, ∃ n90, ∃ n91, (H68.bump 39).cellsAt i84 (i85 + (x1.toNat * 5)) 5 = some [(.int .i64 n86), (.int .u64 n87), (.slice a88 i89 0), (.int .i64 n90), (.int .i64 n91)] ∧
 CA en F.crossbarref11_Maps_Do [(.pointer a79), (.int .i64 1), (.agg #[(.int .i64 n86), (.int .u64 n87), (.slice a88 i89 0), (.int .i64 n90), (.int .i64 n91)])] (H68.bump 39) fun v92 H93 =>
 ∃ n94, ∃ a95 i96, ∃ n97, ∃ n98, v92 = (.agg #[(.int .i64 n94), (.slice a95 i96 0), (.int .u64 n97), (.int .i64 n98)]) ∧
 CA en F.crossbarref13_Pairs_Agree [(.pointer (some ⟨i70, (i71 + 5), none⟩)), (.agg #[(.int .i64 n72), (.slice a73 i74 0), (.int .u64 n75), (.int .i64 n76)]), (.agg #[(.int .i64 n94), (.slice a95 i96 0), (.int .u64 n97), (.int .i64 n98)])] H93 fun v99 H100 =>
 ∃ b101, v99 = (.bool b101) ∧
 bif (!b101) then (
 (
 R (.bool false) H100) ∧
 ((∃ n107, ∃ a108 i109, ∃ n110, ∃ n111, (H68.bump 39).cellsAt i66 0 4 = some [(.int .i64 n107), (.slice a108 i109 0), (.int .u64 n110), (.int .i64 n111)] ∧
 sameN 8 (.agg #[(.int .i64 n72), (.slice a73 i74 0), (.int .u64 n75), (.int .i64 n76)]) (.agg #[(.int .i64 n107), (.slice a108 i109 0), (.int .u64 n110), (.int .i64 n111)]) = true) ∧ (∃ n102, ∃ a103 i104, ∃ n105, ∃ n106, H93.cellsAt i66 0 4 = some [(.int .i64 n102), (.slice a103 i104 0), (.int .u64 n105), (.int .i64 n106)] ∧
 sameN 8 (.agg #[(.int .i64 n72), (.slice a73 i74 0), (.int .u64 n75), (.int .i64 n76)]) (.agg #[(.int .i64 n102), (.slice a103 i104 0), (.int .u64 n105), (.int .i64 n106)]) = true) ∧ True) ∧
 True)
 else (
 AS.asAddr (.pointer x0) fun i112 i113 =>
 ∃ a114 i115, H100.cell i112 i113 = some (.slice a114 i115 0) ∧
 inB 0 i115 ∧
 asRow a114 fun i116 i117 =>
 ∃ n118, H100.cell i116 i117 = some (.int .i64 n118) ∧
 bif (n118 != 9) then (
 ∃ n119, H100.cell i66 3 = some (.int .i64 n119) ∧
 AS.asAddr (.pointer x0) fun i120 i121 =>
 ∃ n122, H100.cell i66 3 = some (.int .i64 n122) ∧
 CA en F.crossbarref13_Pairs_Of [(.pointer (some ⟨i120, (i121 + 5), none⟩)), (.int .i64 n122)] H100 fun v123 H124 =>
 ∃ n125, v123 = (.int .i64 n125) ∧
 (
 bif (n119 != n125) then (
 R (.bool false) H124)
 else (
 J69 [] H124)) ∧
 ((∃ n127, H100.cell i66 3 = some (.int .i64 n127) ∧
 n119 = n127) ∧ (∃ n126, H124.cell i66 3 = some (.int .i64 n126) ∧
 n119 = n126) ∧ True) ∧
 ((∃ n133, ∃ a134 i135, ∃ n136, ∃ n137, (H68.bump 39).cellsAt i66 0 4 = some [(.int .i64 n133), (.slice a134 i135 0), (.int .u64 n136), (.int .i64 n137)] ∧
 sameN 8 (.agg #[(.int .i64 n72), (.slice a73 i74 0), (.int .u64 n75), (.int .i64 n76)]) (.agg #[(.int .i64 n133), (.slice a134 i135 0), (.int .u64 n136), (.int .i64 n137)]) = true) ∧ (∃ n128, ∃ a129 i130, ∃ n131, ∃ n132, H93.cellsAt i66 0 4 = some [(.int .i64 n128), (.slice a129 i130 0), (.int .u64 n131), (.int .i64 n132)] ∧
 sameN 8 (.agg #[(.int .i64 n72), (.slice a73 i74 0), (.int .u64 n75), (.int .i64 n76)]) (.agg #[(.int .i64 n128), (.slice a129 i130 0), (.int .u64 n131), (.int .i64 n132)]) = true) ∧ True) ∧
 True)
 else (
 (
 J69 [] H100) ∧
 ((∃ n143, ∃ a144 i145, ∃ n146, ∃ n147, (H68.bump 39).cellsAt i66 0 4 = some [(.int .i64 n143), (.slice a144 i145 0), (.int .u64 n146), (.int .i64 n147)] ∧
 sameN 8 (.agg #[(.int .i64 n72), (.slice a73 i74 0), (.int .u64 n75), (.int .i64 n76)]) (.agg #[(.int .i64 n143), (.slice a144 i145 0), (.int .u64 n146), (.int .i64 n147)]) = true) ∧ (∃ n138, ∃ a139 i140, ∃ n141, ∃ n142, H93.cellsAt i66 0 4 = some [(.int .i64 n138), (.slice a139 i140 0), (.int .u64 n141), (.int .i64 n142)] ∧
 sameN 8 (.agg #[(.int .i64 n72), (.slice a73 i74 0), (.int .u64 n75), (.int .i64 n76)]) (.agg #[(.int .i64 n138), (.slice a139 i140 0), (.int .u64 n141), (.int .i64 n142)]) = true) ∧ True) ∧
 True))) ∧
 ∀ (ys148 : Fr) (H149 : Heap), J69 [] H149 →
 ∃ J150 : List Value → Heap → Prop, (
 ∃ n151, H149.cell i66 3 = some (.int .i64 n151) ∧
 bif (decide (n151 > 0)) then (
 AS.asAddr (.pointer x0) fun i152 i153 =>
 ∃ a154 i155, (H149.bump 9).cell i152 (i153 + 12) = some (.slice a154 i155 0) ∧
 ∃ n156, (H149.bump 9).cell i66 3 = some (.int .i64 n156) ∧
 inB x1 i155 ∧
 asRow a154 fun i157 i158 =>
 stc (H149.bump 9) i157 (i158 + (x1.toNat * 1)) [(.int .i64 n156)] fun H159 =>
 (
 J150 [] H159) ∧
 True)
 else (
 J150 [] H149)) ∧
 ∀ (ys160 : Fr) (H161 : Heap), J150 [] H161 →
 ∃ a162 i163, H161.cell i66 1 = some (.slice a162 i163 0) ∧
 CA en F.crossbarkit_SpoilWords [(.slice a162 i163 0)] H161 fun v164 H165 =>
 v164 = undef ∧
 bif b17 then (
 CA en F.array_Run_Step [(.pointer a7)] H165 fun v166 H167 =>
 ∃ b168, ∃ b169, v166 = (.tuple #[(.bool b168), (.bool b169)]) ∧
 AS.asAddr (.pointer x0) fun i170 i171 =>
 ∃ a172 i173, H167.cell i170 (i171 + 11) = some (.slice a172 i173 0) ∧
 inB x1 i173 ∧
 asRow a172 fun i174 i175 =>
 ∃ b176, H167.cell i174 (i175 + (x1.toNat * 1)) = some (.bool b176) ∧
 bif (!b176) then (
 R (.bool false) H167)
 else (
 bif b168 then (
 R (.bool false) H167)
 else (
 bif (!b169) then (
 R (.bool false) H167)
 else (
 AS.asAddr (.pointer x0) fun i177 i178 =>
 ∃ a179, H167.cell i177 (i178 + 2) = some (.pointer a179) ∧
 CA en F.smem_Mem_Count [(.pointer a179)] H167 fun v180 H181 =>
 ∃ n182, v180 = (.int .i64 n182) ∧
 bif (decide (n182 > (IntKind.i64.wrap (n13 + 1)))) then (
 R (.bool false) H181)
 else (
 AS.asAddr (.pointer x0) fun i183 i184 =>
 ∃ a185 i186, H181.cell i183 (i184 + 7) = some (.slice a185 i186 0) ∧
 inB x1 i186 ∧
 asRow a185 fun i187 i188 =>
 stc H181 i187 (i188 + (x1.toNat * 1)) [(.pointer none)] fun H189 =>
 R (.bool true) H189)))))
 else (
 R (.bool true) H165))
 else (
 bif b17 then (
 CA en F.array_Run_Step [(.pointer a7)] H36 fun v190 H191 =>
 ∃ b192, ∃ b193, v190 = (.tuple #[(.bool b192), (.bool b193)]) ∧
 AS.asAddr (.pointer x0) fun i194 i195 =>
 ∃ a196 i197, H191.cell i194 (i195 + 11) = some (.slice a196 i197 0) ∧
 inB x1 i197 ∧
 asRow a196 fun i198 i199 =>
 ∃ b200, H191.cell i198 (i199 + (x1.toNat * 1)) = some (.bool b200) ∧
 bif (!b200) then (
 R (.bool false) H191)
 else (
 bif b192 then (
 R (.bool false) H191)
 else (
 bif (!b193) then (
 R (.bool false) H191)
 else (
 AS.asAddr (.pointer x0) fun i201 i202 =>
 ∃ a203, H191.cell i201 (i202 + 2) = some (.pointer a203) ∧
 CA en F.smem_Mem_Count [(.pointer a203)] H191 fun v204 H205 =>
 ∃ n206, v204 = (.int .i64 n206) ∧
 bif (decide (n206 > (IntKind.i64.wrap (n13 + 1)))) then (
 R (.bool false) H205)
 else (
 AS.asAddr (.pointer x0) fun i207 i208 =>
 ∃ a209 i210, H205.cell i207 (i208 + 7) = some (.slice a209 i210 0) ∧
 inB x1 i210 ∧
 asRow a209 fun i211 i212 =>
 stc H205 i211 (i212 + (x1.toNat * 1)) [(.pointer none)] fun H213 =>
 R (.bool true) H213)))))
 else (
 R (.bool true) H36))))
 else (
 bif b16 then (
 AS.asAddr (.pointer x0) fun i214 i215 =>
 ∃ a216 i217, H36.cell i214 (i215 + 11) = some (.slice a216 i217 0) ∧
 inB x1 i217 ∧
 asRow a216 fun i218 i219 =>
 stc H36 i218 (i219 + (x1.toNat * 1)) [(.bool true)] fun H220 =>
 CA en F.array_Run_Result [(.pointer a7)] H220 fun v221 H222 =>
 ∃ n223, ∃ a224 i225, ∃ n226, ∃ n227, v221 = (.agg #[(.int .i64 n223), (.slice a224 i225 0), (.int .u64 n226), (.int .i64 n227)]) ∧
 nwH H222 (.cells true 0 [(.int .i64 0), (.slice none 0 0), (.int .u64 0), (.int .i64 0)]) fun i228 H229 =>
 stc H229 i228 0 [(.int .i64 n223), (.slice a224 i225 0), (.int .u64 n226), (.int .i64 n227)] fun H230 =>
 ∃ J231 : List Value → Heap → Prop, (
 AS.asAddr (.pointer x0) fun i232 i233 =>
 ∃ n234, ∃ a235 i236, ∃ n237, ∃ n238, (H230.bump 39).cellsAt i228 0 4 = some [(.int .i64 n234), (.slice a235 i236 0), (.int .u64 n237), (.int .i64 n238)] ∧
 AS.asAddr (.pointer x0) fun i239 i240 =>
 ∃ a241, (H230.bump 39).cell i239 (i240 + 4) = some (.pointer a241) ∧
 AS.asAddr (.pointer x0) fun i242 i243 =>
 ∃ a244 i245, (H230.bump 39).cell i242 (i243 + 8) = some (.slice a244 i245 0) ∧
 inB x1 i245 ∧
 asRow a244 fun i246 i247 =>
 ∃ n248, ∃ n249, ∃ a250 i251, ∃ n252, ∃ n253, (H230.bump 39).cellsAt i246 (i247 + (x1.toNat * 5)) 5 = some [(.int .i64 n248), (.int .u64 n249), (.slice a250 i251 0), (.int .i64 n252), (.int .i64 n253)] ∧
 CA en F.crossbarref11_Maps_Do [(.pointer a241), (.int .i64 1), (.agg #[(.int .i64 n248), (.int .u64 n249), (.slice a250 i251 0), (.int .i64 n252), (.int .i64 n253)])] (H230.bump 39) fun v254 H255 =>
 ∃ n256, ∃ a257 i258, ∃ n259, ∃ n260, v254 = (.agg #[(.int .i64 n256), (.slice a257 i258 0), (.int .u64 n259), (.int .i64 n260)]) ∧
 CA en F.crossbarref13_Pairs_Agree [(.pointer (some ⟨i232, (i233 + 5), none⟩)), (.agg #[(.int .i64 n234), (.slice a235 i236 0), (.int .u64 n237), (.int .i64 n238)]), (.agg #[(.int .i64 n256), (.slice a257 i258 0), (.int .u64 n259), (.int .i64 n260)])] H255 fun v261 H262 =>
 ∃ b263, v261 = (.bool b263) ∧
 bif (!b263) then (
 (
 R (.bool false) H262) ∧
 ((∃ n269, ∃ a270 i271, ∃ n272, ∃ n273, (H230.bump 39).cellsAt i228 0 4 = some [(.int .i64 n269), (.slice a270 i271 0), (.int .u64 n272), (.int .i64 n273)] ∧
 sameN 8 (.agg #[(.int .i64 n234), (.slice a235 i236 0), (.int .u64 n237), (.int .i64 n238)]) (.agg #[(.int .i64 n269), (.slice a270 i271 0), (.int .u64 n272), (.int .i64 n273)]) = true) ∧ (∃ n264, ∃ a265 i266, ∃ n267, ∃ n268, H255.cellsAt i228 0 4 = some [(.int .i64 n264), (.slice a265 i266 0), (.int .u64 n267), (.int .i64 n268)] ∧
 sameN 8 (.agg #[(.int .i64 n234), (.slice a235 i236 0), (.int .u64 n237), (.int .i64 n238)]) (.agg #[(.int .i64 n264), (.slice a265 i266 0), (.int .u64 n267), (.int .i64 n268)]) = true) ∧ True) ∧
 True)
 else (
 AS.asAddr (.pointer x0) fun i274 i275 =>
 ∃ a276 i277, H262.cell i274 i275 = some (.slice a276 i277 0) ∧
 inB 0 i277 ∧
 asRow a276 fun i278 i279 =>
 ∃ n280, H262.cell i278 i279 = some (.int .i64 n280) ∧
 bif (n280 != 9) then (
 ∃ n281, H262.cell i228 3 = some (.int .i64 n281) ∧
 AS.asAddr (.pointer x0) fun i282 i283 =>
 ∃ n284, H262.cell i228 3 = some (.int .i64 n284) ∧
 CA en F.crossbarref13_Pairs_Of [(.pointer (some ⟨i282, (i283 + 5), none⟩)), (.int .i64 n284)] H262 fun v285 H286 =>
 ∃ n287, v285 = (.int .i64 n287) ∧
 (
 bif (n281 != n287) then (
 R (.bool false) H286)
 else (
 J231 [] H286)) ∧
 ((∃ n289, H262.cell i228 3 = some (.int .i64 n289) ∧
 n281 = n289) ∧ (∃ n288, H286.cell i228 3 = some (.int .i64 n288) ∧
 n281 = n288) ∧ True) ∧
 ((∃ n295, ∃ a296 i297, ∃ n298, ∃ n299, (H230.bump 39).cellsAt i228 0 4 = some [(.int .i64 n295), (.slice a296 i297 0), (.int .u64 n298), (.int .i64 n299)] ∧
 sameN 8 (.agg #[(.int .i64 n234), (.slice a235 i236 0), (.int .u64 n237), (.int .i64 n238)]) (.agg #[(.int .i64 n295), (.slice a296 i297 0), (.int .u64 n298), (.int .i64 n299)]) = true) ∧ (∃ n290, ∃ a291 i292, ∃ n293, ∃ n294, H255.cellsAt i228 0 4 = some [(.int .i64 n290), (.slice a291 i292 0), (.int .u64 n293), (.int .i64 n294)] ∧
 sameN 8 (.agg #[(.int .i64 n234), (.slice a235 i236 0), (.int .u64 n237), (.int .i64 n238)]) (.agg #[(.int .i64 n290), (.slice a291 i292 0), (.int .u64 n293), (.int .i64 n294)]) = true) ∧ True) ∧
 True)
 else (
 (
 J231 [] H262) ∧
 ((∃ n305, ∃ a306 i307, ∃ n308, ∃ n309, (H230.bump 39).cellsAt i228 0 4 = some [(.int .i64 n305), (.slice a306 i307 0), (.int .u64 n308), (.int .i64 n309)] ∧
 sameN 8 (.agg #[(.int .i64 n234), (.slice a235 i236 0), (.int .u64 n237), (.int .i64 n238)]) (.agg #[(.int .i64 n305), (.slice a306 i307 0), (.int .u64 n308), (.int .i64 n309)]) = true) ∧ (∃ n300, ∃ a301 i302, ∃ n303, ∃ n304, H255.cellsAt i228 0 4 = some [(.int .i64 n300), (.slice a301 i302 0), (.int .u64 n303), (.int .i64 n304)] ∧
 sameN 8 (.agg #[(.int .i64 n234), (.slice a235 i236 0), (.int .u64 n237), (.int .i64 n238)]) (.agg #[(.int .i64 n300), (.slice a301 i302 0), (.int .u64 n303), (.int .i64 n304)]) = true) ∧ True) ∧
 True))) ∧
 ∀ (ys310 : Fr) (H311 : Heap), J231 [] H311 →
 ∃ J312 : List Value → Heap → Prop, (
 ∃ n313, H311.cell i228 3 = some (.int .i64 n313) ∧
 bif (decide (n313 > 0)) then (
 AS.asAddr (.pointer x0) fun i314 i315 =>
 ∃ a316 i317, (H311.bump 9).cell i314 (i315 + 12) = some (.slice a316 i317 0) ∧
 ∃ n318, (H311.bump 9).cell i228 3 = some (.int .i64 n318) ∧
 inB x1 i317 ∧
 asRow a316 fun i319 i320 =>
 stc (H311.bump 9) i319 (i320 + (x1.toNat * 1)) [(.int .i64 n318)] fun H321 =>
 (
 J312 [] H321) ∧
 True)
 else (
 J312 [] H311)) ∧
 ∀ (ys322 : Fr) (H323 : Heap), J312 [] H323 →
 ∃ a324 i325, H323.cell i228 1 = some (.slice a324 i325 0) ∧
 CA en F.crossbarkit_SpoilWords [(.slice a324 i325 0)] H323 fun v326 H327 =>
 v326 = undef ∧
 bif b17 then (
 CA en F.array_Run_Step [(.pointer a7)] H327 fun v328 H329 =>
 ∃ b330, ∃ b331, v328 = (.tuple #[(.bool b330), (.bool b331)]) ∧
 AS.asAddr (.pointer x0) fun i332 i333 =>
 ∃ a334 i335, H329.cell i332 (i333 + 11) = some (.slice a334 i335 0) ∧
 inB x1 i335 ∧
 asRow a334 fun i336 i337 =>
 ∃ b338, H329.cell i336 (i337 + (x1.toNat * 1)) = some (.bool b338) ∧
 bif (!b338) then (
 R (.bool false) H329)
 else (
 bif b330 then (
 R (.bool false) H329)
 else (
 bif (!b331) then (
 R (.bool false) H329)
 else (
 AS.asAddr (.pointer x0) fun i339 i340 =>
 ∃ a341, H329.cell i339 (i340 + 2) = some (.pointer a341) ∧
 CA en F.smem_Mem_Count [(.pointer a341)] H329 fun v342 H343 =>
 ∃ n344, v342 = (.int .i64 n344) ∧
 bif (decide (n344 > (IntKind.i64.wrap (n13 + 1)))) then (
 R (.bool false) H343)
 else (
 AS.asAddr (.pointer x0) fun i345 i346 =>
 ∃ a347 i348, H343.cell i345 (i346 + 7) = some (.slice a347 i348 0) ∧
 inB x1 i348 ∧
 asRow a347 fun i349 i350 =>
 stc H343 i349 (i350 + (x1.toNat * 1)) [(.pointer none)] fun H351 =>
 R (.bool true) H351)))))
 else (
 R (.bool true) H327))
 else (
 bif b17 then (
 CA en F.array_Run_Step [(.pointer a7)] H36 fun v352 H353 =>
 ∃ b354, ∃ b355, v352 = (.tuple #[(.bool b354), (.bool b355)]) ∧
 AS.asAddr (.pointer x0) fun i356 i357 =>
 ∃ a358 i359, H353.cell i356 (i357 + 11) = some (.slice a358 i359 0) ∧
 inB x1 i359 ∧
 asRow a358 fun i360 i361 =>
 ∃ b362, H353.cell i360 (i361 + (x1.toNat * 1)) = some (.bool b362) ∧
 bif (!b362) then (
 R (.bool false) H353)
 else (
 bif b354 then (
 R (.bool false) H353)
 else (
 bif (!b355) then (
 R (.bool false) H353)
 else (
 AS.asAddr (.pointer x0) fun i363 i364 =>
 ∃ a365, H353.cell i363 (i364 + 2) = some (.pointer a365) ∧
 CA en F.smem_Mem_Count [(.pointer a365)] H353 fun v366 H367 =>
 ∃ n368, v366 = (.int .i64 n368) ∧
 bif (decide (n368 > (IntKind.i64.wrap (n13 + 1)))) then (
 R (.bool false) H367)
 else (
 AS.asAddr (.pointer x0) fun i369 i370 =>
 ∃ a371 i372, H367.cell i369 (i370 + 7) = some (.slice a371 i372 0) ∧
 inB x1 i372 ∧
 asRow a371 fun i373 i374 =>
 stc H367 i373 (i374 + (x1.toNat * 1)) [(.pointer none)] fun H375 =>
 R (.bool true) H375)))))
 else (
 R (.bool true) H36)))))) ∧
 True) →
    CA en F.crossbarlaw13_play_step [(.pointer x0), (.int .i64 x1)] H R := by
  intro h
  refine wpFnC_ok (C := [none, none, none, none, none, none, none, none, none, none, none, none, some [], none, none, some [], none, none, none, none, none, none, none, none]) (Z := []) (fn := Go.Proofs.Try.f48) ?_ ?_ ?_
  · kernel_rfl
  · kernel_rfl
  · apply turnInto h
    kernel_rfl


/-! crossbarlaw13_play_direct -/

theorem vc_crossbarlaw13_play_direct (x0 : Option Addr) (x1 : Int) (x2_0 : Int) (x2_1 : Int) (x2_2 : Int) (x2_3 : Option Addr) (x2_3l : Nat) (x2_4 : Int) (x2_5 : Int) (x2_6 : Int) (H : Heap) (R : Value → Heap → Prop) :
    (
 nwH H (.cells true 0 [(.int .i64 x2_0), (.int .i64 x2_1), (.int .u64 x2_2), (.slice x2_3 x2_3l 0), (.int .i64 x2_4), (.int .i64 x2_5), (.int .u64 x2_6)]) fun i1 H2 =>
 AS.asAddr (.pointer x0) fun i3 i4 =>
 ∃ a5 i6, H2.cell i3 (i4 + 12) = some (.slice a5 i6 0) ∧
 inB x1 i6 ∧
 asRow a5 fun i7 i8 =>
 ∃ n9, H2.cell i7 (i8 + (x1.toNat * 1)) = some (.int .i64 n9) ∧
 bif (n9 == 0) then (
 R (.bool true) H2)
 else (
 AS.asAddr (.pointer x0) fun i10 i11 =>
 ∃ a12 i13, H2.cell i10 i11 = some (.slice a12 i13 0) ∧
 inB 0 i13 ∧
 asRow a12 fun i14 i15 =>
 ∃ n16, H2.cell i14 i15 = some (.int .i64 n16) ∧
 bif (n16 == 9) then (
 R (.bool true) H2)
 else (
 AS.asAddr (.pointer x0) fun i17 i18 =>
 ∃ a19, H2.cell i17 (i18 + 3) = some (.pointer a19) ∧
 CA en F.array_Map_Cell [(.pointer a19), (.int .i64 n9)] H2 fun v20 H21 =>
 ∃ n22, ∃ n23, v20 = (.tuple #[(.int .i64 n22), (.int .i64 n23)]) ∧
 ∃ n24, H21.cell i1 0 = some (.int .i64 n24) ∧
 bif (n24 == 1) then (
 AS.asAddr (.pointer x0) fun i25 i26 =>
 ∃ a27, H21.cell i25 (i26 + 2) = some (.pointer a27) ∧
 CA en F.smem_Mem_Load [(.pointer a27), (.int .i64 n22), (.int .i64 n23)] H21 fun v28 H29 =>
 ∃ n30, ∃ b31, v28 = (.tuple #[(.int .u64 n30), (.bool b31)]) ∧
 AS.asAddr (.pointer x0) fun i32 i33 =>
 ∃ a34, (H29.bump 15).cell i32 (i33 + 4) = some (.pointer a34) ∧
 AS.asAddr (.pointer x0) fun i35 i36 =>
 CA en F.crossbarref13_Pairs_Of [(.pointer (some ⟨i35, (i36 + 5), none⟩)), (.int .i64 n9)] (H29.bump 15) fun v37 H38 =>
 ∃ n39, v37 = (.int .i64 n39) ∧
 CA en F.crossbarref11_Maps_Load [(.pointer a34), (.int .i64 1), (.int .i64 n39)] H38 fun v40 H41 =>
 ∃ n42, ∃ b43, v40 = (.tuple #[(.int .u64 n42), (.bool b43)]) ∧
 (
 bif b31 then (
 bif b43 then (
 R (.bool (n30 == n42)) H41)
 else (
 R (.bool false) H41))
 else (
 R (.bool false) H41)) ∧
 ((∃ a45, (H29.bump 15).cell i32 (i33 + 4) = some (.pointer a45) ∧
 a34 = a45) ∧ (∃ a44, H38.cell i32 (i33 + 4) = some (.pointer a44) ∧
 a34 = a44) ∧ True) ∧
 True)
 else (
 AS.asAddr (.pointer x0) fun i46 i47 =>
 ∃ a48, (H21.bump 24).cell i46 (i47 + 2) = some (.pointer a48) ∧
 ∃ n49, (H21.bump 24).cell i1 6 = some (.int .u64 n49) ∧
 CA en F.smem_Mem_Store [(.pointer a48), (.int .i64 n22), (.int .i64 n23), (.int .u64 n49)] (H21.bump 24) fun v50 H51 =>
 ∃ b52, v50 = (.bool b52) ∧
 bif b52 then (
 AS.asAddr (.pointer x0) fun i53 i54 =>
 ∃ a55, H51.cell i53 (i54 + 4) = some (.pointer a55) ∧
 AS.asAddr (.pointer x0) fun i56 i57 =>
 CA en F.crossbarref13_Pairs_Of [(.pointer (some ⟨i56, (i57 + 5), none⟩)), (.int .i64 n9)] H51 fun v58 H59 =>
 ∃ n60, v58 = (.int .i64 n60) ∧
 ∃ n61, H59.cell i1 6 = some (.int .u64 n61) ∧
 CA en F.crossbarref11_Maps_Store [(.pointer a55), (.int .i64 1), (.int .i64 n60), (.int .u64 n61)] H59 fun v62 H63 =>
 ∃ b64, v62 = (.bool b64) ∧
 (
 R (.bool b64) H63) ∧
 ((∃ n66, H51.cell i1 6 = some (.int .u64 n66) ∧
 n61 = n66) ∧ (∃ n65, H59.cell i1 6 = some (.int .u64 n65) ∧
 n61 = n65) ∧ True) ∧
 ((∃ a68, H51.cell i53 (i54 + 4) = some (.pointer a68) ∧
 a55 = a68) ∧ (∃ a67, H59.cell i53 (i54 + 4) = some (.pointer a67) ∧
 a55 = a67) ∧ True) ∧
 True)
 else (
 (
 R (.bool false) H51) ∧
 True))))) →
    CA en F.crossbarlaw13_play_direct [(.pointer x0), (.int .i64 x1), (.agg #[(.int .i64 x2_0), (.int .i64 x2_1), (.int .u64 x2_2), (.slice x2_3 x2_3l 0), (.int .i64 x2_4), (.int .i64 x2_5), (.int .u64 x2_6)])] H R := by
  intro h
  refine wpFn_ok (Z := []) (fn := Go.Proofs.Try.f49) ?_ ?_ ?_
  · kernel_rfl
  · kernel_rfl
  · apply turnInto h
    kernel_rfl


/-! crossbarlaw13_begun -/

theorem vc_crossbarlaw13_begun (x0_0 : Int) (x0_1 : Int) (x0_2 : Int) (x0_3 : Option Addr) (x0_3l : Nat) (x0_4 : Option Addr) (x0_4l : Nat) (H : Heap) (R : Value → Heap → Prop) :
    (
 nwH H (.cells true 0 [(.int .i64 x0_0), (.int .i64 x0_1), (.int .i64 x0_2), (.slice x0_3 x0_3l 0), (.slice x0_4 x0_4l 0)]) fun i1 H2 =>
 ∃ n3, (H2.bump 13).cell i1 0 = some (.int .i64 n3) ∧
 ∃ n4, (H2.bump 13).cell i1 1 = some (.int .i64 n4) ∧
 CA en F.crossbarlaw13_Decls [(.int .i64 n3), (.int .i64 n4)] (H2.bump 13) fun v5 H6 =>
 ∃ a7 i8, v5 = (.slice a7 i8 0) ∧
 ∃ n9, H6.cell i1 2 = some (.int .i64 n9) ∧
 CA en F.crossbarkit_Pick [(.int .i64 n9), (.int .i64 4)] H6 fun v10 H11 =>
 ∃ n12, v10 = (.int .i64 n12) ∧
 CA en F.smem_New [(.int .i64 1024)] H11 fun v13 H14 =>
 ∃ a15, v13 = (.pointer a15) ∧
 nwH H14 (.cells true 0 [(.slice a7 i8 0), (.int .i64 (IntKind.i64.wrap (1 + n12))), (.pointer a15), (.pointer none), (.pointer none), (.slice none 0 0), (.slice none 0 0), (.slice none 0 0), (.slice none 0 0), (.slice none 0 0), (.slice none 0 0), (.slice none 0 0), (.slice none 0 0)]) fun i16 H17 =>
 (
 ∃ a20, H17.cell i16 2 = some (.pointer a20) ∧
 bif a20.isNone then (
 R (.pointer none) H17)
 else (
 ∃ a21, (H17.bump 20).cell i16 2 = some (.pointer a21) ∧
 ∃ a22 i23, (H17.bump 20).cell i16 0 = some (.slice a22 i23 0) ∧
 inB 0 i23 ∧
 asRow a22 fun i24 i25 =>
 ∃ n26, ∃ n27, ∃ n28, ∃ n29, ∃ n30, (H17.bump 20).cellsAt i24 i25 5 = some [(.int .i64 n26), (.int .i64 n27), (.int .i64 n28), (.int .i64 n29), (.int .i64 n30)] ∧
 ∃ n31, (H17.bump 20).cell i16 1 = some (.int .i64 n31) ∧
 CA en F.array_New [(.pointer a21), (.agg #[(.int .i64 n26), (.int .i64 n27), (.int .i64 n28), (.int .i64 n29), (.int .i64 n30)]), (.int .i64 n31)] (H17.bump 20) fun v32 H33 =>
 ∃ a34, ∃ n35, v32 = (.tuple #[(.pointer a34), (.int .i64 n35)]) ∧
 (
 ∃ a36 i37, (H33.bump 14).cell i16 0 = some (.slice a36 i37 0) ∧
 ∃ n38, (H33.bump 14).cell i16 1 = some (.int .i64 n38) ∧
 CA en F.crossbarref11_New [(.slice a36 i37 0), (.int .i64 n38)] (H33.bump 14) fun v39 H40 =>
 ∃ a41, ∃ n42, v39 = (.tuple #[(.pointer a41), (.int .i64 n42)]) ∧
 (
 bif (n35 != 0) then (
 R (.pointer none) H40)
 else (
 bif (n42 != 0) then (
 R (.pointer none) H40)
 else (
 bif a34.isNone then (
 R (.pointer none) H40)
 else (
 stc H40 i16 3 [(.pointer a34)] fun H43 =>
 stc H43 i16 4 [(.pointer a41)] fun H44 =>
 ∃ a45 i46, H44.cell i1 3 = some (.slice a45 i46 0) ∧
 okLen 8 ((i46 : Nat) : Int) ((i46 : Nat) : Int) ∧
 nwH H44 (.cells true 1 (reps ((i46 : Nat) : Int).toNat [(.pointer none)])) fun i47 H48 =>
 stc H48 i16 7 [(.slice (some ⟨i47, 0, none⟩) ((i46 : Nat) : Int).toNat 0)] fun H49 =>
 okLen 56 ((i46 : Nat) : Int) ((i46 : Nat) : Int) ∧
 nwH H49 (.cells true 5 (reps ((i46 : Nat) : Int).toNat [(.int .i64 0), (.int .u64 0), (.slice none 0 0), (.int .i64 0), (.int .i64 0)])) fun i50 H51 =>
 stc H51 i16 8 [(.slice (some ⟨i50, 0, none⟩) ((i46 : Nat) : Int).toNat 0)] fun H52 =>
 okLen 8 ((i46 : Nat) : Int) ((i46 : Nat) : Int) ∧
 nwH H52 (.cells true 1 (reps ((i46 : Nat) : Int).toNat [(.int .i64 0)])) fun i53 H54 =>
 stc H54 i16 9 [(.slice (some ⟨i53, 0, none⟩) ((i46 : Nat) : Int).toNat 0)] fun H55 =>
 okLen 8 ((i46 : Nat) : Int) ((i46 : Nat) : Int) ∧
 nwH H55 (.cells true 1 (reps ((i46 : Nat) : Int).toNat [(.int .i64 0)])) fun i56 H57 =>
 stc H57 i16 10 [(.slice (some ⟨i56, 0, none⟩) ((i46 : Nat) : Int).toNat 0)] fun H58 =>
 okLen 1 ((i46 : Nat) : Int) ((i46 : Nat) : Int) ∧
 nwH H58 (.cells true 1 (reps ((i46 : Nat) : Int).toNat [(.bool false)])) fun i59 H60 =>
 stc H60 i16 11 [(.slice (some ⟨i59, 0, none⟩) ((i46 : Nat) : Int).toNat 0)] fun H61 =>
 okLen 8 ((i46 : Nat) : Int) ((i46 : Nat) : Int) ∧
 nwH H61 (.cells true 1 (reps ((i46 : Nat) : Int).toNat [(.int .i64 0)])) fun i62 H63 =>
 stc H63 i16 12 [(.slice (some ⟨i62, 0, none⟩) ((i46 : Nat) : Int).toNat 0)] fun H64 =>
 R (.pointer (some ⟨i16, 0, none⟩)) H64)))) ∧
 True) ∧
 True)) ∧
 (((IntKind.i64.wrap (1 + n12)) = (IntKind.i64.wrap (1 + n12))) ∧ ((IntKind.i64.wrap (1 + n12)) = (IntKind.i64.wrap (1 + n12))) ∧ True) ∧
 ((∃ n19, (H2.bump 13).cell i1 2 = some (.int .i64 n19) ∧
 n9 = n19) ∧ (∃ n18, H6.cell i1 2 = some (.int .i64 n18) ∧
 n9 = n18) ∧ True) ∧
 True) →
    CA en F.crossbarlaw13_begun [(.agg #[(.int .i64 x0_0), (.int .i64 x0_1), (.int .i64 x0_2), (.slice x0_3 x0_3l 0), (.slice x0_4 x0_4l 0)])] H R := by
  intro h
  refine wpFn_ok (Z := []) (fn := Go.Proofs.Try.f32) ?_ ?_ ?_
  · kernel_rfl
  · kernel_rfl
  · apply turnInto h
    kernel_rfl


/-! crossbarlaw13_Decls -/

theorem vc_crossbarlaw13_Decls (x0 : Int) (x1 : Int) (H : Heap) (R : Value → Heap → Prop) :
    (
 CA en F.crossbarkit_Pick [(.int .i64 x0), (.int .i64 3)] ((H.bump 11).set (H.next + 0) (.cells true 1 [(.int .i64 1), (.int .i64 2), (.int .i64 9)])) fun v1 H2 =>
 ∃ n3, v1 = (.int .i64 n3) ∧
 inB n3 3 ∧
 ∃ n4, H2.cell (H.next + 0) (0 + (n3.toNat * 1)) = some (.int .i64 n4) ∧
 CA en F.crossbarkit_Pick [(.int .i64 x1), (.int .i64 64)] H2 fun v5 H6 =>
 ∃ n7, v5 = (.int .i64 n7) ∧
 stc (H6.set (H.next + 9) (.cells true 0 [(.int .i64 0), (.int .i64 0), (.int .i64 0), (.int .i64 0), (.int .i64 0)])) (H.next + 9) 0 [(.int .i64 n4), (.int .i64 (IntKind.i64.wrap (1 + n7))), (.int .i64 1), (.int .i64 0), (.int .i64 0)] fun H8 =>
 CA en F.crossbarkit_Pick [(.int .i64 x0), (.int .i64 3)] (((H.bump 11).set (H.next + 0) (.cells true 1 [(.int .i64 1), (.int .i64 2), (.int .i64 9)])).set (H.next + 9) (.cells true 0 [(.int .i64 0), (.int .i64 0), (.int .i64 0), (.int .i64 0), (.int .i64 0)])) fun v9 H10 =>
 ∃ n11, v9 = (.int .i64 n11) ∧
 inB n11 3 ∧
 ∃ n12, H10.cell (H.next + 0) (0 + (n11.toNat * 1)) = some (.int .i64 n12) ∧
 CA en F.crossbarkit_Pick [(.int .i64 x1), (.int .i64 64)] H10 fun v13 H14 =>
 ∃ n15, v13 = (.int .i64 n15) ∧
 stc H14 (H.next + 9) 0 [(.int .i64 n12), (.int .i64 (IntKind.i64.wrap (1 + n15))), (.int .i64 1), (.int .i64 0), (.int .i64 0)] fun H16 =>
 (
 ∃ n25, H16.cell (H.next + 9) 0 = some (.int .i64 n25) ∧
 bif (n25 == 9) then (
 stc H16 (H.next + 9) 4 [(.int .i64 2)] fun H26 =>
 nwH H26 (.cells true 0 [(.int .i64 0), (.int .i64 0), (.int .i64 0), (.int .i64 0), (.int .i64 0)]) fun i27 H28 =>
 stc H28 i27 0 [(.int .i64 3), (.int .i64 2), (.int .i64 2), (.int .i64 0), (.int .i64 0)] fun H29 =>
 ∃ n30, ∃ n31, ∃ n32, ∃ n33, ∃ n34, H29.cellsAt (H.next + 9) 0 5 = some [(.int .i64 n30), (.int .i64 n31), (.int .i64 n32), (.int .i64 n33), (.int .i64 n34)] ∧
 ∃ n35, ∃ n36, ∃ n37, ∃ n38, ∃ n39, H29.cellsAt i27 0 5 = some [(.int .i64 n35), (.int .i64 n36), (.int .i64 n37), (.int .i64 n38), (.int .i64 n39)] ∧
 ∃ n40, ∃ n41, ∃ n42, ∃ n43, ∃ n44, H29.cellsAt i27 0 5 = some [(.int .i64 n40), (.int .i64 n41), (.int .i64 n42), (.int .i64 n43), (.int .i64 n44)] ∧
 nwH H29 (.cells true 5 [(.int .i64 n30), (.int .i64 n31), (.int .i64 n32), (.int .i64 n33), (.int .i64 n34), (.int .i64 n35), (.int .i64 n36), (.int .i64 n37), (.int .i64 n38), (.int .i64 n39), (.int .i64 n40), (.int .i64 n41), (.int .i64 n42), (.int .i64 n43), (.int .i64 n44)]) fun i45 H46 =>
 R (.slice (some ⟨i45, 0, none⟩) 3 0) H46)
 else (
 nwH H16 (.cells true 0 [(.int .i64 0), (.int .i64 0), (.int .i64 0), (.int .i64 0), (.int .i64 0)]) fun i47 H48 =>
 stc H48 i47 0 [(.int .i64 3), (.int .i64 2), (.int .i64 2), (.int .i64 0), (.int .i64 0)] fun H49 =>
 ∃ n50, ∃ n51, ∃ n52, ∃ n53, ∃ n54, H49.cellsAt (H.next + 9) 0 5 = some [(.int .i64 n50), (.int .i64 n51), (.int .i64 n52), (.int .i64 n53), (.int .i64 n54)] ∧
 ∃ n55, ∃ n56, ∃ n57, ∃ n58, ∃ n59, H49.cellsAt i47 0 5 = some [(.int .i64 n55), (.int .i64 n56), (.int .i64 n57), (.int .i64 n58), (.int .i64 n59)] ∧
 ∃ n60, ∃ n61, ∃ n62, ∃ n63, ∃ n64, H49.cellsAt i47 0 5 = some [(.int .i64 n60), (.int .i64 n61), (.int .i64 n62), (.int .i64 n63), (.int .i64 n64)] ∧
 nwH H49 (.cells true 5 [(.int .i64 n50), (.int .i64 n51), (.int .i64 n52), (.int .i64 n53), (.int .i64 n54), (.int .i64 n55), (.int .i64 n56), (.int .i64 n57), (.int .i64 n58), (.int .i64 n59), (.int .i64 n60), (.int .i64 n61), (.int .i64 n62), (.int .i64 n63), (.int .i64 n64)]) fun i65 H66 =>
 R (.slice (some ⟨i65, 0, none⟩) 3 0) H66)) ∧
 ((∃ c19, (((H.bump 11).set (H.next + 0) (.cells true 1 [(.int .i64 1), (.int .i64 2), (.int .i64 9)])).set (H.next + 9) (.cells true 0 [(.int .i64 0), (.int .i64 0), (.int .i64 0), (.int .i64 0), (.int .i64 0)])).get (H.next + 9) = some (.cells true 0 c19) ∧ sameN.sameL 8 [(.int .i64 0), (.int .i64 0), (.int .i64 0), (.int .i64 0), (.int .i64 0)] c19 = true) ∧ (∃ c18, H10.get (H.next + 9) = some (.cells true 0 c18) ∧ sameN.sameL 8 [(.int .i64 0), (.int .i64 0), (.int .i64 0), (.int .i64 0), (.int .i64 0)] c18 = true) ∧ (∃ c17, H14.get (H.next + 9) = some (.cells true 0 c17) ∧ sameN.sameL 8 [(.int .i64 0), (.int .i64 0), (.int .i64 0), (.int .i64 0), (.int .i64 0)] c17 = true) ∧ True) ∧
 ((∃ n21, H10.cell (H.next + 0) (0 + (n11.toNat * 1)) = some (.int .i64 n21) ∧
 n12 = n21) ∧ (∃ n20, H14.cell (H.next + 0) (0 + (n11.toNat * 1)) = some (.int .i64 n20) ∧
 n12 = n20) ∧ True) ∧
 ((∃ c24, (((H.bump 11).set (H.next + 0) (.cells true 1 [(.int .i64 1), (.int .i64 2), (.int .i64 9)])).set (H.next + 9) (.cells true 0 [(.int .i64 0), (.int .i64 0), (.int .i64 0), (.int .i64 0), (.int .i64 0)])).get (H.next + 0) = some c24 ∧ sameObj (.cells true 1 [(.int .i64 1), (.int .i64 2), (.int .i64 9)]) c24 = true) ∧ (∃ c23, H10.get (H.next + 0) = some c23 ∧ sameObj (.cells true 1 [(.int .i64 1), (.int .i64 2), (.int .i64 9)]) c23 = true) ∧ (∃ c22, H14.get (H.next + 0) = some c22 ∧ sameObj (.cells true 1 [(.int .i64 1), (.int .i64 2), (.int .i64 9)]) c22 = true) ∧ True) ∧
 True) →
    CA en F.crossbarlaw13_Decls [(.int .i64 x0), (.int .i64 x1)] H R := by
  intro h
  refine wpFn_ok (Z := []) (fn := Go.Proofs.Try.f46) ?_ ?_ ?_
  · kernel_rfl
  · kernel_rfl
  · apply turnInto h
    kernel_rfl


/-! crossbarlaw13_ArrayAgrees -/
noncomputable def L_crossbarlaw13_ArrayAgrees_0 : Code := loopAt Go.Proofs.Try.f8 0
noncomputable def L_crossbarlaw13_ArrayAgrees_1 : Code := loopAt Go.Proofs.Try.f8 1

theorem vc_crossbarlaw13_ArrayAgrees (x0_0 : Int) (x0_1 : Int) (x0_2 : Int) (x0_3 : Option Addr) (x0_3l : Nat) (x0_4 : Option Addr) (x0_4l : Nat) (H : Heap) (R : Value → Heap → Prop) :
    (
 nwH H (.cells true 0 [(.int .i64 x0_0), (.int .i64 x0_1), (.int .i64 x0_2), (.slice x0_3 x0_3l 0), (.slice x0_4 x0_4l 0)]) fun i1 H2 =>
 ∃ a3 i4, H2.cell i1 3 = some (.slice a3 i4 0) ∧
 ∃ a5 i6, H2.cell i1 4 = some (.slice a5 i6 0) ∧
 CA en F.crossbarref13_Great [(.slice a3 i4 0), (.slice a5 i6 0)] H2 fun v7 H8 =>
 ∃ b9, v7 = (.bool b9) ∧
 bif b9 then (
 CA en F.crossbarlaw13_works [] H8 fun v10 H11 =>
 ∃ b12, v10 = (.bool b12) ∧
 R (.bool b12) H11)
 else (
 ∃ n13, ∃ n14, ∃ n15, ∃ a16 i17, ∃ a18 i19, H8.cellsAt i1 0 5 = some [(.int .i64 n13), (.int .i64 n14), (.int .i64 n15), (.slice a16 i17 0), (.slice a18 i19 0)] ∧
 CA en F.crossbarlaw13_begun [(.agg #[(.int .i64 n13), (.int .i64 n14), (.int .i64 n15), (.slice a16 i17 0), (.slice a18 i19 0)])] H8 fun v20 H21 =>
 ∃ a22, v20 = (.pointer a22) ∧
 bif a22.isNone then (
 R (.bool false) H21)
 else (
 ∃ a23 i24, H21.cell i1 3 = some (.slice a23 i24 0) ∧
 LA en L_crossbarlaw13_ArrayAgrees_0 [(.agg #[(.int .i64 x0_0), (.int .i64 x0_1), (.int .i64 x0_2), (.slice x0_3 x0_3l 0), (.slice x0_4 x0_4l 0)]), (.pointer (some ⟨i1, 0, none⟩)), (.bool false), (.pointer a22), (.int .i64 ((i24 : Nat) : Int)), (.int .i64 0), undef, undef, (.pointer (some ⟨i1, 3, none⟩)), (.slice a3 i4 0), (.pointer (some ⟨i1, 4, none⟩)), (.slice a5 i6 0), (.bool false), undef, (.agg #[(.int .i64 n13), (.int .i64 n14), (.int .i64 n15), (.slice a16 i17 0), (.slice a18 i19 0)]), (.pointer a22), (.pointer a22), (.bool false), (.pointer (some ⟨i1, 3, none⟩)), (.slice a23 i24 0), (.int .i64 ((i24 : Nat) : Int)), undef, undef, undef, undef, undef, undef, undef, undef, undef, undef, undef, undef, undef, undef, undef, undef, undef, undef, undef, undef, undef, undef, undef, undef, undef, undef, undef, undef, undef, undef, undef, undef, undef, undef, undef, undef, undef, undef, undef, undef, undef, undef, undef, undef, undef] H21 [(X.exit 0, fun (y25 : Fr) (H26 : Heap) =>
 AS.asBool (y25.getD 2 undef) fun b27 =>
 LA en L_crossbarlaw13_ArrayAgrees_1 [(.agg #[(.int .i64 x0_0), (.int .i64 x0_1), (.int .i64 x0_2), (.slice x0_3 x0_3l 0), (.slice x0_4 x0_4l 0)]), (.pointer (some ⟨i1, 0, none⟩)), (.bool b27), (.pointer a22), (.int .i64 ((i24 : Nat) : Int)), (y25.getD 5 undef), (y25.getD 6 undef), (.int .i64 0), (.pointer (some ⟨i1, 3, none⟩)), (.slice a3 i4 0), (.pointer (some ⟨i1, 4, none⟩)), (.slice a5 i6 0), (.bool false), undef, (.agg #[(.int .i64 n13), (.int .i64 n14), (.int .i64 n15), (.slice a16 i17 0), (.slice a18 i19 0)]), (.pointer a22), (.pointer a22), (.bool false), (.pointer (some ⟨i1, 3, none⟩)), (.slice a23 i24 0), (.int .i64 ((i24 : Nat) : Int)), (y25.getD 21 undef), (y25.getD 22 undef), (y25.getD 23 undef), (y25.getD 24 undef), (y25.getD 25 undef), (y25.getD 26 undef), (y25.getD 27 undef), (y25.getD 28 undef), (y25.getD 29 undef), (y25.getD 30 undef), (y25.getD 31 undef), (y25.getD 32 undef), (y25.getD 33 undef), (y25.getD 34 undef), (y25.getD 35 undef), (y25.getD 36 undef), (y25.getD 37 undef), (y25.getD 38 undef), (y25.getD 39 undef), (y25.getD 40 undef), (y25.getD 41 undef), (y25.getD 42 undef), undef, undef, undef, undef, undef, undef, undef, undef, undef, undef, undef, undef, undef, undef, undef, undef, undef, undef, undef, undef, undef, undef, undef] H26 [(X.exit 2, fun (y28 : Fr) (H29 : Heap) =>
 AS.asBool (y28.getD 2 undef) fun b30 =>
 AS.asAddr (.pointer a22) fun i31 i32 =>
 ∃ a33, H29.cell i31 (i32 + 2) = some (.pointer a33) ∧
 CA en F.smem_Mem_Bad [(.pointer a33)] H29 fun v34 H35 =>
 ∃ n36, v34 = (.int .i64 n36) ∧
 bif (n36 == 0) then (
 CA en F.crossbarlaw13_works [] H35 fun v37 H38 =>
 ∃ b39, v37 = (.bool b39) ∧
 R (.bool b39) H38)
 else (
 R (.bool false) H35)),
 (X.ret, fun (y40 : Fr) (H41 : Heap) =>
 AS.asBool (y40.getD 2 undef) fun b42 =>
 R (.bool b42) H41)]),
 (X.ret, fun (y43 : Fr) (H44 : Heap) =>
 AS.asBool (y43.getD 2 undef) fun b45 =>
 R (.bool b45) H44)]))) →
    CA en F.crossbarlaw13_ArrayAgrees [(.agg #[(.int .i64 x0_0), (.int .i64 x0_1), (.int .i64 x0_2), (.slice x0_3 x0_3l 0), (.slice x0_4 x0_4l 0)])] H R := by
  intro h
  refine wpFn_ok (Z := [[(2, (.bool false))], [(2, (.bool false))]]) (fn := Go.Proofs.Try.f8) ?_ ?_ ?_
  · kernel_rfl
  · kernel_rfl
  · apply turnInto h
    kernel_rfl

theorem use_crossbarlaw13_ArrayAgrees_0 {t0_0 : Int} {t0_1 : Int} {t0_2 : Int} {t0_3 : Option Addr} {t0_3l : Nat} {t0_4 : Option Addr} {t0_4l : Nat} {t1 : Nat} {t3 : Option Addr} {t4 : Int} {t8 : Nat} {t9 : Option Addr} {t9l : Nat} {t10 : Nat} {t11 : Option Addr} {t11l : Nat} {t14_0 : Int} {t14_1 : Int} {t14_2 : Int} {t14_3 : Option Addr} {t14_3l : Nat} {t14_4 : Option Addr} {t14_4l : Nat} {t15 : Option Addr} {t16 : Option Addr} {t18 : Nat} {t19 : Option Addr} {t19l : Nat} {t20 : Int} {K0 : Fr → Heap → Prop} {K1 : Fr → Heap → Prop} {t2 : Bool} {t5 : Int} {t6 : Value} {t21 : Value} {t22 : Value} {t23 : Value} {t24 : Value} {t25 : Value} {t26 : Value} {t27 : Value} {t28 : Value} {t29 : Value} {t30 : Value} {t31 : Value} {t32 : Value} {t33 : Value} {t34 : Value} {t35 : Value} {t36 : Value} {t37 : Value} {t38 : Value} {t39 : Value} {t40 : Value} {t41 : Value} {t42 : Value} {H : Heap} (I : Nat → Bool → Int → Heap → Prop) (n : Nat) (h0 : I n t2 t5 H)
    (hstep : ∀ (n : Nat) (t2 : Bool) (t5 : Int) (ys : Fr) (H : Heap), I n t2 t5 H →
    (
 ∃ a1 i2, H.cell t1 4 = some (.slice a1 i2 0) ∧
 bif (decide (t5 < (IntKind.i64.wrap (((i2 : Nat) : Int) + 200)))) then (
 ∃ a3 i4, H.cell t1 4 = some (.slice a3 i4 0) ∧
 CA en F.crossbarref13_Turn [(.slice a3 i4 0), (.int .i64 t5), (.int .i64 t4)] H fun v5 H6 =>
 ∃ n7, v5 = (.int .i64 n7) ∧
 ∃ a8 i9, H6.cell t1 3 = some (.slice a8 i9 0) ∧
 inB n7 i9 ∧
 asRow a8 fun i10 i11 =>
 ∃ a12 i13, H6.cell i10 (i11 + (n7.toNat * 1)) = some (.slice a12 i13 0) ∧
 CA en F.crossbarlaw13_play_turn [(.pointer t3), (.int .i64 n7), (.slice a12 i13 0)] H6 fun v14 H15 =>
 ∃ b16, v14 = (.bool b16) ∧
 bif (!b16) then (
 K1 [(.agg #[(.int .i64 t0_0), (.int .i64 t0_1), (.int .i64 t0_2), (.slice t0_3 t0_3l 0), (.slice t0_4 t0_4l 0)]), (.pointer (some ⟨t1, 0, none⟩)), (.bool false), (.pointer t3), (.int .i64 t4), (.int .i64 t5), (.int .i64 n7), undef, (.pointer (some ⟨t8, 3, none⟩)), (.slice t9 t9l 0), (.pointer (some ⟨t10, 4, none⟩)), (.slice t11 t11l 0), (.bool false), undef, (.agg #[(.int .i64 t14_0), (.int .i64 t14_1), (.int .i64 t14_2), (.slice t14_3 t14_3l 0), (.slice t14_4 t14_4l 0)]), (.pointer t15), (.pointer t16), (.bool false), (.pointer (some ⟨t18, 3, none⟩)), (.slice t19 t19l 0), (.int .i64 t20), (.int .i64 t5), (.pointer (some ⟨t1, 4, none⟩)), (.slice a1 i2 0), (.int .i64 ((i2 : Nat) : Int)), (.int .i64 (IntKind.i64.wrap (((i2 : Nat) : Int) + 200))), (.bool true), (ys.getD 27 undef), (ys.getD 28 undef), (.pointer (some ⟨t1, 4, none⟩)), (.slice a3 i4 0), (.int .i64 t5), (.int .i64 t4), (.int .i64 n7), (.pointer t3), (.int .i64 n7), (.pointer (some ⟨t1, 3, none⟩)), (.slice a8 i9 0), (.int .i64 n7), (.pointer (some ⟨i10, (i11 + (n7.toNat * 1)), none⟩)), (.slice a12 i13 0), (.bool b16), (.bool true), undef, undef, undef, undef, undef, undef, undef, undef, undef, undef, undef, undef, undef, undef, undef, undef, undef, undef, undef, undef, undef, undef, undef] H15)
 else (
 ∃ k17, k17 < n ∧
 I k17 t2 (IntKind.i64.wrap (t5 + 1)) H15))
 else (
 K0 [(.agg #[(.int .i64 t0_0), (.int .i64 t0_1), (.int .i64 t0_2), (.slice t0_3 t0_3l 0), (.slice t0_4 t0_4l 0)]), (.pointer (some ⟨t1, 0, none⟩)), (.bool t2), (.pointer t3), (.int .i64 t4), (.int .i64 t5), (ys.getD 6 undef), undef, (.pointer (some ⟨t8, 3, none⟩)), (.slice t9 t9l 0), (.pointer (some ⟨t10, 4, none⟩)), (.slice t11 t11l 0), (.bool false), undef, (.agg #[(.int .i64 t14_0), (.int .i64 t14_1), (.int .i64 t14_2), (.slice t14_3 t14_3l 0), (.slice t14_4 t14_4l 0)]), (.pointer t15), (.pointer t16), (.bool false), (.pointer (some ⟨t18, 3, none⟩)), (.slice t19 t19l 0), (.int .i64 t20), (.int .i64 t5), (.pointer (some ⟨t1, 4, none⟩)), (.slice a1 i2 0), (.int .i64 ((i2 : Nat) : Int)), (.int .i64 (IntKind.i64.wrap (((i2 : Nat) : Int) + 200))), (.bool false), (ys.getD 27 undef), (ys.getD 28 undef), (ys.getD 29 undef), (ys.getD 30 undef), (ys.getD 31 undef), (ys.getD 32 undef), (ys.getD 33 undef), (ys.getD 34 undef), (ys.getD 35 undef), (ys.getD 36 undef), (ys.getD 37 undef), (ys.getD 38 undef), (ys.getD 39 undef), (ys.getD 40 undef), (ys.getD 41 undef), (ys.getD 42 undef), undef, undef, undef, undef, undef, undef, undef, undef, undef, undef, undef, undef, undef, undef, undef, undef, undef, undef, undef, undef, undef, undef, undef] H))) :
    LA en L_crossbarlaw13_ArrayAgrees_0 [(.agg #[(.int .i64 t0_0), (.int .i64 t0_1), (.int .i64 t0_2), (.slice t0_3 t0_3l 0), (.slice t0_4 t0_4l 0)]), (.pointer (some ⟨t1, 0, none⟩)), (.bool t2), (.pointer t3), (.int .i64 t4), (.int .i64 t5), t6, undef, (.pointer (some ⟨t8, 3, none⟩)), (.slice t9 t9l 0), (.pointer (some ⟨t10, 4, none⟩)), (.slice t11 t11l 0), (.bool false), undef, (.agg #[(.int .i64 t14_0), (.int .i64 t14_1), (.int .i64 t14_2), (.slice t14_3 t14_3l 0), (.slice t14_4 t14_4l 0)]), (.pointer t15), (.pointer t16), (.bool false), (.pointer (some ⟨t18, 3, none⟩)), (.slice t19 t19l 0), (.int .i64 t20), t21, t22, t23, t24, t25, t26, t27, t28, t29, t30, t31, t32, t33, t34, t35, t36, t37, t38, t39, t40, t41, t42, undef, undef, undef, undef, undef, undef, undef, undef, undef, undef, undef, undef, undef, undef, undef, undef, undef, undef, undef, undef, undef, undef, undef] H [(X.exit 0, K0), (X.ret, K1)] := by
  refine LA_rule (Z := []) (fun m xs H' => AS.asBool (xs.getD 2 undef) fun t2 => AS.asInt .i64 (xs.getD 5 undef) fun t5 => I m t2 t5 H') ?_ n H ?_
  · intro n H
    suffices hs : ∀ s21 : Value, ∀ s22 : Value, ∀ s23 : Value, ∀ s24 : Value, ∀ s25 : Value, ∀ s26 : Value, ∀ s29 : Value, ∀ s30 : Value, ∀ s31 : Value, ∀ s32 : Value, ∀ s33 : Value, ∀ s6 : Value, ∀ s34 : Value, ∀ s35 : Value, ∀ s36 : Value, ∀ s37 : Value, ∀ s38 : Value, ∀ s39 : Value, ∀ s40 : Value, ∀ s41 : Value, ∀ s42 : Value, ∀ s2 : Value, ∀ s27 : Value, ∀ s28 : Value, ∀ s5 : Value, ((AS.asBool s2 fun t2 => AS.asInt .i64 s5 fun t5 => I n t2 t5 H) → wpCode en L_crossbarlaw13_ArrayAgrees_0 [] [(.agg #[(.int .i64 t0_0), (.int .i64 t0_1), (.int .i64 t0_2), (.slice t0_3 t0_3l 0), (.slice t0_4 t0_4l 0)]), (.pointer (some ⟨t1, 0, none⟩)), s2, (.pointer t3), (.int .i64 t4), s5, s6, undef, (.pointer (some ⟨t8, 3, none⟩)), (.slice t9 t9l 0), (.pointer (some ⟨t10, 4, none⟩)), (.slice t11 t11l 0), (.bool false), undef, (.agg #[(.int .i64 t14_0), (.int .i64 t14_1), (.int .i64 t14_2), (.slice t14_3 t14_3l 0), (.slice t14_4 t14_4l 0)]), (.pointer t15), (.pointer t16), (.bool false), (.pointer (some ⟨t18, 3, none⟩)), (.slice t19 t19l 0), (.int .i64 t20), s21, s22, s23, s24, s25, s26, s27, s28, s29, s30, s31, s32, s33, s34, s35, s36, s37, s38, s39, s40, s41, s42, undef, undef, undef, undef, undef, undef, undef, undef, undef, undef, undef, undef, undef, undef, undef, undef, undef, undef, undef, undef, undef, undef, undef] H (loopQ (fun m xs H' => AS.asBool (xs.getD 2 undef) fun t2 => AS.asInt .i64 (xs.getD 5 undef) fun t5 => I m t2 t5 H') n [(X.exit 0, K0), (X.ret, K1)])) by
      apply turnInto hs
      kernel_rfl
    intro s21 s22 s23 s24 s25 s26 s29 s30 s31 s32 s33 s6 s34 s35 s36 s37 s38 s39 s40 s41 s42 s2 s27 s28 s5 hP
    replace hP := asBool_elim hP
    obtain ⟨t2, rfl, hP⟩ := hP
    replace hP := asInt_elim hP
    obtain ⟨t5, rfl, hP⟩ := hP
    apply turnInto (hstep n t2 t5 [(.agg #[(.int .i64 t0_0), (.int .i64 t0_1), (.int .i64 t0_2), (.slice t0_3 t0_3l 0), (.slice t0_4 t0_4l 0)]), (.pointer (some ⟨t1, 0, none⟩)), (.bool t2), (.pointer t3), (.int .i64 t4), (.int .i64 t5), s6, undef, (.pointer (some ⟨t8, 3, none⟩)), (.slice t9 t9l 0), (.pointer (some ⟨t10, 4, none⟩)), (.slice t11 t11l 0), (.bool false), undef, (.agg #[(.int .i64 t14_0), (.int .i64 t14_1), (.int .i64 t14_2), (.slice t14_3 t14_3l 0), (.slice t14_4 t14_4l 0)]), (.pointer t15), (.pointer t16), (.bool false), (.pointer (some ⟨t18, 3, none⟩)), (.slice t19 t19l 0), (.int .i64 t20), s21, s22, s23, s24, s25, s26, s27, s28, s29, s30, s31, s32, s33, s34, s35, s36, s37, s38, s39, s40, s41, s42, undef, undef, undef, undef, undef, undef, undef, undef, undef, undef, undef, undef, undef, undef, undef, undef, undef, undef, undef, undef, undef, undef, undef] H hP)
    kernel_rfl
  · apply turnInto h0
    kernel_rfl

theorem use_crossbarlaw13_ArrayAgrees_1 {t0_0 : Int} {t0_1 : Int} {t0_2 : Int} {t0_3 : Option Addr} {t0_3l : Nat} {t0_4 : Option Addr} {t0_4l : Nat} {t1 : Nat} {t3 : Option Addr} {t4 : Int} {t5 : Value} {t6 : Value} {t8 : Nat} {t9 : Option Addr} {t9l : Nat} {t10 : Nat} {t11 : Option Addr} {t11l : Nat} {t14_0 : Int} {t14_1 : Int} {t14_2 : Int} {t14_3 : Option Addr} {t14_3l : Nat} {t14_4 : Option Addr} {t14_4l : Nat} {t15 : Option Addr} {t16 : Option Addr} {t18 : Nat} {t19 : Option Addr} {t19l : Nat} {t20 : Int} {t21 : Value} {t22 : Value} {t23 : Value} {t24 : Value} {t25 : Value} {t26 : Value} {t27 : Value} {t28 : Value} {t29 : Value} {t30 : Value} {t31 : Value} {t32 : Value} {t33 : Value} {t34 : Value} {t35 : Value} {t36 : Value} {t37 : Value} {t38 : Value} {t39 : Value} {t40 : Value} {t41 : Value} {t42 : Value} {K0 : Fr → Heap → Prop} {K1 : Fr → Heap → Prop} {t2 : Bool} {t7 : Int} {t43 : Value} {t44 : Value} {t45 : Value} {t46 : Value} {t47 : Value} {t48 : Value} {t49 : Value} {t50 : Value} {t51 : Value} {t52 : Value} {t53 : Value} {t54 : Value} {t55 : Value} {t56 : Value} {H : Heap} (I : Nat → Bool → Int → Heap → Prop) (n : Nat) (h0 : I n t2 t7 H)
    (hstep : ∀ (n : Nat) (t2 : Bool) (t7 : Int) (ys : Fr) (H : Heap), I n t2 t7 H →
    (
 bif (decide (t7 < t4)) then (
 ∃ a1 i2, H.cell t1 3 = some (.slice a1 i2 0) ∧
 inB t7 i2 ∧
 asRow a1 fun i3 i4 =>
 ∃ a5 i6, H.cell i3 (i4 + (t7.toNat * 1)) = some (.slice a5 i6 0) ∧
 CA en F.crossbarlaw13_play_over [(.pointer t3), (.int .i64 t7), (.slice a5 i6 0)] H fun v7 H8 =>
 ∃ b9, v7 = (.bool b9) ∧
 bif (!b9) then (
 K1 [(.agg #[(.int .i64 t0_0), (.int .i64 t0_1), (.int .i64 t0_2), (.slice t0_3 t0_3l 0), (.slice t0_4 t0_4l 0)]), (.pointer (some ⟨t1, 0, none⟩)), (.bool false), (.pointer t3), (.int .i64 t4), t5, t6, (.int .i64 t7), (.pointer (some ⟨t8, 3, none⟩)), (.slice t9 t9l 0), (.pointer (some ⟨t10, 4, none⟩)), (.slice t11 t11l 0), (.bool false), undef, (.agg #[(.int .i64 t14_0), (.int .i64 t14_1), (.int .i64 t14_2), (.slice t14_3 t14_3l 0), (.slice t14_4 t14_4l 0)]), (.pointer t15), (.pointer t16), (.bool false), (.pointer (some ⟨t18, 3, none⟩)), (.slice t19 t19l 0), (.int .i64 t20), t21, t22, t23, t24, t25, t26, t27, t28, t29, t30, t31, t32, t33, t34, t35, t36, t37, t38, t39, t40, t41, t42, (.int .i64 t7), (.int .i64 t4), (.bool true), (ys.getD 46 undef), (ys.getD 47 undef), (.pointer t3), (.int .i64 t7), (.pointer (some ⟨t1, 3, none⟩)), (.slice a1 i2 0), (.int .i64 t7), (.pointer (some ⟨i3, (i4 + (t7.toNat * 1)), none⟩)), (.slice a5 i6 0), (.bool b9), (.bool true), undef, undef, undef, undef, undef, undef, undef, undef, undef] H8)
 else (
 ∃ k10, k10 < n ∧
 I k10 t2 (IntKind.i64.wrap (t7 + 1)) H8))
 else (
 K0 [(.agg #[(.int .i64 t0_0), (.int .i64 t0_1), (.int .i64 t0_2), (.slice t0_3 t0_3l 0), (.slice t0_4 t0_4l 0)]), (.pointer (some ⟨t1, 0, none⟩)), (.bool t2), (.pointer t3), (.int .i64 t4), t5, t6, (.int .i64 t7), (.pointer (some ⟨t8, 3, none⟩)), (.slice t9 t9l 0), (.pointer (some ⟨t10, 4, none⟩)), (.slice t11 t11l 0), (.bool false), undef, (.agg #[(.int .i64 t14_0), (.int .i64 t14_1), (.int .i64 t14_2), (.slice t14_3 t14_3l 0), (.slice t14_4 t14_4l 0)]), (.pointer t15), (.pointer t16), (.bool false), (.pointer (some ⟨t18, 3, none⟩)), (.slice t19 t19l 0), (.int .i64 t20), t21, t22, t23, t24, t25, t26, t27, t28, t29, t30, t31, t32, t33, t34, t35, t36, t37, t38, t39, t40, t41, t42, (.int .i64 t7), (.int .i64 t4), (.bool false), (ys.getD 46 undef), (ys.getD 47 undef), (ys.getD 48 undef), (ys.getD 49 undef), (ys.getD 50 undef), (ys.getD 51 undef), (ys.getD 52 undef), (ys.getD 53 undef), (ys.getD 54 undef), (ys.getD 55 undef), (ys.getD 56 undef), undef, undef, undef, undef, undef, undef, undef, undef, undef] H))) :
    LA en L_crossbarlaw13_ArrayAgrees_1 [(.agg #[(.int .i64 t0_0), (.int .i64 t0_1), (.int .i64 t0_2), (.slice t0_3 t0_3l 0), (.slice t0_4 t0_4l 0)]), (.pointer (some ⟨t1, 0, none⟩)), (.bool t2), (.pointer t3), (.int .i64 t4), t5, t6, (.int .i64 t7), (.pointer (some ⟨t8, 3, none⟩)), (.slice t9 t9l 0), (.pointer (some ⟨t10, 4, none⟩)), (.slice t11 t11l 0), (.bool false), undef, (.agg #[(.int .i64 t14_0), (.int .i64 t14_1), (.int .i64 t14_2), (.slice t14_3 t14_3l 0), (.slice t14_4 t14_4l 0)]), (.pointer t15), (.pointer t16), (.bool false), (.pointer (some ⟨t18, 3, none⟩)), (.slice t19 t19l 0), (.int .i64 t20), t21, t22, t23, t24, t25, t26, t27, t28, t29, t30, t31, t32, t33, t34, t35, t36, t37, t38, t39, t40, t41, t42, t43, t44, t45, t46, t47, t48, t49, t50, t51, t52, t53, t54, t55, t56, undef, undef, undef, undef, undef, undef, undef, undef, undef] H [(X.exit 2, K0), (X.ret, K1)] := by
  refine LA_rule (Z := []) (fun m xs H' => AS.asBool (xs.getD 2 undef) fun t2 => AS.asInt .i64 (xs.getD 7 undef) fun t7 => I m t2 t7 H') ?_ n H ?_
  · intro n H
    suffices hs : ∀ s43 : Value, ∀ s44 : Value, ∀ s45 : Value, ∀ s48 : Value, ∀ s49 : Value, ∀ s50 : Value, ∀ s51 : Value, ∀ s52 : Value, ∀ s53 : Value, ∀ s54 : Value, ∀ s55 : Value, ∀ s56 : Value, ∀ s2 : Value, ∀ s46 : Value, ∀ s47 : Value, ∀ s7 : Value, ((AS.asBool s2 fun t2 => AS.asInt .i64 s7 fun t7 => I n t2 t7 H) → wpCode en L_crossbarlaw13_ArrayAgrees_1 [] [(.agg #[(.int .i64 t0_0), (.int .i64 t0_1), (.int .i64 t0_2), (.slice t0_3 t0_3l 0), (.slice t0_4 t0_4l 0)]), (.pointer (some ⟨t1, 0, none⟩)), s2, (.pointer t3), (.int .i64 t4), t5, t6, s7, (.pointer (some ⟨t8, 3, none⟩)), (.slice t9 t9l 0), (.pointer (some ⟨t10, 4, none⟩)), (.slice t11 t11l 0), (.bool false), undef, (.agg #[(.int .i64 t14_0), (.int .i64 t14_1), (.int .i64 t14_2), (.slice t14_3 t14_3l 0), (.slice t14_4 t14_4l 0)]), (.pointer t15), (.pointer t16), (.bool false), (.pointer (some ⟨t18, 3, none⟩)), (.slice t19 t19l 0), (.int .i64 t20), t21, t22, t23, t24, t25, t26, t27, t28, t29, t30, t31, t32, t33, t34, t35, t36, t37, t38, t39, t40, t41, t42, s43, s44, s45, s46, s47, s48, s49, s50, s51, s52, s53, s54, s55, s56, undef, undef, undef, undef, undef, undef, undef, undef, undef] H (loopQ (fun m xs H' => AS.asBool (xs.getD 2 undef) fun t2 => AS.asInt .i64 (xs.getD 7 undef) fun t7 => I m t2 t7 H') n [(X.exit 2, K0), (X.ret, K1)])) by
      apply turnInto hs
      kernel_rfl
    intro s43 s44 s45 s48 s49 s50 s51 s52 s53 s54 s55 s56 s2 s46 s47 s7 hP
    replace hP := asBool_elim hP
    obtain ⟨t2, rfl, hP⟩ := hP
    replace hP := asInt_elim hP
    obtain ⟨t7, rfl, hP⟩ := hP
    apply turnInto (hstep n t2 t7 [(.agg #[(.int .i64 t0_0), (.int .i64 t0_1), (.int .i64 t0_2), (.slice t0_3 t0_3l 0), (.slice t0_4 t0_4l 0)]), (.pointer (some ⟨t1, 0, none⟩)), (.bool t2), (.pointer t3), (.int .i64 t4), t5, t6, (.int .i64 t7), (.pointer (some ⟨t8, 3, none⟩)), (.slice t9 t9l 0), (.pointer (some ⟨t10, 4, none⟩)), (.slice t11 t11l 0), (.bool false), undef, (.agg #[(.int .i64 t14_0), (.int .i64 t14_1), (.int .i64 t14_2), (.slice t14_3 t14_3l 0), (.slice t14_4 t14_4l 0)]), (.pointer t15), (.pointer t16), (.bool false), (.pointer (some ⟨t18, 3, none⟩)), (.slice t19 t19l 0), (.int .i64 t20), t21, t22, t23, t24, t25, t26, t27, t28, t29, t30, t31, t32, t33, t34, t35, t36, t37, t38, t39, t40, t41, t42, s43, s44, s45, s46, s47, s48, s49, s50, s51, s52, s53, s54, s55, s56, undef, undef, undef, undef, undef, undef, undef, undef, undef] H hP)
    kernel_rfl
  · apply turnInto h0
    kernel_rfl

end Go.Proofs.Ythnifkjpkepbaaa
