/-
  What functions of this seat's program need (printed by a program, checked by the kernel).
-/
import Derived.Test.YtgpacebjbdhphaaGreatNames
import Derived.Test.YtgpacebjbdhphaaGreatAs41
namespace Go.Proofs.YtgpacebjbdhphaaGreat
open Go Go.AS Go.RowKit
set_option linter.unusedVariables false
set_option maxRecDepth 100000
set_option maxHeartbeats 2000000

/-! crossbarref13_Great -/
noncomputable def L_crossbarref13_Great_0 : Code := loopAt Go.Proofs.Tryz.f4 0
noncomputable def L_crossbarref13_Great_1 : Code := loopAt Go.Proofs.Tryz.f4 1

theorem vc_crossbarref13_Great (x0 : Option Addr) (x0l : Nat) (x1 : Option Addr) (x1l : Nat) (H : Heap) (R : Value → Heap → Prop) :
    (
 bif (decide (((x0l : Nat) : Int) < 1)) then (
 R (.bool true) H)
 else (
 bif (decide (((x0l : Nat) : Int) > 4)) then (
 R (.bool true) H)
 else (
 bif (decide (((x1l : Nat) : Int) > 600)) then (
 R (.bool true) H)
 else (
 LA en L_crossbarref13_Great_0 [(.slice x0 x0l 0), (.slice x1 x1l 0), undef, undef, (.bool false), (.int .i64 0), undef, (.slice x0 x0l 0), (.int .i64 ((x0l : Nat) : Int)), (.bool (decide (((x0l : Nat) : Int) < 1))), (.bool false), (.slice x0 x0l 0), (.int .i64 ((x0l : Nat) : Int)), (.bool (decide (((x0l : Nat) : Int) > 4))), (.bool (decide (((x0l : Nat) : Int) > 4))), (.bool false), (.slice x1 x1l 0), (.int .i64 ((x1l : Nat) : Int)), (.bool (decide (((x1l : Nat) : Int) > 600))), (.bool false), undef, undef, undef, undef, undef, undef, undef, undef, undef, undef, undef, undef, undef, undef, undef, undef, undef, undef, undef, undef, undef, undef, undef, undef, undef, undef, undef, undef, undef, undef, undef, undef] H [(X.exit 0, fun (y1 : Fr) (H2 : Heap) =>
 AS.asBool (y1.getD 4 undef) fun b3 =>
 R (.bool false) H2),
 (X.ret, fun (y4 : Fr) (H5 : Heap) =>
 AS.asBool (y4.getD 4 undef) fun b6 =>
 R (.bool b6) H5),
 (X.ret, fun (y7 : Fr) (H8 : Heap) =>
 AS.asBool (y7.getD 4 undef) fun b9 =>
 R (.bool b9) H8)])))) →
    CA en F.crossbarref13_Great [(.slice x0 x0l 0), (.slice x1 x1l 0)] H R := by
  intro h
  refine wpFn_ok (Z := [[(4, (.bool false))], [(4, (.bool false))]]) (fn := Go.Proofs.Tryz.f4) ?_ ?_ ?_
  · kernel_rfl
  · kernel_rfl
  · apply turnInto h
    kernel_rfl

theorem use_crossbarref13_Great_0 {t0 : Option Addr} {t0l : Nat} {t1 : Option Addr} {t1l : Nat} {t7 : Option Addr} {t7l : Nat} {t8 : Int} {t9 : Bool} {t11 : Option Addr} {t11l : Nat} {t12 : Int} {t13 : Bool} {t14 : Bool} {t16 : Option Addr} {t16l : Nat} {t17 : Int} {t18 : Bool} {K0 : Fr → Heap → Prop} {K1 : Fr → Heap → Prop} {K2 : Fr → Heap → Prop} {t4 : Bool} {t5 : Int} {t6 : Value} {t20 : Value} {t21 : Value} {t22 : Value} {t23 : Value} {t24 : Value} {t25 : Value} {t26 : Value} {t27 : Value} {t28 : Value} {t29 : Value} {t30 : Value} {t31 : Value} {t32 : Value} {t33 : Value} {t34 : Value} {t35 : Value} {t36 : Value} {t37 : Value} {t38 : Value} {t39 : Value} {t40 : Value} {t41 : Value} {t42 : Value} {t43 : Value} {t44 : Value} {t45 : Value} {t46 : Value} {t47 : Value} {t48 : Value} {t49 : Value} {t50 : Value} {t51 : Value} {H : Heap} (I : Nat → Bool → Int → Heap → Prop) (n : Nat) (h0 : I n t4 t5 H)
    (hstep : ∀ (n : Nat) (t4 : Bool) (t5 : Int) (ys : Fr) (H : Heap), I n t4 t5 H →
    (
 bif (decide (t5 < ((t0l : Nat) : Int))) then (
 inB t5 t0l ∧
 asRow t0 fun i1 i2 =>
 ∃ a3 i4, H.cell i1 (i2 + (t5.toNat * 1)) = some (.slice a3 i4 0) ∧
 bif (decide (((i4 : Nat) : Int) > 12)) then (
 K1 [(.slice t0 t0l 0), (.slice t1 t1l 0), undef, undef, (.bool true), (.int .i64 t5), (ys.getD 6 undef), (.slice t7 t7l 0), (.int .i64 t8), (.bool t9), (.bool false), (.slice t11 t11l 0), (.int .i64 t12), (.bool t13), (.bool t14), (.bool false), (.slice t16 t16l 0), (.int .i64 t17), (.bool t18), (.bool false), (.int .i64 t5), (.slice t0 t0l 0), (.int .i64 ((t0l : Nat) : Int)), (.bool true), (ys.getD 24 undef), (ys.getD 25 undef), (.slice t0 t0l 0), (.int .i64 t5), (.pointer (some ⟨i1, (i2 + (t5.toNat * 1)), none⟩)), (.slice a3 i4 0), (.int .i64 ((i4 : Nat) : Int)), (.bool true), (ys.getD 32 undef), (ys.getD 33 undef), (ys.getD 34 undef), (ys.getD 35 undef), (ys.getD 36 undef), (ys.getD 37 undef), (ys.getD 38 undef), (ys.getD 39 undef), (ys.getD 40 undef), (ys.getD 41 undef), (ys.getD 42 undef), (ys.getD 43 undef), (ys.getD 44 undef), (ys.getD 45 undef), (ys.getD 46 undef), (ys.getD 47 undef), (ys.getD 48 undef), (ys.getD 49 undef), (ys.getD 50 undef), (ys.getD 51 undef)] H)
 else (
 LA en L_crossbarref13_Great_1 [(.slice t0 t0l 0), (.slice t1 t1l 0), undef, undef, (.bool t4), (.int .i64 t5), (.int .i64 0), (.slice t7 t7l 0), (.int .i64 t8), (.bool t9), (.bool false), (.slice t11 t11l 0), (.int .i64 t12), (.bool t13), (.bool t14), (.bool false), (.slice t16 t16l 0), (.int .i64 t17), (.bool t18), (.bool false), (.int .i64 t5), (.slice t0 t0l 0), (.int .i64 ((t0l : Nat) : Int)), (.bool true), (ys.getD 24 undef), (ys.getD 25 undef), (.slice t0 t0l 0), (.int .i64 t5), (.pointer (some ⟨i1, (i2 + (t5.toNat * 1)), none⟩)), (.slice a3 i4 0), (.int .i64 ((i4 : Nat) : Int)), (.bool false), (ys.getD 32 undef), (ys.getD 33 undef), (ys.getD 34 undef), (ys.getD 35 undef), (ys.getD 36 undef), (ys.getD 37 undef), (ys.getD 38 undef), (ys.getD 39 undef), (ys.getD 40 undef), (ys.getD 41 undef), (ys.getD 42 undef), (ys.getD 43 undef), (ys.getD 44 undef), (ys.getD 45 undef), (ys.getD 46 undef), (ys.getD 47 undef), (ys.getD 48 undef), (ys.getD 49 undef), (ys.getD 50 undef), (ys.getD 51 undef)] H [(X.exit 2, fun (y5 : Fr) (H6 : Heap) =>
 AS.asBool (y5.getD 4 undef) fun b7 =>
 ∃ k8, k8 < n ∧
 I k8 b7 (IntKind.i64.wrap (t5 + 1)) H6),
 (X.ret, fun (y9 : Fr) (H10 : Heap) =>
 AS.asBool (y9.getD 4 undef) fun b11 =>
 K1 [(.slice t0 t0l 0), (.slice t1 t1l 0), undef, undef, (.bool b11), (.int .i64 t5), (y9.getD 6 undef), (.slice t7 t7l 0), (.int .i64 t8), (.bool t9), (.bool false), (.slice t11 t11l 0), (.int .i64 t12), (.bool t13), (.bool t14), (.bool false), (.slice t16 t16l 0), (.int .i64 t17), (.bool t18), (.bool false), (.int .i64 t5), (.slice t0 t0l 0), (.int .i64 ((t0l : Nat) : Int)), (.bool true), (ys.getD 24 undef), (ys.getD 25 undef), (.slice t0 t0l 0), (.int .i64 t5), (.pointer (some ⟨i1, (i2 + (t5.toNat * 1)), none⟩)), (.slice a3 i4 0), (.int .i64 ((i4 : Nat) : Int)), (.bool false), (y9.getD 32 undef), (y9.getD 33 undef), (y9.getD 34 undef), (y9.getD 35 undef), (y9.getD 36 undef), (y9.getD 37 undef), (y9.getD 38 undef), (y9.getD 39 undef), (y9.getD 40 undef), (y9.getD 41 undef), (y9.getD 42 undef), (y9.getD 43 undef), (y9.getD 44 undef), (y9.getD 45 undef), (y9.getD 46 undef), (y9.getD 47 undef), (y9.getD 48 undef), (y9.getD 49 undef), (y9.getD 50 undef), (y9.getD 51 undef)] H10)]))
 else (
 K0 [(.slice t0 t0l 0), (.slice t1 t1l 0), undef, undef, (.bool t4), (.int .i64 t5), (ys.getD 6 undef), (.slice t7 t7l 0), (.int .i64 t8), (.bool t9), (.bool false), (.slice t11 t11l 0), (.int .i64 t12), (.bool t13), (.bool t14), (.bool false), (.slice t16 t16l 0), (.int .i64 t17), (.bool t18), (.bool false), (.int .i64 t5), (.slice t0 t0l 0), (.int .i64 ((t0l : Nat) : Int)), (.bool false), (ys.getD 24 undef), (ys.getD 25 undef), (ys.getD 26 undef), (ys.getD 27 undef), (ys.getD 28 undef), (ys.getD 29 undef), (ys.getD 30 undef), (ys.getD 31 undef), (ys.getD 32 undef), (ys.getD 33 undef), (ys.getD 34 undef), (ys.getD 35 undef), (ys.getD 36 undef), (ys.getD 37 undef), (ys.getD 38 undef), (ys.getD 39 undef), (ys.getD 40 undef), (ys.getD 41 undef), (ys.getD 42 undef), (ys.getD 43 undef), (ys.getD 44 undef), (ys.getD 45 undef), (ys.getD 46 undef), (ys.getD 47 undef), (ys.getD 48 undef), (ys.getD 49 undef), (ys.getD 50 undef), (ys.getD 51 undef)] H))) :
    LA en L_crossbarref13_Great_0 [(.slice t0 t0l 0), (.slice t1 t1l 0), undef, undef, (.bool t4), (.int .i64 t5), t6, (.slice t7 t7l 0), (.int .i64 t8), (.bool t9), (.bool false), (.slice t11 t11l 0), (.int .i64 t12), (.bool t13), (.bool t14), (.bool false), (.slice t16 t16l 0), (.int .i64 t17), (.bool t18), (.bool false), t20, t21, t22, t23, t24, t25, t26, t27, t28, t29, t30, t31, t32, t33, t34, t35, t36, t37, t38, t39, t40, t41, t42, t43, t44, t45, t46, t47, t48, t49, t50, t51] H [(X.exit 0, K0), (X.ret, K1), (X.ret, K2)] := by
  refine LA_rule (Z := [[(4, (.bool false))]]) (fun m xs H' => AS.asBool (xs.getD 4 undef) fun t4 => AS.asInt .i64 (xs.getD 5 undef) fun t5 => I m t4 t5 H') ?_ n H ?_
  · intro n H
    suffices hs : ∀ s20 : Value, ∀ s21 : Value, ∀ s22 : Value, ∀ s23 : Value, ∀ s26 : Value, ∀ s27 : Value, ∀ s28 : Value, ∀ s29 : Value, ∀ s30 : Value, ∀ s31 : Value, ∀ s4 : Value, ∀ s6 : Value, ∀ s32 : Value, ∀ s33 : Value, ∀ s34 : Value, ∀ s35 : Value, ∀ s36 : Value, ∀ s37 : Value, ∀ s38 : Value, ∀ s41 : Value, ∀ s42 : Value, ∀ s43 : Value, ∀ s44 : Value, ∀ s45 : Value, ∀ s46 : Value, ∀ s47 : Value, ∀ s48 : Value, ∀ s49 : Value, ∀ s50 : Value, ∀ s51 : Value, ∀ s39 : Value, ∀ s40 : Value, ∀ s24 : Value, ∀ s25 : Value, ∀ s5 : Value, ((AS.asBool s4 fun t4 => AS.asInt .i64 s5 fun t5 => I n t4 t5 H) → wpCode en L_crossbarref13_Great_0 [[(4, (.bool false))]] [(.slice t0 t0l 0), (.slice t1 t1l 0), undef, undef, s4, s5, s6, (.slice t7 t7l 0), (.int .i64 t8), (.bool t9), (.bool false), (.slice t11 t11l 0), (.int .i64 t12), (.bool t13), (.bool t14), (.bool false), (.slice t16 t16l 0), (.int .i64 t17), (.bool t18), (.bool false), s20, s21, s22, s23, s24, s25, s26, s27, s28, s29, s30, s31, s32, s33, s34, s35, s36, s37, s38, s39, s40, s41, s42, s43, s44, s45, s46, s47, s48, s49, s50, s51] H (loopQ (fun m xs H' => AS.asBool (xs.getD 4 undef) fun t4 => AS.asInt .i64 (xs.getD 5 undef) fun t5 => I m t4 t5 H') n [(X.exit 0, K0), (X.ret, K1), (X.ret, K2)])) by
      apply turnInto hs
      kernel_rfl
    intro s20 s21 s22 s23 s26 s27 s28 s29 s30 s31 s4 s6 s32 s33 s34 s35 s36 s37 s38 s41 s42 s43 s44 s45 s46 s47 s48 s49 s50 s51 s39 s40 s24 s25 s5 hP
    replace hP := asBool_elim hP
    obtain ⟨t4, rfl, hP⟩ := hP
    replace hP := asInt_elim hP
    obtain ⟨t5, rfl, hP⟩ := hP
    apply turnInto (hstep n t4 t5 [(.slice t0 t0l 0), (.slice t1 t1l 0), undef, undef, (.bool t4), (.int .i64 t5), s6, (.slice t7 t7l 0), (.int .i64 t8), (.bool t9), (.bool false), (.slice t11 t11l 0), (.int .i64 t12), (.bool t13), (.bool t14), (.bool false), (.slice t16 t16l 0), (.int .i64 t17), (.bool t18), (.bool false), s20, s21, s22, s23, s24, s25, s26, s27, s28, s29, s30, s31, s32, s33, s34, s35, s36, s37, s38, s39, s40, s41, s42, s43, s44, s45, s46, s47, s48, s49, s50, s51] H hP)
    kernel_rfl
  · apply turnInto h0
    kernel_rfl

theorem use_crossbarref13_Great_1 {t0 : Option Addr} {t0l : Nat} {t1 : Option Addr} {t1l : Nat} {t5 : Int} {t7 : Option Addr} {t7l : Nat} {t8 : Int} {t9 : Bool} {t11 : Option Addr} {t11l : Nat} {t12 : Int} {t13 : Bool} {t14 : Bool} {t16 : Option Addr} {t16l : Nat} {t17 : Int} {t18 : Bool} {t20 : Int} {t21 : Option Addr} {t21l : Nat} {t22 : Int} {t24 : Value} {t25 : Value} {t26 : Option Addr} {t26l : Nat} {t27 : Int} {t28 : Nat} {t28o : Nat} {t29 : Option Addr} {t29l : Nat} {t30 : Int} {K0 : Fr → Heap → Prop} {K1 : Fr → Heap → Prop} {t4 : Bool} {t6 : Int} {t32 : Value} {t33 : Value} {t34 : Value} {t35 : Value} {t36 : Value} {t37 : Value} {t38 : Value} {t39 : Value} {t40 : Value} {t41 : Value} {t42 : Value} {t43 : Value} {t44 : Value} {t45 : Value} {t46 : Value} {t47 : Value} {t48 : Value} {t49 : Value} {t50 : Value} {t51 : Value} {H : Heap} (I : Nat → Bool → Int → Heap → Prop) (n : Nat) (h0 : I n t4 t6 H)
    (hstep : ∀ (n : Nat) (t4 : Bool) (t6 : Int) (ys : Fr) (H : Heap), I n t4 t6 H →
    (
 inB t5 t0l ∧
 asRow t0 fun i1 i2 =>
 ∃ a3 i4, H.cell i1 (i2 + (t5.toNat * 1)) = some (.slice a3 i4 0) ∧
 bif (decide (t6 < ((i4 : Nat) : Int))) then (
 inB t5 t0l ∧
 asRow t0 fun i5 i6 =>
 ∃ a7 i8, H.cell i5 (i6 + (t5.toNat * 1)) = some (.slice a7 i8 0) ∧
 inB t6 i8 ∧
 asRow a7 fun i9 i10 =>
 ∃ a11 i12, H.cell i9 (((i10 + (t6.toNat * 7)) + 1) + 2) = some (.slice a11 i12 0) ∧
 bif (decide (((i12 : Nat) : Int) > 8)) then (
 K1 [(.slice t0 t0l 0), (.slice t1 t1l 0), undef, undef, (.bool true), (.int .i64 t5), (.int .i64 t6), (.slice t7 t7l 0), (.int .i64 t8), (.bool t9), (.bool false), (.slice t11 t11l 0), (.int .i64 t12), (.bool t13), (.bool t14), (.bool false), (.slice t16 t16l 0), (.int .i64 t17), (.bool t18), (.bool false), (.int .i64 t20), (.slice t21 t21l 0), (.int .i64 t22), (.bool true), t24, t25, (.slice t26 t26l 0), (.int .i64 t27), (.pointer (some ⟨t28, t28o, none⟩)), (.slice t29 t29l 0), (.int .i64 t30), (.bool false), (.int .i64 t6), (.slice t0 t0l 0), (.int .i64 t5), (.pointer (some ⟨i1, (i2 + (t5.toNat * 1)), none⟩)), (.slice a3 i4 0), (.int .i64 ((i4 : Nat) : Int)), (.bool true), (ys.getD 39 undef), (ys.getD 40 undef), (.slice t0 t0l 0), (.int .i64 t5), (.pointer (some ⟨i5, (i6 + (t5.toNat * 1)), none⟩)), (.slice a7 i8 0), (.int .i64 t6), (.pointer (some ⟨i9, (i10 + (t6.toNat * 7)), none⟩)), (.pointer (some ⟨i9, ((i10 + (t6.toNat * 7)) + 1), none⟩)), (.pointer (some ⟨i9, (((i10 + (t6.toNat * 7)) + 1) + 2), none⟩)), (.slice a11 i12 0), (.int .i64 ((i12 : Nat) : Int)), (.bool true)] H)
 else (
 ∃ k13, k13 < n ∧
 I k13 t4 (IntKind.i64.wrap (t6 + 1)) H))
 else (
 K0 [(.slice t0 t0l 0), (.slice t1 t1l 0), undef, undef, (.bool t4), (.int .i64 t5), (.int .i64 t6), (.slice t7 t7l 0), (.int .i64 t8), (.bool t9), (.bool false), (.slice t11 t11l 0), (.int .i64 t12), (.bool t13), (.bool t14), (.bool false), (.slice t16 t16l 0), (.int .i64 t17), (.bool t18), (.bool false), (.int .i64 t20), (.slice t21 t21l 0), (.int .i64 t22), (.bool true), t24, t25, (.slice t26 t26l 0), (.int .i64 t27), (.pointer (some ⟨t28, t28o, none⟩)), (.slice t29 t29l 0), (.int .i64 t30), (.bool false), (.int .i64 t6), (.slice t0 t0l 0), (.int .i64 t5), (.pointer (some ⟨i1, (i2 + (t5.toNat * 1)), none⟩)), (.slice a3 i4 0), (.int .i64 ((i4 : Nat) : Int)), (.bool false), (ys.getD 39 undef), (ys.getD 40 undef), (ys.getD 41 undef), (ys.getD 42 undef), (ys.getD 43 undef), (ys.getD 44 undef), (ys.getD 45 undef), (ys.getD 46 undef), (ys.getD 47 undef), (ys.getD 48 undef), (ys.getD 49 undef), (ys.getD 50 undef), (ys.getD 51 undef)] H))) :
    LA en L_crossbarref13_Great_1 [(.slice t0 t0l 0), (.slice t1 t1l 0), undef, undef, (.bool t4), (.int .i64 t5), (.int .i64 t6), (.slice t7 t7l 0), (.int .i64 t8), (.bool t9), (.bool false), (.slice t11 t11l 0), (.int .i64 t12), (.bool t13), (.bool t14), (.bool false), (.slice t16 t16l 0), (.int .i64 t17), (.bool t18), (.bool false), (.int .i64 t20), (.slice t21 t21l 0), (.int .i64 t22), (.bool true), t24, t25, (.slice t26 t26l 0), (.int .i64 t27), (.pointer (some ⟨t28, t28o, none⟩)), (.slice t29 t29l 0), (.int .i64 t30), (.bool false), t32, t33, t34, t35, t36, t37, t38, t39, t40, t41, t42, t43, t44, t45, t46, t47, t48, t49, t50, t51] H [(X.exit 2, K0), (X.ret, K1)] := by
  refine LA_rule (Z := []) (fun m xs H' => AS.asBool (xs.getD 4 undef) fun t4 => AS.asInt .i64 (xs.getD 6 undef) fun t6 => I m t4 t6 H') ?_ n H ?_
  · intro n H
    suffices hs : ∀ s32 : Value, ∀ s33 : Value, ∀ s34 : Value, ∀ s35 : Value, ∀ s36 : Value, ∀ s37 : Value, ∀ s38 : Value, ∀ s41 : Value, ∀ s42 : Value, ∀ s43 : Value, ∀ s44 : Value, ∀ s45 : Value, ∀ s46 : Value, ∀ s47 : Value, ∀ s48 : Value, ∀ s49 : Value, ∀ s50 : Value, ∀ s51 : Value, ∀ s4 : Value, ∀ s39 : Value, ∀ s40 : Value, ∀ s6 : Value, ((AS.asBool s4 fun t4 => AS.asInt .i64 s6 fun t6 => I n t4 t6 H) → wpCode en L_crossbarref13_Great_1 [] [(.slice t0 t0l 0), (.slice t1 t1l 0), undef, undef, s4, (.int .i64 t5), s6, (.slice t7 t7l 0), (.int .i64 t8), (.bool t9), (.bool false), (.slice t11 t11l 0), (.int .i64 t12), (.bool t13), (.bool t14), (.bool false), (.slice t16 t16l 0), (.int .i64 t17), (.bool t18), (.bool false), (.int .i64 t20), (.slice t21 t21l 0), (.int .i64 t22), (.bool true), t24, t25, (.slice t26 t26l 0), (.int .i64 t27), (.pointer (some ⟨t28, t28o, none⟩)), (.slice t29 t29l 0), (.int .i64 t30), (.bool false), s32, s33, s34, s35, s36, s37, s38, s39, s40, s41, s42, s43, s44, s45, s46, s47, s48, s49, s50, s51] H (loopQ (fun m xs H' => AS.asBool (xs.getD 4 undef) fun t4 => AS.asInt .i64 (xs.getD 6 undef) fun t6 => I m t4 t6 H') n [(X.exit 2, K0), (X.ret, K1)])) by
      apply turnInto hs
      kernel_rfl
    intro s32 s33 s34 s35 s36 s37 s38 s41 s42 s43 s44 s45 s46 s47 s48 s49 s50 s51 s4 s39 s40 s6 hP
    replace hP := asBool_elim hP
    obtain ⟨t4, rfl, hP⟩ := hP
    replace hP := asInt_elim hP
    obtain ⟨t6, rfl, hP⟩ := hP
    apply turnInto (hstep n t4 t6 [(.slice t0 t0l 0), (.slice t1 t1l 0), undef, undef, (.bool t4), (.int .i64 t5), (.int .i64 t6), (.slice t7 t7l 0), (.int .i64 t8), (.bool t9), (.bool false), (.slice t11 t11l 0), (.int .i64 t12), (.bool t13), (.bool t14), (.bool false), (.slice t16 t16l 0), (.int .i64 t17), (.bool t18), (.bool false), (.int .i64 t20), (.slice t21 t21l 0), (.int .i64 t22), (.bool true), t24, t25, (.slice t26 t26l 0), (.int .i64 t27), (.pointer (some ⟨t28, t28o, none⟩)), (.slice t29 t29l 0), (.int .i64 t30), (.bool false), s32, s33, s34, s35, s36, s37, s38, s39, s40, s41, s42, s43, s44, s45, s46, s47, s48, s49, s50, s51] H hP)
    kernel_rfl
  · apply turnInto h0
    kernel_rfl


/-! crossbarref13_Turn -/

theorem vc_crossbarref13_Turn (x0 : Option Addr) (x0l : Nat) (x1 : Int) (x2 : Int) (H : Heap) (R : Value → Heap → Prop) :
    (
 bif (decide (x1 < ((x0l : Nat) : Int))) then (
 inB x1 x0l ∧
 asRow x0 fun i1 i2 =>
 ∃ n3, H.cell i1 (i2 + (x1.toNat * 1)) = some (.int .i64 n3) ∧
 CA en F.crossbarkit_Pick [(.int .i64 n3), (.int .i64 x2)] H fun v4 H5 =>
 ∃ n6, v4 = (.int .i64 n6) ∧
 R (.int .i64 n6) H5)
 else (
 nz x2 ∧
 R (.int .i64 (Int.tmod x1 x2)) H)) →
    CA en F.crossbarref13_Turn [(.slice x0 x0l 0), (.int .i64 x1), (.int .i64 x2)] H R := by
  intro h
  refine wpFn_ok (Z := []) (fn := Go.Proofs.Tryz.f8) ?_ ?_ ?_
  · kernel_rfl
  · kernel_rfl
  · apply turnInto h
    kernel_rfl


/-! crossbarref13_Right -/

theorem vc_crossbarref13_Right (x0 : Option Addr) (x0l : Nat) (x1 : Int) (x2_0 : Int) (x2_1 : Int) (x2_2 : Option Addr) (x2_2l : Nat) (x2_3 : Int) (x2_4 : Int) (H : Heap) (R : Value → Heap → Prop) :
    (
 nwH H (.cells true 0 [(.int .i64 x2_0), (.int .u64 x2_1), (.slice x2_2 x2_2l 0), (.int .i64 x2_3), (.int .i64 x2_4)]) fun i1 H2 =>
 CA en F.crossbarref11_New [(.slice x0 x0l 0), (.int .i64 x1)] H2 fun v3 H4 =>
 ∃ a5, ∃ n6, v3 = (.tuple #[(.pointer a5), (.int .i64 n6)]) ∧
 bif (n6 == 0) then (
 ∃ n7, ∃ n8, ∃ a9 i10, ∃ n11, ∃ n12, H4.cellsAt i1 0 5 = some [(.int .i64 n7), (.int .u64 n8), (.slice a9 i10 0), (.int .i64 n11), (.int .i64 n12)] ∧
 CA en F.crossbarref11_Maps_Do [(.pointer a5), (.int .i64 1), (.agg #[(.int .i64 n7), (.int .u64 n8), (.slice a9 i10 0), (.int .i64 n11), (.int .i64 n12)])] H4 fun v13 H14 =>
 ∃ n15, ∃ a16 i17, ∃ n18, ∃ n19, v13 = (.agg #[(.int .i64 n15), (.slice a16 i17 0), (.int .u64 n18), (.int .i64 n19)]) ∧
 R (.bool (n15 != 1)) H14)
 else (
 R (.bool false) H4)) →
    CA en F.crossbarref13_Right [(.slice x0 x0l 0), (.int .i64 x1), (.agg #[(.int .i64 x2_0), (.int .u64 x2_1), (.slice x2_2 x2_2l 0), (.int .i64 x2_3), (.int .i64 x2_4)])] H R := by
  intro h
  refine wpFn_ok (Z := []) (fn := Go.Proofs.Tryz.f24) ?_ ?_ ?_
  · kernel_rfl
  · kernel_rfl
  · apply turnInto h
    kernel_rfl


/-! crossbarlaw17_play_turn -/

theorem vc_crossbarlaw17_play_turn (x0 : Option Addr) (x1 : Int) (x2 : Option Addr) (x2l : Nat) (H : Heap) (R : Value → Heap → Prop) :
    (
 AS.asAddr (.pointer x0) fun i1 i2 =>
 ∃ a3 i4, H.cell i1 (i2 + 4) = some (.slice a3 i4 0) ∧
 inB x1 i4 ∧
 asRow a3 fun i5 i6 =>
 ∃ a7, H.cell i5 (i6 + (x1.toNat * 9)) = some (.pointer a7) ∧
 bif (!a7.isNone) then (
 CA en F.crossbarlaw17_play_step [(.pointer x0), (.int .i64 x1)] H fun v8 H9 =>
 ∃ b10, v8 = (.bool b10) ∧
 R (.bool b10) H9)
 else (
 ∃ n11, H.cell i5 ((i6 + (x1.toNat * 9)) + 6) = some (.int .i64 n11) ∧
 bif (decide (n11 ≥ ((x2l : Nat) : Int))) then (
 R (.bool true) H)
 else (
 ∃ n12, H.cell i5 ((i6 + (x1.toNat * 9)) + 6) = some (.int .i64 n12) ∧
 inB n12 x2l ∧
 asRow x2 fun i13 i14 =>
 ∃ n15, ∃ n16, ∃ n17, ∃ a18 i19, ∃ n20, ∃ n21, ∃ n22, H.cellsAt i13 (i14 + (n12.toNat * 7)) 7 = some [(.int .i64 n15), (.int .i64 n16), (.int .u64 n17), (.slice a18 i19 0), (.int .i64 n20), (.int .i64 n21), (.int .u64 n22)] ∧
 nwH H (.cells true 0 [(.int .i64 0), (.int .i64 0), (.int .u64 0), (.slice none 0 0), (.int .i64 0), (.int .i64 0), (.int .u64 0)]) fun i23 H24 =>
 stc H24 i23 0 [(.int .i64 n15), (.int .i64 n16), (.int .u64 n17), (.slice a18 i19 0), (.int .i64 n20), (.int .i64 n21), (.int .u64 n22)] fun H25 =>
 ∃ n26, H25.cell i5 ((i6 + (x1.toNat * 9)) + 6) = some (.int .i64 n26) ∧
 stc H25 i5 ((i6 + (x1.toNat * 9)) + 6) [(.int .i64 (IntKind.i64.wrap (n26 + 1)))] fun H27 =>
 ∃ n28, (H27.bump 13).cell i23 0 = some (.int .i64 n28) ∧
 bif (n28 != 0) then (
 (
 R (.bool true) (H27.bump 13)) ∧
 True)
 else (
 AS.asAddr (.pointer x0) fun i29 i30 =>
 ∃ a31 i32, (H27.bump 13).cell i29 i30 = some (.slice a31 i32 0) ∧
 ∃ n33, ∃ n34, ∃ a35 i36, ∃ n37, ∃ n38, (H27.bump 13).cellsAt i23 1 5 = some [(.int .i64 n33), (.int .u64 n34), (.slice a35 i36 0), (.int .i64 n37), (.int .i64 n38)] ∧
 CA en F.crossbarref13_Right [(.slice a31 i32 0), (.int .i64 1), (.agg #[(.int .i64 n33), (.int .u64 n34), (.slice a35 i36 0), (.int .i64 n37), (.int .i64 n38)])] (H27.bump 13) fun v39 H40 =>
 ∃ b41, v39 = (.bool b41) ∧
 (
 bif (!b41) then (
 R (.bool true) H40)
 else (
 ∃ n42, ∃ n43, ∃ a44 i45, ∃ n46, ∃ n47, H40.cellsAt i23 1 5 = some [(.int .i64 n42), (.int .u64 n43), (.slice a44 i45 0), (.int .i64 n46), (.int .i64 n47)] ∧
 nwH H40 (.cells true 0 [(.int .i64 0), (.int .u64 0), (.slice none 0 0), (.int .i64 0), (.int .i64 0)]) fun i48 H49 =>
 stc H49 i48 0 [(.int .i64 n42), (.int .u64 n43), (.slice a44 i45 0), (.int .i64 n46), (.int .i64 n47)] fun H50 =>
 ∃ a51 i52, H50.cell i23 3 = some (.slice a51 i52 0) ∧
 CA en F.crossbarkit_CopyWords [(.slice a51 i52 0)] H50 fun v53 H54 =>
 ∃ a55 i56, v53 = (.slice a55 i56 0) ∧
 stc H54 i48 2 [(.slice a55 i56 0)] fun H57 =>
 AS.asAddr (.pointer x0) fun i58 i59 =>
 ∃ a60, (H57.bump 10).cell i58 (i59 + 2) = some (.pointer a60) ∧
 ∃ n61, ∃ n62, ∃ a63 i64, ∃ n65, ∃ n66, (H57.bump 10).cellsAt i48 0 5 = some [(.int .i64 n61), (.int .u64 n62), (.slice a63 i64 0), (.int .i64 n65), (.int .i64 n66)] ∧
 CA en F.ring_Map_Begin [(.pointer a60), (.agg #[(.int .i64 n61), (.int .u64 n62), (.slice a63 i64 0), (.int .i64 n65), (.int .i64 n66)])] (H57.bump 10) fun v67 H68 =>
 ∃ a69, v67 = (.pointer a69) ∧
 stc H68 i5 (i6 + (x1.toNat * 9)) [(.pointer a69)] fun H70 =>
 (
 ∃ a71 i72, H70.cell i48 2 = some (.slice a71 i72 0) ∧
 CA en F.crossbarkit_SpoilWords [(.slice a71 i72 0)] H70 fun v73 H74 =>
 v73 = undef ∧
 ∃ n75, ∃ n76, ∃ a77 i78, ∃ n79, ∃ n80, H74.cellsAt i23 1 5 = some [(.int .i64 n75), (.int .u64 n76), (.slice a77 i78 0), (.int .i64 n79), (.int .i64 n80)] ∧
 stc H74 i5 ((i6 + (x1.toNat * 9)) + 1) [(.int .i64 n75), (.int .u64 n76), (.slice a77 i78 0), (.int .i64 n79), (.int .i64 n80)] fun H81 =>
 stc H81 i5 ((i6 + (x1.toNat * 9)) + 7) [(.bool false)] fun H82 =>
 AS.asAddr (.pointer x0) fun i83 i84 =>
 ∃ n85, H82.cell i83 (i84 + 5) = some (.int .i64 n85) ∧
 AS.asAddr (.pointer x0) fun i86 i87 =>
 stc H82 i86 (i87 + 5) [(.int .i64 (IntKind.i64.wrap (n85 + 1)))] fun H88 =>
 AS.asAddr (.pointer x0) fun i89 i90 =>
 ∃ n91, H88.cell i89 (i90 + 5) = some (.int .i64 n91) ∧
 stc H88 i5 ((i6 + (x1.toNat * 9)) + 8) [(.int .i64 n91)] fun H92 =>
 ∃ a93, H92.cell i5 (i6 + (x1.toNat * 9)) = some (.pointer a93) ∧
 bif (!a93.isNone) then (
 CA en F.crossbarlaw17_play_step [(.pointer x0), (.int .i64 x1)] H92 fun v94 H95 =>
 ∃ b96, v94 = (.bool b96) ∧
 R (.bool b96) H95)
 else (
 R (.bool false) H92)) ∧
 True)) ∧
 True)))) →
    CA en F.crossbarlaw17_play_turn [(.pointer x0), (.int .i64 x1), (.slice x2 x2l 0)] H R := by
  intro h
  refine wpFn_ok (Z := []) (fn := Go.Proofs.Tryz.f9) ?_ ?_ ?_
  · kernel_rfl
  · kernel_rfl
  · apply turnInto h
    kernel_rfl


/-! crossbarlaw17_play_over -/
noncomputable def L_crossbarlaw17_play_over_0 : Code := loopAt Go.Proofs.Tryz.f10 0

theorem vc_crossbarlaw17_play_over (x0 : Option Addr) (x1_0 : Bool) (x1_1 : Int) (x1_2 : Int) (x1_3 : Option Addr) (x1_3l : Nat) (x1_4 : Option Addr) (x1_4l : Nat) (H : Heap) (R : Value → Heap → Prop) :
    (
 nwH H (.cells true 0 [(.bool x1_0), (.int .i64 x1_1), (.int .i64 x1_2), (.slice x1_3 x1_3l 0), (.slice x1_4 x1_4l 0)]) fun i1 H2 =>
 LA en L_crossbarlaw17_play_over_0 [(.pointer x0), (.agg #[(.bool x1_0), (.int .i64 x1_1), (.int .i64 x1_2), (.slice x1_3 x1_3l 0), (.slice x1_4 x1_4l 0)]), undef, (.pointer (some ⟨i1, 0, none⟩)), (.bool false), (.int .i64 0), undef, undef, undef, undef, undef, undef, undef, undef, undef, undef, undef, undef, undef, undef, undef, undef, undef, undef, undef, undef, undef, undef, undef, undef, undef, undef, undef, undef, undef, undef, undef, undef, undef, undef, undef] H2 [(X.exit 0, fun (y3 : Fr) (H4 : Heap) =>
 AS.asBool (y3.getD 4 undef) fun b5 =>
 R (.bool true) H4),
 (X.ret, fun (y6 : Fr) (H7 : Heap) =>
 AS.asBool (y6.getD 4 undef) fun b8 =>
 R (.bool b8) H7)]) →
    CA en F.crossbarlaw17_play_over [(.pointer x0), (.agg #[(.bool x1_0), (.int .i64 x1_1), (.int .i64 x1_2), (.slice x1_3 x1_3l 0), (.slice x1_4 x1_4l 0)])] H R := by
  intro h
  refine wpFn_ok (Z := [[(4, (.bool false))]]) (fn := Go.Proofs.Tryz.f10) ?_ ?_ ?_
  · kernel_rfl
  · kernel_rfl
  · apply turnInto h
    kernel_rfl

theorem use_crossbarlaw17_play_over_0 {t0 : Option Addr} {t1_0 : Bool} {t1_1 : Int} {t1_2 : Int} {t1_3 : Option Addr} {t1_3l : Nat} {t1_4 : Option Addr} {t1_4l : Nat} {t3 : Nat} {K0 : Fr → Heap → Prop} {K1 : Fr → Heap → Prop} {t4 : Bool} {t5 : Int} {t6 : Value} {t7 : Value} {t8 : Value} {t9 : Value} {t10 : Value} {t11 : Value} {t12 : Value} {t13 : Value} {t14 : Value} {t15 : Value} {t16 : Value} {t17 : Value} {t18 : Value} {t19 : Value} {t20 : Value} {t21 : Value} {t22 : Value} {t23 : Value} {t24 : Value} {t25 : Value} {t26 : Value} {t27 : Value} {t28 : Value} {t29 : Value} {t30 : Value} {t31 : Value} {t32 : Value} {t33 : Value} {t34 : Value} {t35 : Value} {t36 : Value} {t37 : Value} {t38 : Value} {t39 : Value} {t40 : Value} {H : Heap} (I : Nat → Bool → Int → Heap → Prop) (n : Nat) (h0 : I n t4 t5 H)
    (hstep : ∀ (n : Nat) (t4 : Bool) (t5 : Int) (ys : Fr) (H : Heap), I n t4 t5 H →
    (
 AS.asAddr (.pointer t0) fun i1 i2 =>
 ∃ a3 i4, H.cell i1 (i2 + 4) = some (.slice a3 i4 0) ∧
 bif (decide (t5 < ((i4 : Nat) : Int))) then (
 AS.asAddr (.pointer t0) fun i5 i6 =>
 ∃ a7 i8, (H.bump 26).cell i5 (i6 + 4) = some (.slice a7 i8 0) ∧
 inB t5 i8 ∧
 asRow a7 fun i9 i10 =>
 ∃ a11, (H.bump 26).cell i9 (i10 + (t5.toNat * 9)) = some (.pointer a11) ∧
 bif (!a11.isNone) then (
 (
 K1 [(.pointer t0), (.agg #[(.bool t1_0), (.int .i64 t1_1), (.int .i64 t1_2), (.slice t1_3 t1_3l 0), (.slice t1_4 t1_4l 0)]), undef, (.pointer (some ⟨t3, 0, none⟩)), (.bool false), (.int .i64 t5), (.int .i64 t5), (.pointer t0), (.pointer (some ⟨i1, i2, none⟩)), (.pointer (some ⟨i1, (i2 + 4), none⟩)), (.slice a3 i4 0), (.int .i64 ((i4 : Nat) : Int)), (.bool true), (ys.getD 13 undef), (ys.getD 14 undef), (.pointer t0), (.pointer (some ⟨i5, i6, none⟩)), (.pointer (some ⟨i5, (i6 + 4), none⟩)), (.slice a7 i8 0), (.int .i64 t5), (.pointer (some ⟨i9, (i10 + (t5.toNat * 9)), none⟩)), (.pointer (some ⟨i9, (i10 + (t5.toNat * 9)), none⟩)), (.pointer a11), (.bool (!a11.isNone)), (.bool true), undef, undef, undef, undef, undef, undef, undef, undef, undef, undef, undef, undef, undef, undef, undef, (.bool true)] (H.bump 26)) ∧
 True)
 else (
 AS.asAddr (.pointer t0) fun i12 i13 =>
 ∃ a14 i15, (H.bump 26).cell i12 (i13 + 4) = some (.slice a14 i15 0) ∧
 inB t5 i15 ∧
 asRow a14 fun i16 i17 =>
 ∃ n18, (H.bump 26).cell i16 ((i17 + (t5.toNat * 9)) + 6) = some (.int .i64 n18) ∧
 ∃ a19 i20, (H.bump 26).cell t3 3 = some (.slice a19 i20 0) ∧
 inB t5 i20 ∧
 asRow a19 fun i21 i22 =>
 ∃ a23 i24, (H.bump 26).cell i21 (i22 + (t5.toNat * 1)) = some (.slice a23 i24 0) ∧
 (
 bif (decide (n18 < ((i24 : Nat) : Int))) then (
 K1 [(.pointer t0), (.agg #[(.bool t1_0), (.int .i64 t1_1), (.int .i64 t1_2), (.slice t1_3 t1_3l 0), (.slice t1_4 t1_4l 0)]), undef, (.pointer (some ⟨t3, 0, none⟩)), (.bool false), (.int .i64 t5), (.int .i64 t5), (.pointer t0), (.pointer (some ⟨i1, i2, none⟩)), (.pointer (some ⟨i1, (i2 + 4), none⟩)), (.slice a3 i4 0), (.int .i64 ((i4 : Nat) : Int)), (.bool true), (ys.getD 13 undef), (ys.getD 14 undef), (.pointer t0), (.pointer (some ⟨i5, i6, none⟩)), (.pointer (some ⟨i5, (i6 + 4), none⟩)), (.slice a7 i8 0), (.int .i64 t5), (.pointer (some ⟨i9, (i10 + (t5.toNat * 9)), none⟩)), (.pointer (some ⟨i9, (i10 + (t5.toNat * 9)), none⟩)), (.pointer a11), (.bool (!a11.isNone)), (.bool false), (.pointer t0), (.pointer (some ⟨i12, i13, none⟩)), (.pointer (some ⟨i12, (i13 + 4), none⟩)), (.slice a14 i15 0), (.int .i64 t5), (.pointer (some ⟨i16, (i17 + (t5.toNat * 9)), none⟩)), (.pointer (some ⟨i16, ((i17 + (t5.toNat * 9)) + 6), none⟩)), (.int .i64 n18), (.pointer (some ⟨t3, 3, none⟩)), (.slice a19 i20 0), (.int .i64 t5), (.pointer (some ⟨i21, (i22 + (t5.toNat * 1)), none⟩)), (.slice a23 i24 0), (.int .i64 ((i24 : Nat) : Int)), (.bool (decide (n18 < ((i24 : Nat) : Int)))), (.bool true)] (H.bump 26))
 else (
 ∃ k25, k25 < n ∧
 I k25 t4 (IntKind.i64.wrap (t5 + 1)) (H.bump 26))) ∧
 True))
 else (
 K0 [(.pointer t0), (.agg #[(.bool t1_0), (.int .i64 t1_1), (.int .i64 t1_2), (.slice t1_3 t1_3l 0), (.slice t1_4 t1_4l 0)]), undef, (.pointer (some ⟨t3, 0, none⟩)), (.bool t4), (.int .i64 t5), (.int .i64 t5), (.pointer t0), (.pointer (some ⟨i1, i2, none⟩)), (.pointer (some ⟨i1, (i2 + 4), none⟩)), (.slice a3 i4 0), (.int .i64 ((i4 : Nat) : Int)), (.bool false), (ys.getD 13 undef), (ys.getD 14 undef), (ys.getD 15 undef), (ys.getD 16 undef), (ys.getD 17 undef), (ys.getD 18 undef), (ys.getD 19 undef), (ys.getD 20 undef), (ys.getD 21 undef), (ys.getD 22 undef), (ys.getD 23 undef), (ys.getD 24 undef), (ys.getD 25 undef), (ys.getD 26 undef), (ys.getD 27 undef), (ys.getD 28 undef), (ys.getD 29 undef), (ys.getD 30 undef), (ys.getD 31 undef), (ys.getD 32 undef), (ys.getD 33 undef), (ys.getD 34 undef), (ys.getD 35 undef), (ys.getD 36 undef), (ys.getD 37 undef), (ys.getD 38 undef), (ys.getD 39 undef), (ys.getD 40 undef)] H))) :
    LA en L_crossbarlaw17_play_over_0 [(.pointer t0), (.agg #[(.bool t1_0), (.int .i64 t1_1), (.int .i64 t1_2), (.slice t1_3 t1_3l 0), (.slice t1_4 t1_4l 0)]), undef, (.pointer (some ⟨t3, 0, none⟩)), (.bool t4), (.int .i64 t5), t6, t7, t8, t9, t10, t11, t12, t13, t14, t15, t16, t17, t18, t19, t20, t21, t22, t23, t24, t25, t26, t27, t28, t29, t30, t31, t32, t33, t34, t35, t36, t37, t38, t39, t40] H [(X.exit 0, K0), (X.ret, K1)] := by
  refine LA_rule (Z := []) (fun m xs H' => AS.asBool (xs.getD 4 undef) fun t4 => AS.asInt .i64 (xs.getD 5 undef) fun t5 => I m t4 t5 H') ?_ n H ?_
  · intro n H
    suffices hs : ∀ s6 : Value, ∀ s7 : Value, ∀ s8 : Value, ∀ s9 : Value, ∀ s10 : Value, ∀ s11 : Value, ∀ s12 : Value, ∀ s15 : Value, ∀ s16 : Value, ∀ s17 : Value, ∀ s18 : Value, ∀ s19 : Value, ∀ s20 : Value, ∀ s21 : Value, ∀ s22 : Value, ∀ s23 : Value, ∀ s24 : Value, ∀ s25 : Value, ∀ s26 : Value, ∀ s27 : Value, ∀ s28 : Value, ∀ s29 : Value, ∀ s30 : Value, ∀ s31 : Value, ∀ s32 : Value, ∀ s33 : Value, ∀ s34 : Value, ∀ s35 : Value, ∀ s36 : Value, ∀ s37 : Value, ∀ s38 : Value, ∀ s39 : Value, ∀ s40 : Value, ∀ s4 : Value, ∀ s13 : Value, ∀ s14 : Value, ∀ s5 : Value, ((AS.asBool s4 fun t4 => AS.asInt .i64 s5 fun t5 => I n t4 t5 H) → wpCode en L_crossbarlaw17_play_over_0 [] [(.pointer t0), (.agg #[(.bool t1_0), (.int .i64 t1_1), (.int .i64 t1_2), (.slice t1_3 t1_3l 0), (.slice t1_4 t1_4l 0)]), undef, (.pointer (some ⟨t3, 0, none⟩)), s4, s5, s6, s7, s8, s9, s10, s11, s12, s13, s14, s15, s16, s17, s18, s19, s20, s21, s22, s23, s24, s25, s26, s27, s28, s29, s30, s31, s32, s33, s34, s35, s36, s37, s38, s39, s40] H (loopQ (fun m xs H' => AS.asBool (xs.getD 4 undef) fun t4 => AS.asInt .i64 (xs.getD 5 undef) fun t5 => I m t4 t5 H') n [(X.exit 0, K0), (X.ret, K1)])) by
      apply turnInto hs
      kernel_rfl
    intro s6 s7 s8 s9 s10 s11 s12 s15 s16 s17 s18 s19 s20 s21 s22 s23 s24 s25 s26 s27 s28 s29 s30 s31 s32 s33 s34 s35 s36 s37 s38 s39 s40 s4 s13 s14 s5 hP
    replace hP := asBool_elim hP
    obtain ⟨t4, rfl, hP⟩ := hP
    replace hP := asInt_elim hP
    obtain ⟨t5, rfl, hP⟩ := hP
    apply turnInto (hstep n t4 t5 [(.pointer t0), (.agg #[(.bool t1_0), (.int .i64 t1_1), (.int .i64 t1_2), (.slice t1_3 t1_3l 0), (.slice t1_4 t1_4l 0)]), undef, (.pointer (some ⟨t3, 0, none⟩)), (.bool t4), (.int .i64 t5), s6, s7, s8, s9, s10, s11, s12, s13, s14, s15, s16, s17, s18, s19, s20, s21, s22, s23, s24, s25, s26, s27, s28, s29, s30, s31, s32, s33, s34, s35, s36, s37, s38, s39, s40] H hP)
    kernel_rfl
  · apply turnInto h0
    kernel_rfl


/-! crossbarlaw17_play_step -/

theorem vc_crossbarlaw17_play_step (x0 : Option Addr) (x1 : Int) (H : Heap) (R : Value → Heap → Prop) :
    (
 AS.asAddr (.pointer x0) fun i1 i2 =>
 ∃ a3 i4, H.cell i1 (i2 + 4) = some (.slice a3 i4 0) ∧
 inB x1 i4 ∧
 asRow a3 fun i5 i6 =>
 AS.asAddr (.pointer x0) fun i7 i8 =>
 ∃ a9, H.cell i7 (i8 + 1) = some (.pointer a9) ∧
 CA en F.smem_Mem_Count [(.pointer a9)] H fun v10 H11 =>
 ∃ n12, v10 = (.int .i64 n12) ∧
 ∃ a13, H11.cell i5 (i6 + (x1.toNat * 9)) = some (.pointer a13) ∧
 CA en F.ring_Run_Step [(.pointer a13)] H11 fun v14 H15 =>
 ∃ b16, ∃ b17, v14 = (.tuple #[(.bool b16), (.bool b17)]) ∧
 AS.asAddr (.pointer x0) fun i18 i19 =>
 ∃ a20, H15.cell i18 (i19 + 1) = some (.pointer a20) ∧
 CA en F.smem_Mem_Count [(.pointer a20)] H15 fun v21 H22 =>
 ∃ n23, v21 = (.int .i64 n23) ∧
 bif (decide (n23 > (IntKind.i64.wrap (n12 + 1)))) then (
 R (.bool false) H22)
 else (
 bif b16 then (
 ∃ b24, H22.cell i5 ((i6 + (x1.toNat * 9)) + 7) = some (.bool b24) ∧
 bif b24 then (
 R (.bool false) H22)
 else (
 bif b16 then (
 stc H22 i5 ((i6 + (x1.toNat * 9)) + 7) [(.bool true)] fun H25 =>
 ∃ a26, H25.cell i5 (i6 + (x1.toNat * 9)) = some (.pointer a26) ∧
 CA en F.ring_Run_Result [(.pointer a26)] H25 fun v27 H28 =>
 ∃ n29, ∃ a30 i31, ∃ n32, ∃ n33, v27 = (.agg #[(.int .i64 n29), (.slice a30 i31 0), (.int .u64 n32), (.int .i64 n33)]) ∧
 nwH H28 (.cells true 0 [(.int .i64 0), (.slice none 0 0), (.int .u64 0), (.int .i64 0)]) fun i34 H35 =>
 stc H35 i34 0 [(.int .i64 n29), (.slice a30 i31 0), (.int .u64 n32), (.int .i64 n33)] fun H36 =>
 AS.asAddr (.pointer x0) fun i37 i38 =>
 ∃ a39, ((H36.bump 11).set (H36.next + 9) (.cells true 0 [(.int .i64 0), (.slice none 0 0), (.int .u64 0), (.int .i64 0)])).cell i37 (i38 + 3) = some (.pointer a39) ∧
 ∃ n40, ∃ n41, ∃ a42 i43, ∃ n44, ∃ n45, ((H36.bump 11).set (H36.next + 9) (.cells true 0 [(.int .i64 0), (.slice none 0 0), (.int .u64 0), (.int .i64 0)])).cellsAt i5 ((i6 + (x1.toNat * 9)) + 1) 5 = some [(.int .i64 n40), (.int .u64 n41), (.slice a42 i43 0), (.int .i64 n44), (.int .i64 n45)] ∧
 CA en F.crossbarref11_Maps_Do [(.pointer a39), (.int .i64 1), (.agg #[(.int .i64 n40), (.int .u64 n41), (.slice a42 i43 0), (.int .i64 n44), (.int .i64 n45)])] ((H36.bump 11).set (H36.next + 9) (.cells true 0 [(.int .i64 0), (.slice none 0 0), (.int .u64 0), (.int .i64 0)])) fun v46 H47 =>
 ∃ n48, ∃ a49 i50, ∃ n51, ∃ n52, v46 = (.agg #[(.int .i64 n48), (.slice a49 i50 0), (.int .u64 n51), (.int .i64 n52)]) ∧
 stc H47 (H36.next + 9) 0 [(.int .i64 n48), (.slice a49 i50 0), (.int .u64 n51), (.int .i64 n52)] fun H53 =>
 (
 ∃ n56, (H53.bump 34).cell i34 0 = some (.int .i64 n56) ∧
 ∃ n57, (H53.bump 34).cell (H36.next + 9) 0 = some (.int .i64 n57) ∧
 bif (n56 != n57) then (
 (
 R (.bool false) (H53.bump 34)) ∧
 True)
 else (
 ∃ n58, (H53.bump 34).cell i34 2 = some (.int .u64 n58) ∧
 bif (n58 != 0) then (
 (
 R (.bool false) (H53.bump 34)) ∧
 True)
 else (
 ∃ n59, (H53.bump 34).cell i34 3 = some (.int .i64 n59) ∧
 bif (n59 != 0) then (
 (
 R (.bool false) (H53.bump 34)) ∧
 True)
 else (
 ∃ a60 i61, (H53.bump 34).cell i34 1 = some (.slice a60 i61 0) ∧
 ∃ a62 i63, (H53.bump 34).cell (H36.next + 9) 1 = some (.slice a62 i63 0) ∧
 CA en F.crossbarkit_SameWords [(.slice a60 i61 0), (.slice a62 i63 0)] (H53.bump 34) fun v64 H65 =>
 ∃ b66, v64 = (.bool b66) ∧
 bif (!b66) then (
 (
 R (.bool false) H65) ∧
 True)
 else (
 ∃ n67, H65.cell i5 ((i6 + (x1.toNat * 9)) + 8) = some (.int .i64 n67) ∧
 AS.asAddr (.pointer x0) fun i68 i69 =>
 ∃ n70, H65.cell i68 (i69 + 6) = some (.int .i64 n70) ∧
 (
 bif (decide (n67 < n70)) then (
 R (.bool false) H65)
 else (
 ∃ n71, H65.cell i5 ((i6 + (x1.toNat * 9)) + 8) = some (.int .i64 n71) ∧
 AS.asAddr (.pointer x0) fun i72 i73 =>
 stc H65 i72 (i73 + 6) [(.int .i64 n71)] fun H74 =>
 ∃ a75 i76, H74.cell i34 1 = some (.slice a75 i76 0) ∧
 CA en F.crossbarkit_SpoilWords [(.slice a75 i76 0)] H74 fun v77 H78 =>
 v77 = undef ∧
 bif b17 then (
 ∃ b79, H78.cell i5 ((i6 + (x1.toNat * 9)) + 7) = some (.bool b79) ∧
 bif (!b79) then (
 R (.bool false) H78)
 else (
 stc H78 i5 (i6 + (x1.toNat * 9)) [(.pointer none)] fun H80 =>
 R (.bool true) H80))
 else (
 R (.bool true) H78))) ∧
 True))))) ∧
 ((∃ c55, ((H36.bump 11).set (H36.next + 9) (.cells true 0 [(.int .i64 0), (.slice none 0 0), (.int .u64 0), (.int .i64 0)])).get (H36.next + 9) = some (.cells true 0 c55) ∧ sameN.sameL 8 [(.int .i64 0), (.slice none 0 0), (.int .u64 0), (.int .i64 0)] c55 = true) ∧ (∃ c54, H47.get (H36.next + 9) = some (.cells true 0 c54) ∧ sameN.sameL 8 [(.int .i64 0), (.slice none 0 0), (.int .u64 0), (.int .i64 0)] c54 = true) ∧ True) ∧
 True)
 else (
 bif b17 then (
 ∃ b81, H22.cell i5 ((i6 + (x1.toNat * 9)) + 7) = some (.bool b81) ∧
 bif (!b81) then (
 R (.bool false) H22)
 else (
 stc H22 i5 (i6 + (x1.toNat * 9)) [(.pointer none)] fun H82 =>
 R (.bool true) H82))
 else (
 R (.bool true) H22))))
 else (
 bif b16 then (
 stc H22 i5 ((i6 + (x1.toNat * 9)) + 7) [(.bool true)] fun H83 =>
 ∃ a84, H83.cell i5 (i6 + (x1.toNat * 9)) = some (.pointer a84) ∧
 CA en F.ring_Run_Result [(.pointer a84)] H83 fun v85 H86 =>
 ∃ n87, ∃ a88 i89, ∃ n90, ∃ n91, v85 = (.agg #[(.int .i64 n87), (.slice a88 i89 0), (.int .u64 n90), (.int .i64 n91)]) ∧
 nwH H86 (.cells true 0 [(.int .i64 0), (.slice none 0 0), (.int .u64 0), (.int .i64 0)]) fun i92 H93 =>
 stc H93 i92 0 [(.int .i64 n87), (.slice a88 i89 0), (.int .u64 n90), (.int .i64 n91)] fun H94 =>
 AS.asAddr (.pointer x0) fun i95 i96 =>
 ∃ a97, ((H94.bump 11).set (H94.next + 9) (.cells true 0 [(.int .i64 0), (.slice none 0 0), (.int .u64 0), (.int .i64 0)])).cell i95 (i96 + 3) = some (.pointer a97) ∧
 ∃ n98, ∃ n99, ∃ a100 i101, ∃ n102, ∃ n103, ((H94.bump 11).set (H94.next + 9) (.cells true 0 [(.int .i64 0), (.slice none 0 0), (.int .u64 0), (.int .i64 0)])).cellsAt i5 ((i6 + (x1.toNat * 9)) + 1) 5 = some [(.int .i64 n98), (.int .u64 n99), (.slice a100 i101 0), (.int .i64 n102), (.int .i64 n103)] ∧
 CA en F.crossbarref11_Maps_Do [(.pointer a97), (.int .i64 1), (.agg #[(.int .i64 n98), (.int .u64 n99), (.slice a100 i101 0), (.int .i64 n102), (.int .i64 n103)])] ((H94.bump 11).set (H94.next + 9) (.cells true 0 [(.int .i64 0), (.slice none 0 0), (.int .u64 0), (.int .i64 0)])) fun v104 H105 =>
 ∃ n106, ∃ a107 i108, ∃ n109, ∃ n110, v104 = (.agg #[(.int .i64 n106), (.slice a107 i108 0), (.int .u64 n109), (.int .i64 n110)]) ∧
 stc H105 (H94.next + 9) 0 [(.int .i64 n106), (.slice a107 i108 0), (.int .u64 n109), (.int .i64 n110)] fun H111 =>
 (
 ∃ n114, (H111.bump 34).cell i92 0 = some (.int .i64 n114) ∧
 ∃ n115, (H111.bump 34).cell (H94.next + 9) 0 = some (.int .i64 n115) ∧
 bif (n114 != n115) then (
 (
 R (.bool false) (H111.bump 34)) ∧
 True)
 else (
 ∃ n116, (H111.bump 34).cell i92 2 = some (.int .u64 n116) ∧
 bif (n116 != 0) then (
 (
 R (.bool false) (H111.bump 34)) ∧
 True)
 else (
 ∃ n117, (H111.bump 34).cell i92 3 = some (.int .i64 n117) ∧
 bif (n117 != 0) then (
 (
 R (.bool false) (H111.bump 34)) ∧
 True)
 else (
 ∃ a118 i119, (H111.bump 34).cell i92 1 = some (.slice a118 i119 0) ∧
 ∃ a120 i121, (H111.bump 34).cell (H94.next + 9) 1 = some (.slice a120 i121 0) ∧
 CA en F.crossbarkit_SameWords [(.slice a118 i119 0), (.slice a120 i121 0)] (H111.bump 34) fun v122 H123 =>
 ∃ b124, v122 = (.bool b124) ∧
 bif (!b124) then (
 (
 R (.bool false) H123) ∧
 True)
 else (
 ∃ n125, H123.cell i5 ((i6 + (x1.toNat * 9)) + 8) = some (.int .i64 n125) ∧
 AS.asAddr (.pointer x0) fun i126 i127 =>
 ∃ n128, H123.cell i126 (i127 + 6) = some (.int .i64 n128) ∧
 (
 bif (decide (n125 < n128)) then (
 R (.bool false) H123)
 else (
 ∃ n129, H123.cell i5 ((i6 + (x1.toNat * 9)) + 8) = some (.int .i64 n129) ∧
 AS.asAddr (.pointer x0) fun i130 i131 =>
 stc H123 i130 (i131 + 6) [(.int .i64 n129)] fun H132 =>
 ∃ a133 i134, H132.cell i92 1 = some (.slice a133 i134 0) ∧
 CA en F.crossbarkit_SpoilWords [(.slice a133 i134 0)] H132 fun v135 H136 =>
 v135 = undef ∧
 bif b17 then (
 ∃ b137, H136.cell i5 ((i6 + (x1.toNat * 9)) + 7) = some (.bool b137) ∧
 bif (!b137) then (
 R (.bool false) H136)
 else (
 stc H136 i5 (i6 + (x1.toNat * 9)) [(.pointer none)] fun H138 =>
 R (.bool true) H138))
 else (
 R (.bool true) H136))) ∧
 True))))) ∧
 ((∃ c113, ((H94.bump 11).set (H94.next + 9) (.cells true 0 [(.int .i64 0), (.slice none 0 0), (.int .u64 0), (.int .i64 0)])).get (H94.next + 9) = some (.cells true 0 c113) ∧ sameN.sameL 8 [(.int .i64 0), (.slice none 0 0), (.int .u64 0), (.int .i64 0)] c113 = true) ∧ (∃ c112, H105.get (H94.next + 9) = some (.cells true 0 c112) ∧ sameN.sameL 8 [(.int .i64 0), (.slice none 0 0), (.int .u64 0), (.int .i64 0)] c112 = true) ∧ True) ∧
 True)
 else (
 bif b17 then (
 ∃ b139, H22.cell i5 ((i6 + (x1.toNat * 9)) + 7) = some (.bool b139) ∧
 bif (!b139) then (
 R (.bool false) H22)
 else (
 stc H22 i5 (i6 + (x1.toNat * 9)) [(.pointer none)] fun H140 =>
 R (.bool true) H140))
 else (
 R (.bool true) H22))))) →
    CA en F.crossbarlaw17_play_step [(.pointer x0), (.int .i64 x1)] H R := by
  intro h
  refine wpFn_ok (Z := []) (fn := Go.Proofs.Tryz.f23) ?_ ?_ ?_
  · kernel_rfl
  · kernel_rfl
  · apply turnInto h
    kernel_rfl


/-! crossbarlaw17_begun -/

theorem vc_crossbarlaw17_begun (x0_0 : Bool) (x0_1 : Int) (x0_2 : Int) (x0_3 : Option Addr) (x0_3l : Nat) (x0_4 : Option Addr) (x0_4l : Nat) (H : Heap) (R : Value → Heap → Prop) :
    (
 nwH H (.cells true 0 [(.bool x0_0), (.int .i64 x0_1), (.int .i64 x0_2), (.slice x0_3 x0_3l 0), (.slice x0_4 x0_4l 0)]) fun i1 H2 =>
 ∃ b3, H2.cell i1 0 = some (.bool b3) ∧
 ∃ n4, H2.cell i1 1 = some (.int .i64 n4) ∧
 ∃ n5, H2.cell i1 2 = some (.int .i64 n5) ∧
 CA en F.crossbarref17_Decl [(.bool b3), (.int .i64 n4), (.int .i64 n5)] H2 fun v6 H7 =>
 ∃ n8, ∃ n9, ∃ n10, ∃ n11, ∃ n12, v6 = (.agg #[(.int .i64 n8), (.int .i64 n9), (.int .i64 n10), (.int .i64 n11), (.int .i64 n12)]) ∧
 nwH H7 (.cells true 5 [(.int .i64 n8), (.int .i64 n9), (.int .i64 n10), (.int .i64 n11), (.int .i64 n12)]) fun i13 H14 =>
 CA en F.smem_New [(.int .i64 1024)] H14 fun v15 H16 =>
 ∃ a17, v15 = (.pointer a17) ∧
 nwH H16 (.cells true 0 [(.slice (some ⟨i13, 0, none⟩) 1 0), (.pointer a17), (.pointer none), (.pointer none), (.slice none 0 0), (.int .i64 0), (.int .i64 0)]) fun i18 H19 =>
 ∃ a20, H19.cell i18 1 = some (.pointer a20) ∧
 bif a20.isNone then (
 R (.pointer none) H19)
 else (
 ∃ a21, (H19.bump 16).cell i18 1 = some (.pointer a21) ∧
 ∃ a22 i23, (H19.bump 16).cell i18 0 = some (.slice a22 i23 0) ∧
 inB 0 i23 ∧
 asRow a22 fun i24 i25 =>
 ∃ n26, ∃ n27, ∃ n28, ∃ n29, ∃ n30, (H19.bump 16).cellsAt i24 i25 5 = some [(.int .i64 n26), (.int .i64 n27), (.int .i64 n28), (.int .i64 n29), (.int .i64 n30)] ∧
 CA en F.ring_New [(.pointer a21), (.agg #[(.int .i64 n26), (.int .i64 n27), (.int .i64 n28), (.int .i64 n29), (.int .i64 n30)])] (H19.bump 16) fun v31 H32 =>
 ∃ a33, ∃ n34, v31 = (.tuple #[(.pointer a33), (.int .i64 n34)]) ∧
 (
 ∃ a35 i36, H32.cell i18 0 = some (.slice a35 i36 0) ∧
 CA en F.crossbarref11_New [(.slice a35 i36 0), (.int .i64 1)] H32 fun v37 H38 =>
 ∃ a39, ∃ n40, v37 = (.tuple #[(.pointer a39), (.int .i64 n40)]) ∧
 bif (n34 != 0) then (
 R (.pointer none) H38)
 else (
 bif (n40 != 0) then (
 R (.pointer none) H38)
 else (
 bif a33.isNone then (
 R (.pointer none) H38)
 else (
 stc H38 i18 2 [(.pointer a33)] fun H41 =>
 stc H41 i18 3 [(.pointer a39)] fun H42 =>
 ∃ a43 i44, H42.cell i1 3 = some (.slice a43 i44 0) ∧
 okLen 88 ((i44 : Nat) : Int) ((i44 : Nat) : Int) ∧
 nwH H42 (.cells true 9 (reps ((i44 : Nat) : Int).toNat [(.pointer none), (.int .i64 0), (.int .u64 0), (.slice none 0 0), (.int .i64 0), (.int .i64 0), (.int .i64 0), (.bool false), (.int .i64 0)])) fun i45 H46 =>
 stc H46 i18 4 [(.slice (some ⟨i45, 0, none⟩) ((i44 : Nat) : Int).toNat 0)] fun H47 =>
 R (.pointer (some ⟨i18, 0, none⟩)) H47)))) ∧
 True)) →
    CA en F.crossbarlaw17_begun [(.agg #[(.bool x0_0), (.int .i64 x0_1), (.int .i64 x0_2), (.slice x0_3 x0_3l 0), (.slice x0_4 x0_4l 0)])] H R := by
  intro h
  refine wpFn_ok (Z := []) (fn := Go.Proofs.Tryz.f6) ?_ ?_ ?_
  · kernel_rfl
  · kernel_rfl
  · apply turnInto h
    kernel_rfl


/-! crossbarlaw17_RingAgrees -/
noncomputable def L_crossbarlaw17_RingAgrees_0 : Code := loopAt Go.Proofs.Tryz.f3 0
noncomputable def L_crossbarlaw17_RingAgrees_1 : Code := loopAt Go.Proofs.Tryz.f3 1

theorem vc_crossbarlaw17_RingAgrees (x0_0 : Bool) (x0_1 : Int) (x0_2 : Int) (x0_3 : Option Addr) (x0_3l : Nat) (x0_4 : Option Addr) (x0_4l : Nat) (H : Heap) (R : Value → Heap → Prop) :
    (
 nwH H (.cells true 0 [(.bool x0_0), (.int .i64 x0_1), (.int .i64 x0_2), (.slice x0_3 x0_3l 0), (.slice x0_4 x0_4l 0)]) fun i1 H2 =>
 ∃ a3 i4, H2.cell i1 3 = some (.slice a3 i4 0) ∧
 ∃ a5 i6, H2.cell i1 4 = some (.slice a5 i6 0) ∧
 CA en F.crossbarref13_Great [(.slice a3 i4 0), (.slice a5 i6 0)] H2 fun v7 H8 =>
 ∃ b9, v7 = (.bool b9) ∧
 bif b9 then (
 CA en F.crossbarlaw17_works [] H8 fun v10 H11 =>
 ∃ b12, v10 = (.bool b12) ∧
 R (.bool b12) H11)
 else (
 ∃ b13, ∃ n14, ∃ n15, ∃ a16 i17, ∃ a18 i19, H8.cellsAt i1 0 5 = some [(.bool b13), (.int .i64 n14), (.int .i64 n15), (.slice a16 i17 0), (.slice a18 i19 0)] ∧
 CA en F.crossbarlaw17_begun [(.agg #[(.bool b13), (.int .i64 n14), (.int .i64 n15), (.slice a16 i17 0), (.slice a18 i19 0)])] H8 fun v20 H21 =>
 ∃ a22, v20 = (.pointer a22) ∧
 bif a22.isNone then (
 R (.bool false) H21)
 else (
 ∃ a23 i24, H21.cell i1 3 = some (.slice a23 i24 0) ∧
 LA en L_crossbarlaw17_RingAgrees_0 [(.agg #[(.bool x0_0), (.int .i64 x0_1), (.int .i64 x0_2), (.slice x0_3 x0_3l 0), (.slice x0_4 x0_4l 0)]), (.pointer (some ⟨i1, 0, none⟩)), (.bool false), (.pointer a22), (.int .i64 ((i24 : Nat) : Int)), (.int .i64 0), (.int .i64 0), undef, undef, undef, (.pointer (some ⟨i1, 3, none⟩)), (.slice a3 i4 0), (.pointer (some ⟨i1, 4, none⟩)), (.slice a5 i6 0), (.bool false), undef, (.agg #[(.bool b13), (.int .i64 n14), (.int .i64 n15), (.slice a16 i17 0), (.slice a18 i19 0)]), (.pointer a22), (.pointer a22), (.bool false), (.pointer (some ⟨i1, 3, none⟩)), (.slice a23 i24 0), (.int .i64 ((i24 : Nat) : Int)), undef, undef, undef, undef, undef, undef, undef, undef, undef, undef, undef, undef, undef, undef, undef, undef, undef, undef, undef, undef, undef, undef, undef, undef, undef, undef, undef, undef, undef, undef, undef, undef, undef, undef, undef, undef, undef, undef, undef, undef, undef, undef, undef, undef, undef, undef, undef, undef, undef, undef, undef, undef, undef, undef, undef, undef, undef, undef, undef, undef, undef, undef, undef, undef] H21 [(X.exit 0, fun (y25 : Fr) (H26 : Heap) =>
 AS.asInt .i64 (y25.getD 5 undef) fun n27 =>
 ∃ a28 i29, (H26.bump 14).cell i1 4 = some (.slice a28 i29 0) ∧
 AS.asAddr (.pointer a22) fun i30 i31 =>
 ∃ a32 i33, (H26.bump 14).cell i30 i31 = some (.slice a32 i33 0) ∧
 CA en F.crossbarkit_Rounds [(.slice a32 i33 0), (.int .i64 (IntKind.i64.wrap (2 * n27)))] (H26.bump 14) fun v34 H35 =>
 ∃ n36, v34 = (.int .i64 n36) ∧
 (
 LA en L_crossbarlaw17_RingAgrees_1 [(.agg #[(.bool x0_0), (.int .i64 x0_1), (.int .i64 x0_2), (.slice x0_3 x0_3l 0), (.slice x0_4 x0_4l 0)]), (.pointer (some ⟨i1, 0, none⟩)), (.bool false), (.pointer a22), (.int .i64 ((i24 : Nat) : Int)), (.int .i64 n27), (y25.getD 6 undef), (.int .i64 (IntKind.i64.wrap (((i29 : Nat) : Int) + (IntKind.i64.wrap (((i24 : Nat) : Int) * n36))))), (.int .i64 0), undef, (.pointer (some ⟨i1, 3, none⟩)), (.slice a3 i4 0), (.pointer (some ⟨i1, 4, none⟩)), (.slice a5 i6 0), (.bool false), undef, (.agg #[(.bool b13), (.int .i64 n14), (.int .i64 n15), (.slice a16 i17 0), (.slice a18 i19 0)]), (.pointer a22), (.pointer a22), (.bool false), (.pointer (some ⟨i1, 3, none⟩)), (.slice a23 i24 0), (.int .i64 ((i24 : Nat) : Int)), (y25.getD 23 undef), (y25.getD 24 undef), (y25.getD 25 undef), (y25.getD 26 undef), (y25.getD 27 undef), (y25.getD 28 undef), (y25.getD 29 undef), (y25.getD 30 undef), (y25.getD 31 undef), (y25.getD 32 undef), (y25.getD 33 undef), (y25.getD 34 undef), (y25.getD 35 undef), (.pointer (some ⟨i1, 4, none⟩)), (.slice a28 i29 0), (.int .i64 ((i29 : Nat) : Int)), (.int .i64 ((i24 : Nat) : Int)), (.pointer a22), (.pointer (some ⟨i30, i31, none⟩)), (.pointer (some ⟨i30, i31, none⟩)), (.slice a32 i33 0), (.int .i64 n27), (.int .i64 (IntKind.i64.wrap (2 * n27))), (.int .i64 n36), (.int .i64 (IntKind.i64.wrap (((i24 : Nat) : Int) * n36))), (.int .i64 (IntKind.i64.wrap (((i29 : Nat) : Int) + (IntKind.i64.wrap (((i24 : Nat) : Int) * n36))))), undef, undef, undef, undef, undef, undef, undef, undef, undef, undef, undef, undef, undef, undef, undef, undef, undef, undef, undef, undef, undef, undef, undef, undef, undef, undef, undef, undef, undef, undef, undef, undef, undef, undef, undef, undef, undef, undef] H35 [(X.exit 2, fun (y41 : Fr) (H42 : Heap) =>
 AS.asBool (y41.getD 2 undef) fun b43 =>
 R (.bool false) H42),
 (X.ret, fun (y44 : Fr) (H45 : Heap) =>
 AS.asBool (y44.getD 2 undef) fun b46 =>
 R (.bool b46) H45)]) ∧
 ((((i29 : Nat) : Int) = ((i29 : Nat) : Int)) ∧ (((i29 : Nat) : Int) = ((i29 : Nat) : Int)) ∧ True) ∧
 ((∃ a39 i40, (H26.bump 14).cell i1 4 = some (.slice a39 i40 0) ∧
 (a28 = a39 ∧ i29 = i40 ∧ 0 = 0)) ∧ (∃ a37 i38, H35.cell i1 4 = some (.slice a37 i38 0) ∧
 (a28 = a37 ∧ i29 = i38 ∧ 0 = 0)) ∧ True) ∧
 True)]))) →
    CA en F.crossbarlaw17_RingAgrees [(.agg #[(.bool x0_0), (.int .i64 x0_1), (.int .i64 x0_2), (.slice x0_3 x0_3l 0), (.slice x0_4 x0_4l 0)])] H R := by
  intro h
  refine wpFn_ok (Z := [[(5, (.int .i64 0))], [(2, (.bool false))]]) (fn := Go.Proofs.Tryz.f3) ?_ ?_ ?_
  · kernel_rfl
  · kernel_rfl
  · apply turnInto h
    kernel_rfl

theorem use_crossbarlaw17_RingAgrees_0 {t0_0 : Bool} {t0_1 : Int} {t0_2 : Int} {t0_3 : Option Addr} {t0_3l : Nat} {t0_4 : Option Addr} {t0_4l : Nat} {t1 : Nat} {t3 : Option Addr} {t4 : Int} {t10 : Nat} {t11 : Option Addr} {t11l : Nat} {t12 : Nat} {t13 : Option Addr} {t13l : Nat} {t16_0 : Bool} {t16_1 : Int} {t16_2 : Int} {t16_3 : Option Addr} {t16_3l : Nat} {t16_4 : Option Addr} {t16_4l : Nat} {t17 : Option Addr} {t18 : Option Addr} {t20 : Nat} {t21 : Option Addr} {t21l : Nat} {t22 : Int} {K0 : Fr → Heap → Prop} {t5 : Int} {t6 : Int} {t23 : Value} {t24 : Value} {t25 : Value} {t26 : Value} {t27 : Value} {t28 : Value} {t29 : Value} {t30 : Value} {t31 : Value} {t32 : Value} {t33 : Value} {t34 : Value} {t35 : Value} {H : Heap} (I : Nat → Int → Int → Heap → Prop) (n : Nat) (h0 : I n t5 t6 H)
    (hstep : ∀ (n : Nat) (t5 : Int) (t6 : Int) (ys : Fr) (H : Heap), I n t5 t6 H →
    (
 bif (decide (t6 < t4)) then (
 ∃ a1 i2, H.cell t1 3 = some (.slice a1 i2 0) ∧
 inB t6 i2 ∧
 asRow a1 fun i3 i4 =>
 ∃ a5 i6, H.cell i3 (i4 + (t6.toNat * 1)) = some (.slice a5 i6 0) ∧
 ∃ k7, k7 < n ∧
 I k7 (IntKind.i64.wrap (t5 + ((i6 : Nat) : Int))) (IntKind.i64.wrap (t6 + 1)) H)
 else (
 K0 [(.agg #[(.bool t0_0), (.int .i64 t0_1), (.int .i64 t0_2), (.slice t0_3 t0_3l 0), (.slice t0_4 t0_4l 0)]), (.pointer (some ⟨t1, 0, none⟩)), (.bool false), (.pointer t3), (.int .i64 t4), (.int .i64 t5), (.int .i64 t6), undef, undef, undef, (.pointer (some ⟨t10, 3, none⟩)), (.slice t11 t11l 0), (.pointer (some ⟨t12, 4, none⟩)), (.slice t13 t13l 0), (.bool false), undef, (.agg #[(.bool t16_0), (.int .i64 t16_1), (.int .i64 t16_2), (.slice t16_3 t16_3l 0), (.slice t16_4 t16_4l 0)]), (.pointer t17), (.pointer t18), (.bool false), (.pointer (some ⟨t20, 3, none⟩)), (.slice t21 t21l 0), (.int .i64 t22), (.int .i64 t6), (.int .i64 t4), (.bool false), (ys.getD 26 undef), (ys.getD 27 undef), (ys.getD 28 undef), (ys.getD 29 undef), (ys.getD 30 undef), (ys.getD 31 undef), (ys.getD 32 undef), (ys.getD 33 undef), (ys.getD 34 undef), (ys.getD 35 undef), undef, undef, undef, undef, undef, undef, undef, undef, undef, undef, undef, undef, undef, undef, undef, undef, undef, undef, undef, undef, undef, undef, undef, undef, undef, undef, undef, undef, undef, undef, undef, undef, undef, undef, undef, undef, undef, undef, undef, undef, undef, undef, undef, undef, undef, undef, undef, undef, undef, undef, undef] H))) :
    LA en L_crossbarlaw17_RingAgrees_0 [(.agg #[(.bool t0_0), (.int .i64 t0_1), (.int .i64 t0_2), (.slice t0_3 t0_3l 0), (.slice t0_4 t0_4l 0)]), (.pointer (some ⟨t1, 0, none⟩)), (.bool false), (.pointer t3), (.int .i64 t4), (.int .i64 t5), (.int .i64 t6), undef, undef, undef, (.pointer (some ⟨t10, 3, none⟩)), (.slice t11 t11l 0), (.pointer (some ⟨t12, 4, none⟩)), (.slice t13 t13l 0), (.bool false), undef, (.agg #[(.bool t16_0), (.int .i64 t16_1), (.int .i64 t16_2), (.slice t16_3 t16_3l 0), (.slice t16_4 t16_4l 0)]), (.pointer t17), (.pointer t18), (.bool false), (.pointer (some ⟨t20, 3, none⟩)), (.slice t21 t21l 0), (.int .i64 t22), t23, t24, t25, t26, t27, t28, t29, t30, t31, t32, t33, t34, t35, undef, undef, undef, undef, undef, undef, undef, undef, undef, undef, undef, undef, undef, undef, undef, undef, undef, undef, undef, undef, undef, undef, undef, undef, undef, undef, undef, undef, undef, undef, undef, undef, undef, undef, undef, undef, undef, undef, undef, undef, undef, undef, undef, undef, undef, undef, undef, undef, undef, undef, undef] H [(X.exit 0, K0)] := by
  refine LA_rule (Z := []) (fun m xs H' => AS.asInt .i64 (xs.getD 5 undef) fun t5 => AS.asInt .i64 (xs.getD 6 undef) fun t6 => I m t5 t6 H') ?_ n H ?_
  · intro n H
    suffices hs : ∀ s23 : Value, ∀ s24 : Value, ∀ s25 : Value, ∀ s28 : Value, ∀ s29 : Value, ∀ s30 : Value, ∀ s31 : Value, ∀ s32 : Value, ∀ s33 : Value, ∀ s34 : Value, ∀ s35 : Value, ∀ s5 : Value, ∀ s26 : Value, ∀ s27 : Value, ∀ s6 : Value, ((AS.asInt .i64 s5 fun t5 => AS.asInt .i64 s6 fun t6 => I n t5 t6 H) → wpCode en L_crossbarlaw17_RingAgrees_0 [] [(.agg #[(.bool t0_0), (.int .i64 t0_1), (.int .i64 t0_2), (.slice t0_3 t0_3l 0), (.slice t0_4 t0_4l 0)]), (.pointer (some ⟨t1, 0, none⟩)), (.bool false), (.pointer t3), (.int .i64 t4), s5, s6, undef, undef, undef, (.pointer (some ⟨t10, 3, none⟩)), (.slice t11 t11l 0), (.pointer (some ⟨t12, 4, none⟩)), (.slice t13 t13l 0), (.bool false), undef, (.agg #[(.bool t16_0), (.int .i64 t16_1), (.int .i64 t16_2), (.slice t16_3 t16_3l 0), (.slice t16_4 t16_4l 0)]), (.pointer t17), (.pointer t18), (.bool false), (.pointer (some ⟨t20, 3, none⟩)), (.slice t21 t21l 0), (.int .i64 t22), s23, s24, s25, s26, s27, s28, s29, s30, s31, s32, s33, s34, s35, undef, undef, undef, undef, undef, undef, undef, undef, undef, undef, undef, undef, undef, undef, undef, undef, undef, undef, undef, undef, undef, undef, undef, undef, undef, undef, undef, undef, undef, undef, undef, undef, undef, undef, undef, undef, undef, undef, undef, undef, undef, undef, undef, undef, undef, undef, undef, undef, undef, undef, undef] H (loopQ (fun m xs H' => AS.asInt .i64 (xs.getD 5 undef) fun t5 => AS.asInt .i64 (xs.getD 6 undef) fun t6 => I m t5 t6 H') n [(X.exit 0, K0)])) by
      apply turnInto hs
      kernel_rfl
    intro s23 s24 s25 s28 s29 s30 s31 s32 s33 s34 s35 s5 s26 s27 s6 hP
    replace hP := asInt_elim hP
    obtain ⟨t5, rfl, hP⟩ := hP
    replace hP := asInt_elim hP
    obtain ⟨t6, rfl, hP⟩ := hP
    apply turnInto (hstep n t5 t6 [(.agg #[(.bool t0_0), (.int .i64 t0_1), (.int .i64 t0_2), (.slice t0_3 t0_3l 0), (.slice t0_4 t0_4l 0)]), (.pointer (some ⟨t1, 0, none⟩)), (.bool false), (.pointer t3), (.int .i64 t4), (.int .i64 t5), (.int .i64 t6), undef, undef, undef, (.pointer (some ⟨t10, 3, none⟩)), (.slice t11 t11l 0), (.pointer (some ⟨t12, 4, none⟩)), (.slice t13 t13l 0), (.bool false), undef, (.agg #[(.bool t16_0), (.int .i64 t16_1), (.int .i64 t16_2), (.slice t16_3 t16_3l 0), (.slice t16_4 t16_4l 0)]), (.pointer t17), (.pointer t18), (.bool false), (.pointer (some ⟨t20, 3, none⟩)), (.slice t21 t21l 0), (.int .i64 t22), s23, s24, s25, s26, s27, s28, s29, s30, s31, s32, s33, s34, s35, undef, undef, undef, undef, undef, undef, undef, undef, undef, undef, undef, undef, undef, undef, undef, undef, undef, undef, undef, undef, undef, undef, undef, undef, undef, undef, undef, undef, undef, undef, undef, undef, undef, undef, undef, undef, undef, undef, undef, undef, undef, undef, undef, undef, undef, undef, undef, undef, undef, undef, undef] H hP)
    kernel_rfl
  · apply turnInto h0
    kernel_rfl

theorem use_crossbarlaw17_RingAgrees_1 {t0_0 : Bool} {t0_1 : Int} {t0_2 : Int} {t0_3 : Option Addr} {t0_3l : Nat} {t0_4 : Option Addr} {t0_4l : Nat} {t1 : Nat} {t3 : Option Addr} {t4 : Int} {t5 : Int} {t6 : Value} {t7 : Int} {t10 : Nat} {t11 : Option Addr} {t11l : Nat} {t12 : Nat} {t13 : Option Addr} {t13l : Nat} {t16_0 : Bool} {t16_1 : Int} {t16_2 : Int} {t16_3 : Option Addr} {t16_3l : Nat} {t16_4 : Option Addr} {t16_4l : Nat} {t17 : Option Addr} {t18 : Option Addr} {t20 : Nat} {t21 : Option Addr} {t21l : Nat} {t22 : Int} {t23 : Value} {t24 : Value} {t25 : Value} {t26 : Value} {t27 : Value} {t28 : Value} {t29 : Value} {t30 : Value} {t31 : Value} {t32 : Value} {t33 : Value} {t34 : Value} {t35 : Value} {t36 : Nat} {t37 : Option Addr} {t37l : Nat} {t38 : Int} {t39 : Int} {t40 : Option Addr} {t41 : Nat} {t41o : Nat} {t42 : Nat} {t42o : Nat} {t43 : Option Addr} {t43l : Nat} {t44 : Int} {t45 : Int} {t46 : Int} {t47 : Int} {t48 : Int} {K0 : Fr → Heap → Prop} {K1 : Fr → Heap → Prop} {t2 : Bool} {t8 : Int} {t9 : Value} {t49 : Value} {t50 : Value} {t51 : Value} {t52 : Value} {t53 : Value} {t54 : Value} {t55 : Value} {t56 : Value} {t57 : Value} {t58 : Value} {t59 : Value} {t60 : Value} {t61 : Value} {t62 : Value} {t63 : Value} {t64 : Value} {t65 : Value} {t66 : Value} {t67 : Value} {t68 : Value} {t69 : Value} {t70 : Value} {t71 : Value} {t72 : Value} {t73 : Value} {t74 : Value} {t75 : Value} {t76 : Value} {t77 : Value} {t78 : Value} {t79 : Value} {t80 : Value} {t81 : Value} {t82 : Value} {t83 : Value} {t84 : Value} {t85 : Value} {t86 : Value} {H : Heap} (I : Nat → Bool → Int → Heap → Prop) (n : Nat) (h0 : I n t2 t8 H)
    (hstep : ∀ (n : Nat) (t2 : Bool) (t8 : Int) (ys : Fr) (H : Heap), I n t2 t8 H →
    (
 bif (decide (t8 ≤ t7)) then (
 ∃ a1 i2, H.cell t1 4 = some (.slice a1 i2 0) ∧
 CA en F.crossbarref13_Turn [(.slice a1 i2 0), (.int .i64 t8), (.int .i64 t4)] H fun v3 H4 =>
 ∃ n5, v3 = (.int .i64 n5) ∧
 ∃ a6 i7, H4.cell t1 3 = some (.slice a6 i7 0) ∧
 inB n5 i7 ∧
 asRow a6 fun i8 i9 =>
 ∃ a10 i11, H4.cell i8 (i9 + (n5.toNat * 1)) = some (.slice a10 i11 0) ∧
 CA en F.crossbarlaw17_play_turn [(.pointer t3), (.int .i64 n5), (.slice a10 i11 0)] H4 fun v12 H13 =>
 ∃ b14, v12 = (.bool b14) ∧
 bif (!b14) then (
 K1 [(.agg #[(.bool t0_0), (.int .i64 t0_1), (.int .i64 t0_2), (.slice t0_3 t0_3l 0), (.slice t0_4 t0_4l 0)]), (.pointer (some ⟨t1, 0, none⟩)), (.bool false), (.pointer t3), (.int .i64 t4), (.int .i64 t5), t6, (.int .i64 t7), (.int .i64 t8), (.int .i64 n5), (.pointer (some ⟨t10, 3, none⟩)), (.slice t11 t11l 0), (.pointer (some ⟨t12, 4, none⟩)), (.slice t13 t13l 0), (.bool false), undef, (.agg #[(.bool t16_0), (.int .i64 t16_1), (.int .i64 t16_2), (.slice t16_3 t16_3l 0), (.slice t16_4 t16_4l 0)]), (.pointer t17), (.pointer t18), (.bool false), (.pointer (some ⟨t20, 3, none⟩)), (.slice t21 t21l 0), (.int .i64 t22), t23, t24, t25, t26, t27, t28, t29, t30, t31, t32, t33, t34, t35, (.pointer (some ⟨t36, 4, none⟩)), (.slice t37 t37l 0), (.int .i64 t38), (.int .i64 t39), (.pointer t40), (.pointer (some ⟨t41, t41o, none⟩)), (.pointer (some ⟨t42, t42o, none⟩)), (.slice t43 t43l 0), (.int .i64 t44), (.int .i64 t45), (.int .i64 t46), (.int .i64 t47), (.int .i64 t48), (.int .i64 t8), (.int .i64 t7), (.bool true), (ys.getD 52 undef), (ys.getD 53 undef), (.pointer (some ⟨t1, 4, none⟩)), (.slice a1 i2 0), (.int .i64 t8), (.int .i64 t4), (.int .i64 n5), (.pointer t3), (.int .i64 n5), (.pointer (some ⟨t1, 3, none⟩)), (.slice a6 i7 0), (.int .i64 n5), (.pointer (some ⟨i8, (i9 + (n5.toNat * 1)), none⟩)), (.slice a10 i11 0), (.bool b14), (.bool true), (ys.getD 68 undef), (ys.getD 69 undef), (ys.getD 70 undef), (ys.getD 71 undef), (ys.getD 72 undef), (ys.getD 73 undef), (ys.getD 74 undef), (ys.getD 75 undef), (ys.getD 76 undef), (ys.getD 77 undef), (ys.getD 78 undef), (ys.getD 79 undef), (ys.getD 80 undef), (ys.getD 81 undef), (ys.getD 82 undef), (ys.getD 83 undef), (ys.getD 84 undef), (ys.getD 85 undef), (ys.getD 86 undef)] H13)
 else (
 ∃ a15 i16, H13.cell t1 4 = some (.slice a15 i16 0) ∧
 bif (decide (t8 ≥ ((i16 : Nat) : Int))) then (
 ∃ b17, ∃ n18, ∃ n19, ∃ a20 i21, ∃ a22 i23, H13.cellsAt t1 0 5 = some [(.bool b17), (.int .i64 n18), (.int .i64 n19), (.slice a20 i21 0), (.slice a22 i23 0)] ∧
 CA en F.crossbarlaw17_play_over [(.pointer t3), (.agg #[(.bool b17), (.int .i64 n18), (.int .i64 n19), (.slice a20 i21 0), (.slice a22 i23 0)])] H13 fun v24 H25 =>
 ∃ b26, v24 = (.bool b26) ∧
 bif b26 then (
 AS.asAddr (.pointer t3) fun i27 i28 =>
 ∃ a29, H25.cell i27 (i28 + 1) = some (.pointer a29) ∧
 CA en F.smem_Mem_Bad [(.pointer a29)] H25 fun v30 H31 =>
 ∃ n32, v30 = (.int .i64 n32) ∧
 bif (n32 == 0) then (
 CA en F.crossbarlaw17_works [] H31 fun v33 H34 =>
 ∃ b35, v33 = (.bool b35) ∧
 K1 [(.agg #[(.bool t0_0), (.int .i64 t0_1), (.int .i64 t0_2), (.slice t0_3 t0_3l 0), (.slice t0_4 t0_4l 0)]), (.pointer (some ⟨t1, 0, none⟩)), (.bool b35), (.pointer t3), (.int .i64 t4), (.int .i64 t5), t6, (.int .i64 t7), (.int .i64 t8), (.int .i64 n5), (.pointer (some ⟨t10, 3, none⟩)), (.slice t11 t11l 0), (.pointer (some ⟨t12, 4, none⟩)), (.slice t13 t13l 0), (.bool false), undef, (.agg #[(.bool t16_0), (.int .i64 t16_1), (.int .i64 t16_2), (.slice t16_3 t16_3l 0), (.slice t16_4 t16_4l 0)]), (.pointer t17), (.pointer t18), (.bool false), (.pointer (some ⟨t20, 3, none⟩)), (.slice t21 t21l 0), (.int .i64 t22), t23, t24, t25, t26, t27, t28, t29, t30, t31, t32, t33, t34, t35, (.pointer (some ⟨t36, 4, none⟩)), (.slice t37 t37l 0), (.int .i64 t38), (.int .i64 t39), (.pointer t40), (.pointer (some ⟨t41, t41o, none⟩)), (.pointer (some ⟨t42, t42o, none⟩)), (.slice t43 t43l 0), (.int .i64 t44), (.int .i64 t45), (.int .i64 t46), (.int .i64 t47), (.int .i64 t48), (.int .i64 t8), (.int .i64 t7), (.bool true), (ys.getD 52 undef), (ys.getD 53 undef), (.pointer (some ⟨t1, 4, none⟩)), (.slice a1 i2 0), (.int .i64 t8), (.int .i64 t4), (.int .i64 n5), (.pointer t3), (.int .i64 n5), (.pointer (some ⟨t1, 3, none⟩)), (.slice a6 i7 0), (.int .i64 n5), (.pointer (some ⟨i8, (i9 + (n5.toNat * 1)), none⟩)), (.slice a10 i11 0), (.bool b14), (.bool false), (.int .i64 t8), (.pointer (some ⟨t1, 4, none⟩)), (.slice a15 i16 0), (.int .i64 ((i16 : Nat) : Int)), (.bool (decide (t8 ≥ ((i16 : Nat) : Int)))), (.bool true), (.pointer t3), (.agg #[(.bool b17), (.int .i64 n18), (.int .i64 n19), (.slice a20 i21 0), (.slice a22 i23 0)]), (.bool b26), (.bool true), (.pointer t3), (.pointer (some ⟨i27, i28, none⟩)), (.pointer (some ⟨i27, (i28 + 1), none⟩)), (.pointer a29), (.int .i64 n32), (.bool (n32 == 0)), (.bool true), (.bool b35), (.bool b35)] H34)
 else (
 K1 [(.agg #[(.bool t0_0), (.int .i64 t0_1), (.int .i64 t0_2), (.slice t0_3 t0_3l 0), (.slice t0_4 t0_4l 0)]), (.pointer (some ⟨t1, 0, none⟩)), (.bool false), (.pointer t3), (.int .i64 t4), (.int .i64 t5), t6, (.int .i64 t7), (.int .i64 t8), (.int .i64 n5), (.pointer (some ⟨t10, 3, none⟩)), (.slice t11 t11l 0), (.pointer (some ⟨t12, 4, none⟩)), (.slice t13 t13l 0), (.bool false), undef, (.agg #[(.bool t16_0), (.int .i64 t16_1), (.int .i64 t16_2), (.slice t16_3 t16_3l 0), (.slice t16_4 t16_4l 0)]), (.pointer t17), (.pointer t18), (.bool false), (.pointer (some ⟨t20, 3, none⟩)), (.slice t21 t21l 0), (.int .i64 t22), t23, t24, t25, t26, t27, t28, t29, t30, t31, t32, t33, t34, t35, (.pointer (some ⟨t36, 4, none⟩)), (.slice t37 t37l 0), (.int .i64 t38), (.int .i64 t39), (.pointer t40), (.pointer (some ⟨t41, t41o, none⟩)), (.pointer (some ⟨t42, t42o, none⟩)), (.slice t43 t43l 0), (.int .i64 t44), (.int .i64 t45), (.int .i64 t46), (.int .i64 t47), (.int .i64 t48), (.int .i64 t8), (.int .i64 t7), (.bool true), (ys.getD 52 undef), (ys.getD 53 undef), (.pointer (some ⟨t1, 4, none⟩)), (.slice a1 i2 0), (.int .i64 t8), (.int .i64 t4), (.int .i64 n5), (.pointer t3), (.int .i64 n5), (.pointer (some ⟨t1, 3, none⟩)), (.slice a6 i7 0), (.int .i64 n5), (.pointer (some ⟨i8, (i9 + (n5.toNat * 1)), none⟩)), (.slice a10 i11 0), (.bool b14), (.bool false), (.int .i64 t8), (.pointer (some ⟨t1, 4, none⟩)), (.slice a15 i16 0), (.int .i64 ((i16 : Nat) : Int)), (.bool (decide (t8 ≥ ((i16 : Nat) : Int)))), (.bool true), (.pointer t3), (.agg #[(.bool b17), (.int .i64 n18), (.int .i64 n19), (.slice a20 i21 0), (.slice a22 i23 0)]), (.bool b26), (.bool true), (.pointer t3), (.pointer (some ⟨i27, i28, none⟩)), (.pointer (some ⟨i27, (i28 + 1), none⟩)), (.pointer a29), (.int .i64 n32), (.bool (n32 == 0)), (.bool false), undef, (.bool false)] H31))
 else (
 ∃ k36, k36 < n ∧
 I k36 t2 (IntKind.i64.wrap (t8 + 1)) H25))
 else (
 ∃ k37, k37 < n ∧
 I k37 t2 (IntKind.i64.wrap (t8 + 1)) H13)))
 else (
 K0 [(.agg #[(.bool t0_0), (.int .i64 t0_1), (.int .i64 t0_2), (.slice t0_3 t0_3l 0), (.slice t0_4 t0_4l 0)]), (.pointer (some ⟨t1, 0, none⟩)), (.bool t2), (.pointer t3), (.int .i64 t4), (.int .i64 t5), t6, (.int .i64 t7), (.int .i64 t8), (ys.getD 9 undef), (.pointer (some ⟨t10, 3, none⟩)), (.slice t11 t11l 0), (.pointer (some ⟨t12, 4, none⟩)), (.slice t13 t13l 0), (.bool false), undef, (.agg #[(.bool t16_0), (.int .i64 t16_1), (.int .i64 t16_2), (.slice t16_3 t16_3l 0), (.slice t16_4 t16_4l 0)]), (.pointer t17), (.pointer t18), (.bool false), (.pointer (some ⟨t20, 3, none⟩)), (.slice t21 t21l 0), (.int .i64 t22), t23, t24, t25, t26, t27, t28, t29, t30, t31, t32, t33, t34, t35, (.pointer (some ⟨t36, 4, none⟩)), (.slice t37 t37l 0), (.int .i64 t38), (.int .i64 t39), (.pointer t40), (.pointer (some ⟨t41, t41o, none⟩)), (.pointer (some ⟨t42, t42o, none⟩)), (.slice t43 t43l 0), (.int .i64 t44), (.int .i64 t45), (.int .i64 t46), (.int .i64 t47), (.int .i64 t48), (.int .i64 t8), (.int .i64 t7), (.bool false), (ys.getD 52 undef), (ys.getD 53 undef), (ys.getD 54 undef), (ys.getD 55 undef), (ys.getD 56 undef), (ys.getD 57 undef), (ys.getD 58 undef), (ys.getD 59 undef), (ys.getD 60 undef), (ys.getD 61 undef), (ys.getD 62 undef), (ys.getD 63 undef), (ys.getD 64 undef), (ys.getD 65 undef), (ys.getD 66 undef), (ys.getD 67 undef), (ys.getD 68 undef), (ys.getD 69 undef), (ys.getD 70 undef), (ys.getD 71 undef), (ys.getD 72 undef), (ys.getD 73 undef), (ys.getD 74 undef), (ys.getD 75 undef), (ys.getD 76 undef), (ys.getD 77 undef), (ys.getD 78 undef), (ys.getD 79 undef), (ys.getD 80 undef), (ys.getD 81 undef), (ys.getD 82 undef), (ys.getD 83 undef), (ys.getD 84 undef), (ys.getD 85 undef), (ys.getD 86 undef)] H))) :
    LA en L_crossbarlaw17_RingAgrees_1 [(.agg #[(.bool t0_0), (.int .i64 t0_1), (.int .i64 t0_2), (.slice t0_3 t0_3l 0), (.slice t0_4 t0_4l 0)]), (.pointer (some ⟨t1, 0, none⟩)), (.bool t2), (.pointer t3), (.int .i64 t4), (.int .i64 t5), t6, (.int .i64 t7), (.int .i64 t8), t9, (.pointer (some ⟨t10, 3, none⟩)), (.slice t11 t11l 0), (.pointer (some ⟨t12, 4, none⟩)), (.slice t13 t13l 0), (.bool false), undef, (.agg #[(.bool t16_0), (.int .i64 t16_1), (.int .i64 t16_2), (.slice t16_3 t16_3l 0), (.slice t16_4 t16_4l 0)]), (.pointer t17), (.pointer t18), (.bool false), (.pointer (some ⟨t20, 3, none⟩)), (.slice t21 t21l 0), (.int .i64 t22), t23, t24, t25, t26, t27, t28, t29, t30, t31, t32, t33, t34, t35, (.pointer (some ⟨t36, 4, none⟩)), (.slice t37 t37l 0), (.int .i64 t38), (.int .i64 t39), (.pointer t40), (.pointer (some ⟨t41, t41o, none⟩)), (.pointer (some ⟨t42, t42o, none⟩)), (.slice t43 t43l 0), (.int .i64 t44), (.int .i64 t45), (.int .i64 t46), (.int .i64 t47), (.int .i64 t48), t49, t50, t51, t52, t53, t54, t55, t56, t57, t58, t59, t60, t61, t62, t63, t64, t65, t66, t67, t68, t69, t70, t71, t72, t73, t74, t75, t76, t77, t78, t79, t80, t81, t82, t83, t84, t85, t86] H [(X.exit 2, K0), (X.ret, K1)] := by
  refine LA_rule (Z := []) (fun m xs H' => AS.asBool (xs.getD 2 undef) fun t2 => AS.asInt .i64 (xs.getD 8 undef) fun t8 => I m t2 t8 H') ?_ n H ?_
  · intro n H
    suffices hs : ∀ s49 : Value, ∀ s50 : Value, ∀ s51 : Value, ∀ s54 : Value, ∀ s55 : Value, ∀ s56 : Value, ∀ s57 : Value, ∀ s58 : Value, ∀ s9 : Value, ∀ s59 : Value, ∀ s60 : Value, ∀ s61 : Value, ∀ s62 : Value, ∀ s63 : Value, ∀ s64 : Value, ∀ s65 : Value, ∀ s66 : Value, ∀ s67 : Value, ∀ s2 : Value, ∀ s68 : Value, ∀ s69 : Value, ∀ s70 : Value, ∀ s71 : Value, ∀ s72 : Value, ∀ s73 : Value, ∀ s74 : Value, ∀ s75 : Value, ∀ s76 : Value, ∀ s77 : Value, ∀ s78 : Value, ∀ s79 : Value, ∀ s80 : Value, ∀ s81 : Value, ∀ s82 : Value, ∀ s83 : Value, ∀ s84 : Value, ∀ s85 : Value, ∀ s86 : Value, ∀ s52 : Value, ∀ s53 : Value, ∀ s8 : Value, ((AS.asBool s2 fun t2 => AS.asInt .i64 s8 fun t8 => I n t2 t8 H) → wpCode en L_crossbarlaw17_RingAgrees_1 [] [(.agg #[(.bool t0_0), (.int .i64 t0_1), (.int .i64 t0_2), (.slice t0_3 t0_3l 0), (.slice t0_4 t0_4l 0)]), (.pointer (some ⟨t1, 0, none⟩)), s2, (.pointer t3), (.int .i64 t4), (.int .i64 t5), t6, (.int .i64 t7), s8, s9, (.pointer (some ⟨t10, 3, none⟩)), (.slice t11 t11l 0), (.pointer (some ⟨t12, 4, none⟩)), (.slice t13 t13l 0), (.bool false), undef, (.agg #[(.bool t16_0), (.int .i64 t16_1), (.int .i64 t16_2), (.slice t16_3 t16_3l 0), (.slice t16_4 t16_4l 0)]), (.pointer t17), (.pointer t18), (.bool false), (.pointer (some ⟨t20, 3, none⟩)), (.slice t21 t21l 0), (.int .i64 t22), t23, t24, t25, t26, t27, t28, t29, t30, t31, t32, t33, t34, t35, (.pointer (some ⟨t36, 4, none⟩)), (.slice t37 t37l 0), (.int .i64 t38), (.int .i64 t39), (.pointer t40), (.pointer (some ⟨t41, t41o, none⟩)), (.pointer (some ⟨t42, t42o, none⟩)), (.slice t43 t43l 0), (.int .i64 t44), (.int .i64 t45), (.int .i64 t46), (.int .i64 t47), (.int .i64 t48), s49, s50, s51, s52, s53, s54, s55, s56, s57, s58, s59, s60, s61, s62, s63, s64, s65, s66, s67, s68, s69, s70, s71, s72, s73, s74, s75, s76, s77, s78, s79, s80, s81, s82, s83, s84, s85, s86] H (loopQ (fun m xs H' => AS.asBool (xs.getD 2 undef) fun t2 => AS.asInt .i64 (xs.getD 8 undef) fun t8 => I m t2 t8 H') n [(X.exit 2, K0), (X.ret, K1)])) by
      apply turnInto hs
      kernel_rfl
    intro s49 s50 s51 s54 s55 s56 s57 s58 s9 s59 s60 s61 s62 s63 s64 s65 s66 s67 s2 s68 s69 s70 s71 s72 s73 s74 s75 s76 s77 s78 s79 s80 s81 s82 s83 s84 s85 s86 s52 s53 s8 hP
    replace hP := asBool_elim hP
    obtain ⟨t2, rfl, hP⟩ := hP
    replace hP := asInt_elim hP
    obtain ⟨t8, rfl, hP⟩ := hP
    apply turnInto (hstep n t2 t8 [(.agg #[(.bool t0_0), (.int .i64 t0_1), (.int .i64 t0_2), (.slice t0_3 t0_3l 0), (.slice t0_4 t0_4l 0)]), (.pointer (some ⟨t1, 0, none⟩)), (.bool t2), (.pointer t3), (.int .i64 t4), (.int .i64 t5), t6, (.int .i64 t7), (.int .i64 t8), s9, (.pointer (some ⟨t10, 3, none⟩)), (.slice t11 t11l 0), (.pointer (some ⟨t12, 4, none⟩)), (.slice t13 t13l 0), (.bool false), undef, (.agg #[(.bool t16_0), (.int .i64 t16_1), (.int .i64 t16_2), (.slice t16_3 t16_3l 0), (.slice t16_4 t16_4l 0)]), (.pointer t17), (.pointer t18), (.bool false), (.pointer (some ⟨t20, 3, none⟩)), (.slice t21 t21l 0), (.int .i64 t22), t23, t24, t25, t26, t27, t28, t29, t30, t31, t32, t33, t34, t35, (.pointer (some ⟨t36, 4, none⟩)), (.slice t37 t37l 0), (.int .i64 t38), (.int .i64 t39), (.pointer t40), (.pointer (some ⟨t41, t41o, none⟩)), (.pointer (some ⟨t42, t42o, none⟩)), (.slice t43 t43l 0), (.int .i64 t44), (.int .i64 t45), (.int .i64 t46), (.int .i64 t47), (.int .i64 t48), s49, s50, s51, s52, s53, s54, s55, s56, s57, s58, s59, s60, s61, s62, s63, s64, s65, s66, s67, s68, s69, s70, s71, s72, s73, s74, s75, s76, s77, s78, s79, s80, s81, s82, s83, s84, s85, s86] H hP)
    kernel_rfl
  · apply turnInto h0
    kernel_rfl

end Go.Proofs.YtgpacebjbdhphaaGreat
