/-
  What functions of this seat's program need (printed by a program, checked by the kernel).
-/
import Derived.Test.YtlkmdcncpdadbaaNames
import Derived.Test.YtlkmdcncpdadbaaAs41
namespace Go.Proofs.Ytlkmdcncpdadbaa
open Go Go.AS Go.RowKit
set_option linter.unusedVariables false
set_option maxRecDepth 100000

/-! crossbarlaw07_DeclChecks -/

theorem vc_crossbarlaw07_DeclChecks (x0 : Option Addr) (x0l : Nat) (H : Heap) (R : Value → Heap → Prop) :
    (
 bif (decide (((x0l : Nat) : Int) > 100)) then (
 CA en F.crossbarlaw07_works [] H fun v1 H2 =>
 ∃ b3, v1 = (.bool b3) ∧
 R (.bool b3) H2)
 else (
 CA en F.crossbarkit_CopyDecls [(.slice x0 x0l 0)] H fun v4 H5 =>
 ∃ a6 i7, v4 = (.slice a6 i7 0) ∧
 CA en F.decl_Check [(.slice a6 i7 0)] H5 fun v8 H9 =>
 ∃ n10, v8 = (.int .i64 n10) ∧
 CA en F.crossbarref07_Check [(.slice x0 x0l 0)] H9 fun v11 H12 =>
 ∃ n13, v11 = (.int .i64 n13) ∧
 bif (n10 == n13) then (
 CA en F.crossbarkit_SameDecls [(.slice a6 i7 0), (.slice x0 x0l 0)] H12 fun v14 H15 =>
 ∃ b16, v14 = (.bool b16) ∧
 bif b16 then (
 CA en F.crossbarlaw07_works [] H15 fun v17 H18 =>
 ∃ b19, v17 = (.bool b19) ∧
 R (.bool b19) H18)
 else (
 R (.bool false) H15))
 else (
 R (.bool false) H12))) →
    CA en F.crossbarlaw07_DeclChecks [(.slice x0 x0l 0)] H R := by
  intro h
  refine wpFn_ok (Z := []) (fn := Go.Proofs.Try.f3) ?_ ?_ ?_
  · kernel_rfl
  · kernel_rfl
  · apply turnInto h
    kernel_rfl


/-! decl_Check -/
noncomputable def L_decl_Check_0 : Code := loopAt Go.Proofs.Try.f14 0

theorem vc_decl_Check (x0 : Option Addr) (x0l : Nat) (H : Heap) (R : Value → Heap → Prop) :
    (
 bif (decide (((x0l : Nat) : Int) > 10)) then (
 R (.int .i64 19) H)
 else (
 LA en L_decl_Check_0 [(.slice x0 x0l 0), undef, (.int .i64 0), undef, undef, undef, (.slice x0 x0l 0), (.int .i64 ((x0l : Nat) : Int)), (.bool false), (.slice x0 x0l 0), (.int .i64 ((x0l : Nat) : Int)), (.int .i64 0), undef, undef, undef, undef, undef, undef, undef, undef, undef, undef] H [(X.exit 0, fun (y1 : Fr) (H2 : Heap) =>
 AS.asInt .i64 (y1.getD 2 undef) fun n3 =>
 R (.int .i64 0) H2),
 (X.ret, fun (y4 : Fr) (H5 : Heap) =>
 AS.asInt .i64 (y4.getD 2 undef) fun n6 =>
 R (.int .i64 n6) H5)])) →
    CA en F.decl_Check [(.slice x0 x0l 0)] H R := by
  intro h
  refine wpFn_ok (Z := [[(2, (.int .i64 0))]]) (fn := Go.Proofs.Try.f14) ?_ ?_ ?_
  · kernel_rfl
  · kernel_rfl
  · apply turnInto h
    kernel_rfl

theorem use_decl_Check_0 {t0 : Option Addr} {t0l : Nat} {t6 : Option Addr} {t6l : Nat} {t7 : Int} {t9 : Option Addr} {t9l : Nat} {t10 : Int} {K0 : Fr → Heap → Prop} {K1 : Fr → Heap → Prop} {t2 : Int} {t11 : Int} {t4 : Value} {t5 : Value} {t12 : Value} {t13 : Value} {t14 : Value} {t15 : Value} {t16 : Value} {t17 : Value} {t18 : Value} {t19 : Value} {t20 : Value} {t21 : Value} {H : Heap} (I : Nat → Int → Int → Heap → Prop) (n : Nat) (h0 : I n t2 t11 H)
    (hstep : ∀ (n : Nat) (t2 : Int) (t11 : Int) (ys : Fr) (H : Heap), I n t2 t11 H →
    (
 bif (decide (t11 < t10)) then (
 inB t11 t9l ∧
 asRow t9 fun i1 i2 =>
 ∃ n3, ∃ n4, ∃ n5, ∃ n6, ∃ n7, H.cellsAt i1 (i2 + (t11.toNat * 5)) 5 = some [(.int .i64 n3), (.int .i64 n4), (.int .i64 n5), (.int .i64 n6), (.int .i64 n7)] ∧
 nwH H (.cells true 0 [(.int .i64 0), (.int .i64 0), (.int .i64 0), (.int .i64 0), (.int .i64 0)]) fun i8 H9 =>
 stc H9 i8 0 [(.int .i64 n3), (.int .i64 n4), (.int .i64 n5), (.int .i64 n6), (.int .i64 n7)] fun H10 =>
 ∃ n11, ∃ n12, ∃ n13, ∃ n14, ∃ n15, H10.cellsAt i8 0 5 = some [(.int .i64 n11), (.int .i64 n12), (.int .i64 n13), (.int .i64 n14), (.int .i64 n15)] ∧
 CA en F.decl_check [(.slice t0 t0l 0), (.agg #[(.int .i64 n11), (.int .i64 n12), (.int .i64 n13), (.int .i64 n14), (.int .i64 n15)])] H10 fun v16 H17 =>
 ∃ n18, v16 = (.int .i64 n18) ∧
 bif (n18 != 0) then (
 K1 [(.slice t0 t0l 0), undef, (.int .i64 n18), undef, (.pointer (some ⟨i8, 0, none⟩)), (.int .i64 n18), (.slice t6 t6l 0), (.int .i64 t7), (.bool false), (.slice t9 t9l 0), (.int .i64 t10), (.int .i64 t11), (.bool true), (.pointer (some ⟨i1, (i2 + (t11.toNat * 5)), none⟩)), (.agg #[(.int .i64 n3), (.int .i64 n4), (.int .i64 n5), (.int .i64 n6), (.int .i64 n7)]), (.slice t0 t0l 0), (.agg #[(.int .i64 n11), (.int .i64 n12), (.int .i64 n13), (.int .i64 n14), (.int .i64 n15)]), (.int .i64 n18), (.int .i64 n18), (.bool true), (.int .i64 n18), (ys.getD 21 undef)] H17)
 else (
 ∃ k19, k19 < n ∧
 I k19 t2 (IntKind.i64.wrap (t11 + 1)) H17))
 else (
 K0 [(.slice t0 t0l 0), undef, (.int .i64 t2), undef, (ys.getD 4 undef), (ys.getD 5 undef), (.slice t6 t6l 0), (.int .i64 t7), (.bool false), (.slice t9 t9l 0), (.int .i64 t10), (.int .i64 t11), (.bool false), (ys.getD 13 undef), (ys.getD 14 undef), (ys.getD 15 undef), (ys.getD 16 undef), (ys.getD 17 undef), (ys.getD 18 undef), (ys.getD 19 undef), (ys.getD 20 undef), (ys.getD 21 undef)] H))) :
    LA en L_decl_Check_0 [(.slice t0 t0l 0), undef, (.int .i64 t2), undef, t4, t5, (.slice t6 t6l 0), (.int .i64 t7), (.bool false), (.slice t9 t9l 0), (.int .i64 t10), (.int .i64 t11), t12, t13, t14, t15, t16, t17, t18, t19, t20, t21] H [(X.exit 0, K0), (X.ret, K1)] := by
  refine LA_rule (Z := []) (fun m xs H' => AS.asInt .i64 (xs.getD 2 undef) fun t2 => AS.asInt .i64 (xs.getD 11 undef) fun t11 => I m t2 t11 H') ?_ n H ?_
  · intro n H
    suffices hs : ∀ s12 : Value, ∀ s13 : Value, ∀ s14 : Value, ∀ s4 : Value, ∀ s15 : Value, ∀ s16 : Value, ∀ s17 : Value, ∀ s5 : Value, ∀ s18 : Value, ∀ s19 : Value, ∀ s20 : Value, ∀ s2 : Value, ∀ s21 : Value, ∀ s11 : Value, ((AS.asInt .i64 s2 fun t2 => AS.asInt .i64 s11 fun t11 => I n t2 t11 H) → wpCode en L_decl_Check_0 [] [(.slice t0 t0l 0), undef, s2, undef, s4, s5, (.slice t6 t6l 0), (.int .i64 t7), (.bool false), (.slice t9 t9l 0), (.int .i64 t10), s11, s12, s13, s14, s15, s16, s17, s18, s19, s20, s21] H (loopQ (fun m xs H' => AS.asInt .i64 (xs.getD 2 undef) fun t2 => AS.asInt .i64 (xs.getD 11 undef) fun t11 => I m t2 t11 H') n [(X.exit 0, K0), (X.ret, K1)])) by
      apply turnInto hs
      kernel_rfl
    intro s12 s13 s14 s4 s15 s16 s17 s5 s18 s19 s20 s2 s21 s11 hP
    replace hP := asInt_elim hP
    obtain ⟨t2, rfl, hP⟩ := hP
    replace hP := asInt_elim hP
    obtain ⟨t11, rfl, hP⟩ := hP
    apply turnInto (hstep n t2 t11 [(.slice t0 t0l 0), undef, (.int .i64 t2), undef, s4, s5, (.slice t6 t6l 0), (.int .i64 t7), (.bool false), (.slice t9 t9l 0), (.int .i64 t10), (.int .i64 t11), s12, s13, s14, s15, s16, s17, s18, s19, s20, s21] H hP)
    kernel_rfl
  · apply turnInto h0
    kernel_rfl


/-! crossbarref07_Check -/
noncomputable def L_crossbarref07_Check_0 : Code := loopAt Go.Proofs.Try.f15 0

theorem vc_crossbarref07_Check (x0 : Option Addr) (x0l : Nat) (H : Heap) (R : Value → Heap → Prop) :
    (
 bif (decide (((x0l : Nat) : Int) > 10)) then (
 R (.int .i64 19) H)
 else (
 LA en L_crossbarref07_Check_0 [(.slice x0 x0l 0), undef, (.int .i64 0), (.int .i64 0), undef, (.slice x0 x0l 0), (.int .i64 ((x0l : Nat) : Int)), (.bool false), undef, undef, undef, undef, undef, undef, undef, undef, undef, undef, undef, undef, undef, undef, undef] H [(X.exit 0, fun (y1 : Fr) (H2 : Heap) =>
 AS.asInt .i64 (y1.getD 2 undef) fun n3 =>
 R (.int .i64 0) H2),
 (X.ret, fun (y4 : Fr) (H5 : Heap) =>
 AS.asInt .i64 (y4.getD 2 undef) fun n6 =>
 R (.int .i64 n6) H5)])) →
    CA en F.crossbarref07_Check [(.slice x0 x0l 0)] H R := by
  intro h
  refine wpFn_ok (Z := [[(2, (.int .i64 0))]]) (fn := Go.Proofs.Try.f15) ?_ ?_ ?_
  · kernel_rfl
  · kernel_rfl
  · apply turnInto h
    kernel_rfl

theorem use_crossbarref07_Check_0 {t0 : Option Addr} {t0l : Nat} {t5 : Option Addr} {t5l : Nat} {t6 : Int} {K0 : Fr → Heap → Prop} {K1 : Fr → Heap → Prop} {t2 : Int} {t3 : Int} {t4 : Value} {t8 : Value} {t9 : Value} {t10 : Value} {t11 : Value} {t12 : Value} {t13 : Value} {t14 : Value} {t15 : Value} {t16 : Value} {t17 : Value} {t18 : Value} {t19 : Value} {t20 : Value} {t21 : Value} {t22 : Value} {H : Heap} (I : Nat → Int → Int → Heap → Prop) (n : Nat) (h0 : I n t2 t3 H)
    (hstep : ∀ (n : Nat) (t2 : Int) (t3 : Int) (ys : Fr) (H : Heap), I n t2 t3 H →
    (
 bif (decide (t3 < ((t0l : Nat) : Int))) then (
 inB t3 t0l ∧
 asRow t0 fun i1 i2 =>
 ∃ n3, ∃ n4, ∃ n5, ∃ n6, ∃ n7, H.cellsAt i1 (i2 + (t3.toNat * 5)) 5 = some [(.int .i64 n3), (.int .i64 n4), (.int .i64 n5), (.int .i64 n6), (.int .i64 n7)] ∧
 CA en F.crossbarref07_one [(.slice t0 t0l 0), (.agg #[(.int .i64 n3), (.int .i64 n4), (.int .i64 n5), (.int .i64 n6), (.int .i64 n7)])] H fun v8 H9 =>
 ∃ n10, v8 = (.int .i64 n10) ∧
 bif (n10 != 0) then (
 K1 [(.slice t0 t0l 0), undef, (.int .i64 n10), (.int .i64 t3), (.int .i64 n10), (.slice t5 t5l 0), (.int .i64 t6), (.bool false), (.int .i64 t3), (.slice t0 t0l 0), (.int .i64 ((t0l : Nat) : Int)), (.bool true), (ys.getD 12 undef), (ys.getD 13 undef), (.slice t0 t0l 0), (.slice t0 t0l 0), (.int .i64 t3), (.pointer (some ⟨i1, (i2 + (t3.toNat * 5)), none⟩)), (.agg #[(.int .i64 n3), (.int .i64 n4), (.int .i64 n5), (.int .i64 n6), (.int .i64 n7)]), (.int .i64 n10), (.int .i64 n10), (.bool true), (.int .i64 n10)] H9)
 else (
 ∃ k11, k11 < n ∧
 I k11 t2 (IntKind.i64.wrap (t3 + 1)) H9))
 else (
 K0 [(.slice t0 t0l 0), undef, (.int .i64 t2), (.int .i64 t3), (ys.getD 4 undef), (.slice t5 t5l 0), (.int .i64 t6), (.bool false), (.int .i64 t3), (.slice t0 t0l 0), (.int .i64 ((t0l : Nat) : Int)), (.bool false), (ys.getD 12 undef), (ys.getD 13 undef), (ys.getD 14 undef), (ys.getD 15 undef), (ys.getD 16 undef), (ys.getD 17 undef), (ys.getD 18 undef), (ys.getD 19 undef), (ys.getD 20 undef), (ys.getD 21 undef), (ys.getD 22 undef)] H))) :
    LA en L_crossbarref07_Check_0 [(.slice t0 t0l 0), undef, (.int .i64 t2), (.int .i64 t3), t4, (.slice t5 t5l 0), (.int .i64 t6), (.bool false), t8, t9, t10, t11, t12, t13, t14, t15, t16, t17, t18, t19, t20, t21, t22] H [(X.exit 0, K0), (X.ret, K1)] := by
  refine LA_rule (Z := []) (fun m xs H' => AS.asInt .i64 (xs.getD 2 undef) fun t2 => AS.asInt .i64 (xs.getD 3 undef) fun t3 => I m t2 t3 H') ?_ n H ?_
  · intro n H
    suffices hs : ∀ s8 : Value, ∀ s9 : Value, ∀ s10 : Value, ∀ s11 : Value, ∀ s14 : Value, ∀ s15 : Value, ∀ s16 : Value, ∀ s17 : Value, ∀ s18 : Value, ∀ s19 : Value, ∀ s4 : Value, ∀ s20 : Value, ∀ s21 : Value, ∀ s22 : Value, ∀ s2 : Value, ∀ s12 : Value, ∀ s13 : Value, ∀ s3 : Value, ((AS.asInt .i64 s2 fun t2 => AS.asInt .i64 s3 fun t3 => I n t2 t3 H) → wpCode en L_crossbarref07_Check_0 [] [(.slice t0 t0l 0), undef, s2, s3, s4, (.slice t5 t5l 0), (.int .i64 t6), (.bool false), s8, s9, s10, s11, s12, s13, s14, s15, s16, s17, s18, s19, s20, s21, s22] H (loopQ (fun m xs H' => AS.asInt .i64 (xs.getD 2 undef) fun t2 => AS.asInt .i64 (xs.getD 3 undef) fun t3 => I m t2 t3 H') n [(X.exit 0, K0), (X.ret, K1)])) by
      apply turnInto hs
      kernel_rfl
    intro s8 s9 s10 s11 s14 s15 s16 s17 s18 s19 s4 s20 s21 s22 s2 s12 s13 s3 hP
    replace hP := asInt_elim hP
    obtain ⟨t2, rfl, hP⟩ := hP
    replace hP := asInt_elim hP
    obtain ⟨t3, rfl, hP⟩ := hP
    apply turnInto (hstep n t2 t3 [(.slice t0 t0l 0), undef, (.int .i64 t2), (.int .i64 t3), s4, (.slice t5 t5l 0), (.int .i64 t6), (.bool false), s8, s9, s10, s11, s12, s13, s14, s15, s16, s17, s18, s19, s20, s21, s22] H hP)
    kernel_rfl
  · apply turnInto h0
    kernel_rfl


/-! decl_check -/

theorem vc_decl_check (x0 : Option Addr) (x0l : Nat) (x1_0 : Int) (x1_1 : Int) (x1_2 : Int) (x1_3 : Int) (x1_4 : Int) (H : Heap) (R : Value → Heap → Prop) :
    (
 nwH H (.cells true 0 [(.int .i64 x1_0), (.int .i64 x1_1), (.int .i64 x1_2), (.int .i64 x1_3), (.int .i64 x1_4)]) fun i1 H2 =>
 ∃ n3, H2.cell i1 0 = some (.int .i64 n3) ∧
 CA en F.decl_kinds [(.int .i64 n3)] H2 fun v4 H5 =>
 ∃ n6, ∃ b7, ∃ b8, ∃ a9 i10, ∃ b11, ∃ b12, v4 = (.tuple #[(.agg #[(.int .i64 n6), (.bool b7), (.bool b8), (.slice a9 i10 0), (.bool b11)]), (.bool b12)]) ∧
 nwH H5 (.cells true 0 [(.int .i64 0), (.bool false), (.bool false), (.slice none 0 0), (.bool false)]) fun i13 H14 =>
 stc H14 i13 0 [(.int .i64 n6), (.bool b7), (.bool b8), (.slice a9 i10 0), (.bool b11)] fun H15 =>
 bif (!b12) then (
 R (.int .i64 1) H15)
 else (
 ∃ n16, H15.cell i1 1 = some (.int .i64 n16) ∧
 CA en F.decl_within [(.int .i64 n16), (.int .i64 64)] H15 fun v17 H18 =>
 ∃ b19, v17 = (.bool b19) ∧
 bif (!b19) then (
 R (.int .i64 1) H18)
 else (
 ∃ n20, H18.cell i1 2 = some (.int .i64 n20) ∧
 ∃ n21, H18.cell i13 0 = some (.int .i64 n21) ∧
 CA en F.decl_within [(.int .i64 n20), (.int .i64 n21)] H18 fun v22 H23 =>
 ∃ b24, v22 = (.bool b24) ∧
 bif (!b24) then (
 R (.int .i64 1) H23)
 else (
 ∃ b25, H23.cell i13 1 = some (.bool b25) ∧
 bif b25 then (
 ∃ n26, H23.cell i1 3 = some (.int .i64 n26) ∧
 CA en F.decl_within [(.int .i64 n26), (.int .i64 32)] H23 fun v27 H28 =>
 ∃ b29, v27 = (.bool b29) ∧
 bif (!b29) then (
 R (.int .i64 1) H28)
 else (
 ∃ n30, H28.cell i1 3 = some (.int .i64 n30) ∧
 CA en F.math_bits_OnesCount [(.int .u64 (IntKind.u64.wrap n30))] H28 fun v31 H32 =>
 ∃ n33, v31 = (.int .i64 n33) ∧
 bif (n33 != 1) then (
 R (.int .i64 1) H32)
 else (
 ∃ b34, H32.cell i13 1 = some (.bool b34) ∧
 bif (!b34) then (
 ∃ n35, H32.cell i1 3 = some (.int .i64 n35) ∧
 bif (n35 != 0) then (
 R (.int .i64 1) H32)
 else (
 ∃ b36, H32.cell i13 2 = some (.bool b36) ∧
 bif b36 then (
 ∃ n37, H32.cell i1 4 = some (.int .i64 n37) ∧
 CA en F.decl_within [(.int .i64 n37), (.int .i64 ((x0l : Nat) : Int))] H32 fun v38 H39 =>
 ∃ b40, v38 = (.bool b40) ∧
 bif (!b40) then (
 R (.int .i64 1) H39)
 else (
 ∃ b41, H39.cell i13 2 = some (.bool b41) ∧
 bif (!b41) then (
 ∃ n42, H39.cell i1 4 = some (.int .i64 n42) ∧
 bif (n42 != 0) then (
 R (.int .i64 1) H39)
 else (
 ∃ b43, H39.cell i13 2 = some (.bool b43) ∧
 bif b43 then (
 ∃ n44, H39.cell i1 4 = some (.int .i64 n44) ∧
 inB (IntKind.i64.wrap (n44 - 1)) x0l ∧
 asRow x0 fun i45 i46 =>
 ∃ n47, H39.cell i45 (i46 + ((IntKind.i64.wrap (n44 - 1)).toNat * 5)) = some (.int .i64 n47) ∧
 CA en F.decl_kinds [(.int .i64 n47)] H39 fun v48 H49 =>
 ∃ n50, ∃ b51, ∃ b52, ∃ a53 i54, ∃ b55, ∃ b56, v48 = (.tuple #[(.agg #[(.int .i64 n50), (.bool b51), (.bool b52), (.slice a53 i54 0), (.bool b55)]), (.bool b56)]) ∧
 nwH H49 (.cells true 0 [(.int .i64 0), (.bool false), (.bool false), (.slice none 0 0), (.bool false)]) fun i57 H58 =>
 stc H58 i57 0 [(.int .i64 n50), (.bool b51), (.bool b52), (.slice a53 i54 0), (.bool b55)] fun H59 =>
 ∃ b60, H59.cell i57 2 = some (.bool b60) ∧
 bif b60 then (
 R (.int .i64 14) H59)
 else (
 R (.int .i64 0) H59))
 else (
 R (.int .i64 0) H39)))
 else (
 ∃ b61, H39.cell i13 2 = some (.bool b61) ∧
 bif b61 then (
 ∃ n62, H39.cell i1 4 = some (.int .i64 n62) ∧
 inB (IntKind.i64.wrap (n62 - 1)) x0l ∧
 asRow x0 fun i63 i64 =>
 ∃ n65, H39.cell i63 (i64 + ((IntKind.i64.wrap (n62 - 1)).toNat * 5)) = some (.int .i64 n65) ∧
 CA en F.decl_kinds [(.int .i64 n65)] H39 fun v66 H67 =>
 ∃ n68, ∃ b69, ∃ b70, ∃ a71 i72, ∃ b73, ∃ b74, v66 = (.tuple #[(.agg #[(.int .i64 n68), (.bool b69), (.bool b70), (.slice a71 i72 0), (.bool b73)]), (.bool b74)]) ∧
 nwH H67 (.cells true 0 [(.int .i64 0), (.bool false), (.bool false), (.slice none 0 0), (.bool false)]) fun i75 H76 =>
 stc H76 i75 0 [(.int .i64 n68), (.bool b69), (.bool b70), (.slice a71 i72 0), (.bool b73)] fun H77 =>
 ∃ b78, H77.cell i75 2 = some (.bool b78) ∧
 bif b78 then (
 R (.int .i64 14) H77)
 else (
 R (.int .i64 0) H77))
 else (
 R (.int .i64 0) H39))))
 else (
 ∃ b79, H32.cell i13 2 = some (.bool b79) ∧
 bif (!b79) then (
 ∃ n80, H32.cell i1 4 = some (.int .i64 n80) ∧
 bif (n80 != 0) then (
 R (.int .i64 1) H32)
 else (
 ∃ b81, H32.cell i13 2 = some (.bool b81) ∧
 bif b81 then (
 ∃ n82, H32.cell i1 4 = some (.int .i64 n82) ∧
 inB (IntKind.i64.wrap (n82 - 1)) x0l ∧
 asRow x0 fun i83 i84 =>
 ∃ n85, H32.cell i83 (i84 + ((IntKind.i64.wrap (n82 - 1)).toNat * 5)) = some (.int .i64 n85) ∧
 CA en F.decl_kinds [(.int .i64 n85)] H32 fun v86 H87 =>
 ∃ n88, ∃ b89, ∃ b90, ∃ a91 i92, ∃ b93, ∃ b94, v86 = (.tuple #[(.agg #[(.int .i64 n88), (.bool b89), (.bool b90), (.slice a91 i92 0), (.bool b93)]), (.bool b94)]) ∧
 nwH H87 (.cells true 0 [(.int .i64 0), (.bool false), (.bool false), (.slice none 0 0), (.bool false)]) fun i95 H96 =>
 stc H96 i95 0 [(.int .i64 n88), (.bool b89), (.bool b90), (.slice a91 i92 0), (.bool b93)] fun H97 =>
 ∃ b98, H97.cell i95 2 = some (.bool b98) ∧
 bif b98 then (
 R (.int .i64 14) H97)
 else (
 R (.int .i64 0) H97))
 else (
 R (.int .i64 0) H32)))
 else (
 ∃ b99, H32.cell i13 2 = some (.bool b99) ∧
 bif b99 then (
 ∃ n100, H32.cell i1 4 = some (.int .i64 n100) ∧
 inB (IntKind.i64.wrap (n100 - 1)) x0l ∧
 asRow x0 fun i101 i102 =>
 ∃ n103, H32.cell i101 (i102 + ((IntKind.i64.wrap (n100 - 1)).toNat * 5)) = some (.int .i64 n103) ∧
 CA en F.decl_kinds [(.int .i64 n103)] H32 fun v104 H105 =>
 ∃ n106, ∃ b107, ∃ b108, ∃ a109 i110, ∃ b111, ∃ b112, v104 = (.tuple #[(.agg #[(.int .i64 n106), (.bool b107), (.bool b108), (.slice a109 i110 0), (.bool b111)]), (.bool b112)]) ∧
 nwH H105 (.cells true 0 [(.int .i64 0), (.bool false), (.bool false), (.slice none 0 0), (.bool false)]) fun i113 H114 =>
 stc H114 i113 0 [(.int .i64 n106), (.bool b107), (.bool b108), (.slice a109 i110 0), (.bool b111)] fun H115 =>
 ∃ b116, H115.cell i113 2 = some (.bool b116) ∧
 bif b116 then (
 R (.int .i64 14) H115)
 else (
 R (.int .i64 0) H115))
 else (
 R (.int .i64 0) H32)))))
 else (
 ∃ b117, H32.cell i13 2 = some (.bool b117) ∧
 bif b117 then (
 ∃ n118, H32.cell i1 4 = some (.int .i64 n118) ∧
 CA en F.decl_within [(.int .i64 n118), (.int .i64 ((x0l : Nat) : Int))] H32 fun v119 H120 =>
 ∃ b121, v119 = (.bool b121) ∧
 bif (!b121) then (
 R (.int .i64 1) H120)
 else (
 ∃ b122, H120.cell i13 2 = some (.bool b122) ∧
 bif (!b122) then (
 ∃ n123, H120.cell i1 4 = some (.int .i64 n123) ∧
 bif (n123 != 0) then (
 R (.int .i64 1) H120)
 else (
 ∃ b124, H120.cell i13 2 = some (.bool b124) ∧
 bif b124 then (
 ∃ n125, H120.cell i1 4 = some (.int .i64 n125) ∧
 inB (IntKind.i64.wrap (n125 - 1)) x0l ∧
 asRow x0 fun i126 i127 =>
 ∃ n128, H120.cell i126 (i127 + ((IntKind.i64.wrap (n125 - 1)).toNat * 5)) = some (.int .i64 n128) ∧
 CA en F.decl_kinds [(.int .i64 n128)] H120 fun v129 H130 =>
 ∃ n131, ∃ b132, ∃ b133, ∃ a134 i135, ∃ b136, ∃ b137, v129 = (.tuple #[(.agg #[(.int .i64 n131), (.bool b132), (.bool b133), (.slice a134 i135 0), (.bool b136)]), (.bool b137)]) ∧
 nwH H130 (.cells true 0 [(.int .i64 0), (.bool false), (.bool false), (.slice none 0 0), (.bool false)]) fun i138 H139 =>
 stc H139 i138 0 [(.int .i64 n131), (.bool b132), (.bool b133), (.slice a134 i135 0), (.bool b136)] fun H140 =>
 ∃ b141, H140.cell i138 2 = some (.bool b141) ∧
 bif b141 then (
 R (.int .i64 14) H140)
 else (
 R (.int .i64 0) H140))
 else (
 R (.int .i64 0) H120)))
 else (
 ∃ b142, H120.cell i13 2 = some (.bool b142) ∧
 bif b142 then (
 ∃ n143, H120.cell i1 4 = some (.int .i64 n143) ∧
 inB (IntKind.i64.wrap (n143 - 1)) x0l ∧
 asRow x0 fun i144 i145 =>
 ∃ n146, H120.cell i144 (i145 + ((IntKind.i64.wrap (n143 - 1)).toNat * 5)) = some (.int .i64 n146) ∧
 CA en F.decl_kinds [(.int .i64 n146)] H120 fun v147 H148 =>
 ∃ n149, ∃ b150, ∃ b151, ∃ a152 i153, ∃ b154, ∃ b155, v147 = (.tuple #[(.agg #[(.int .i64 n149), (.bool b150), (.bool b151), (.slice a152 i153 0), (.bool b154)]), (.bool b155)]) ∧
 nwH H148 (.cells true 0 [(.int .i64 0), (.bool false), (.bool false), (.slice none 0 0), (.bool false)]) fun i156 H157 =>
 stc H157 i156 0 [(.int .i64 n149), (.bool b150), (.bool b151), (.slice a152 i153 0), (.bool b154)] fun H158 =>
 ∃ b159, H158.cell i156 2 = some (.bool b159) ∧
 bif b159 then (
 R (.int .i64 14) H158)
 else (
 R (.int .i64 0) H158))
 else (
 R (.int .i64 0) H120))))
 else (
 ∃ b160, H32.cell i13 2 = some (.bool b160) ∧
 bif (!b160) then (
 ∃ n161, H32.cell i1 4 = some (.int .i64 n161) ∧
 bif (n161 != 0) then (
 R (.int .i64 1) H32)
 else (
 ∃ b162, H32.cell i13 2 = some (.bool b162) ∧
 bif b162 then (
 ∃ n163, H32.cell i1 4 = some (.int .i64 n163) ∧
 inB (IntKind.i64.wrap (n163 - 1)) x0l ∧
 asRow x0 fun i164 i165 =>
 ∃ n166, H32.cell i164 (i165 + ((IntKind.i64.wrap (n163 - 1)).toNat * 5)) = some (.int .i64 n166) ∧
 CA en F.decl_kinds [(.int .i64 n166)] H32 fun v167 H168 =>
 ∃ n169, ∃ b170, ∃ b171, ∃ a172 i173, ∃ b174, ∃ b175, v167 = (.tuple #[(.agg #[(.int .i64 n169), (.bool b170), (.bool b171), (.slice a172 i173 0), (.bool b174)]), (.bool b175)]) ∧
 nwH H168 (.cells true 0 [(.int .i64 0), (.bool false), (.bool false), (.slice none 0 0), (.bool false)]) fun i176 H177 =>
 stc H177 i176 0 [(.int .i64 n169), (.bool b170), (.bool b171), (.slice a172 i173 0), (.bool b174)] fun H178 =>
 ∃ b179, H178.cell i176 2 = some (.bool b179) ∧
 bif b179 then (
 R (.int .i64 14) H178)
 else (
 R (.int .i64 0) H178))
 else (
 R (.int .i64 0) H32)))
 else (
 ∃ b180, H32.cell i13 2 = some (.bool b180) ∧
 bif b180 then (
 ∃ n181, H32.cell i1 4 = some (.int .i64 n181) ∧
 inB (IntKind.i64.wrap (n181 - 1)) x0l ∧
 asRow x0 fun i182 i183 =>
 ∃ n184, H32.cell i182 (i183 + ((IntKind.i64.wrap (n181 - 1)).toNat * 5)) = some (.int .i64 n184) ∧
 CA en F.decl_kinds [(.int .i64 n184)] H32 fun v185 H186 =>
 ∃ n187, ∃ b188, ∃ b189, ∃ a190 i191, ∃ b192, ∃ b193, v185 = (.tuple #[(.agg #[(.int .i64 n187), (.bool b188), (.bool b189), (.slice a190 i191 0), (.bool b192)]), (.bool b193)]) ∧
 nwH H186 (.cells true 0 [(.int .i64 0), (.bool false), (.bool false), (.slice none 0 0), (.bool false)]) fun i194 H195 =>
 stc H195 i194 0 [(.int .i64 n187), (.bool b188), (.bool b189), (.slice a190 i191 0), (.bool b192)] fun H196 =>
 ∃ b197, H196.cell i194 2 = some (.bool b197) ∧
 bif b197 then (
 R (.int .i64 14) H196)
 else (
 R (.int .i64 0) H196))
 else (
 R (.int .i64 0) H32)))))))
 else (
 ∃ b198, H23.cell i13 1 = some (.bool b198) ∧
 bif (!b198) then (
 ∃ n199, H23.cell i1 3 = some (.int .i64 n199) ∧
 bif (n199 != 0) then (
 R (.int .i64 1) H23)
 else (
 ∃ b200, H23.cell i13 2 = some (.bool b200) ∧
 bif b200 then (
 ∃ n201, H23.cell i1 4 = some (.int .i64 n201) ∧
 CA en F.decl_within [(.int .i64 n201), (.int .i64 ((x0l : Nat) : Int))] H23 fun v202 H203 =>
 ∃ b204, v202 = (.bool b204) ∧
 bif (!b204) then (
 R (.int .i64 1) H203)
 else (
 ∃ b205, H203.cell i13 2 = some (.bool b205) ∧
 bif (!b205) then (
 ∃ n206, H203.cell i1 4 = some (.int .i64 n206) ∧
 bif (n206 != 0) then (
 R (.int .i64 1) H203)
 else (
 ∃ b207, H203.cell i13 2 = some (.bool b207) ∧
 bif b207 then (
 ∃ n208, H203.cell i1 4 = some (.int .i64 n208) ∧
 inB (IntKind.i64.wrap (n208 - 1)) x0l ∧
 asRow x0 fun i209 i210 =>
 ∃ n211, H203.cell i209 (i210 + ((IntKind.i64.wrap (n208 - 1)).toNat * 5)) = some (.int .i64 n211) ∧
 CA en F.decl_kinds [(.int .i64 n211)] H203 fun v212 H213 =>
 ∃ n214, ∃ b215, ∃ b216, ∃ a217 i218, ∃ b219, ∃ b220, v212 = (.tuple #[(.agg #[(.int .i64 n214), (.bool b215), (.bool b216), (.slice a217 i218 0), (.bool b219)]), (.bool b220)]) ∧
 nwH H213 (.cells true 0 [(.int .i64 0), (.bool false), (.bool false), (.slice none 0 0), (.bool false)]) fun i221 H222 =>
 stc H222 i221 0 [(.int .i64 n214), (.bool b215), (.bool b216), (.slice a217 i218 0), (.bool b219)] fun H223 =>
 ∃ b224, H223.cell i221 2 = some (.bool b224) ∧
 bif b224 then (
 R (.int .i64 14) H223)
 else (
 R (.int .i64 0) H223))
 else (
 R (.int .i64 0) H203)))
 else (
 ∃ b225, H203.cell i13 2 = some (.bool b225) ∧
 bif b225 then (
 ∃ n226, H203.cell i1 4 = some (.int .i64 n226) ∧
 inB (IntKind.i64.wrap (n226 - 1)) x0l ∧
 asRow x0 fun i227 i228 =>
 ∃ n229, H203.cell i227 (i228 + ((IntKind.i64.wrap (n226 - 1)).toNat * 5)) = some (.int .i64 n229) ∧
 CA en F.decl_kinds [(.int .i64 n229)] H203 fun v230 H231 =>
 ∃ n232, ∃ b233, ∃ b234, ∃ a235 i236, ∃ b237, ∃ b238, v230 = (.tuple #[(.agg #[(.int .i64 n232), (.bool b233), (.bool b234), (.slice a235 i236 0), (.bool b237)]), (.bool b238)]) ∧
 nwH H231 (.cells true 0 [(.int .i64 0), (.bool false), (.bool false), (.slice none 0 0), (.bool false)]) fun i239 H240 =>
 stc H240 i239 0 [(.int .i64 n232), (.bool b233), (.bool b234), (.slice a235 i236 0), (.bool b237)] fun H241 =>
 ∃ b242, H241.cell i239 2 = some (.bool b242) ∧
 bif b242 then (
 R (.int .i64 14) H241)
 else (
 R (.int .i64 0) H241))
 else (
 R (.int .i64 0) H203))))
 else (
 ∃ b243, H23.cell i13 2 = some (.bool b243) ∧
 bif (!b243) then (
 ∃ n244, H23.cell i1 4 = some (.int .i64 n244) ∧
 bif (n244 != 0) then (
 R (.int .i64 1) H23)
 else (
 ∃ b245, H23.cell i13 2 = some (.bool b245) ∧
 bif b245 then (
 ∃ n246, H23.cell i1 4 = some (.int .i64 n246) ∧
 inB (IntKind.i64.wrap (n246 - 1)) x0l ∧
 asRow x0 fun i247 i248 =>
 ∃ n249, H23.cell i247 (i248 + ((IntKind.i64.wrap (n246 - 1)).toNat * 5)) = some (.int .i64 n249) ∧
 CA en F.decl_kinds [(.int .i64 n249)] H23 fun v250 H251 =>
 ∃ n252, ∃ b253, ∃ b254, ∃ a255 i256, ∃ b257, ∃ b258, v250 = (.tuple #[(.agg #[(.int .i64 n252), (.bool b253), (.bool b254), (.slice a255 i256 0), (.bool b257)]), (.bool b258)]) ∧
 nwH H251 (.cells true 0 [(.int .i64 0), (.bool false), (.bool false), (.slice none 0 0), (.bool false)]) fun i259 H260 =>
 stc H260 i259 0 [(.int .i64 n252), (.bool b253), (.bool b254), (.slice a255 i256 0), (.bool b257)] fun H261 =>
 ∃ b262, H261.cell i259 2 = some (.bool b262) ∧
 bif b262 then (
 R (.int .i64 14) H261)
 else (
 R (.int .i64 0) H261))
 else (
 R (.int .i64 0) H23)))
 else (
 ∃ b263, H23.cell i13 2 = some (.bool b263) ∧
 bif b263 then (
 ∃ n264, H23.cell i1 4 = some (.int .i64 n264) ∧
 inB (IntKind.i64.wrap (n264 - 1)) x0l ∧
 asRow x0 fun i265 i266 =>
 ∃ n267, H23.cell i265 (i266 + ((IntKind.i64.wrap (n264 - 1)).toNat * 5)) = some (.int .i64 n267) ∧
 CA en F.decl_kinds [(.int .i64 n267)] H23 fun v268 H269 =>
 ∃ n270, ∃ b271, ∃ b272, ∃ a273 i274, ∃ b275, ∃ b276, v268 = (.tuple #[(.agg #[(.int .i64 n270), (.bool b271), (.bool b272), (.slice a273 i274 0), (.bool b275)]), (.bool b276)]) ∧
 nwH H269 (.cells true 0 [(.int .i64 0), (.bool false), (.bool false), (.slice none 0 0), (.bool false)]) fun i277 H278 =>
 stc H278 i277 0 [(.int .i64 n270), (.bool b271), (.bool b272), (.slice a273 i274 0), (.bool b275)] fun H279 =>
 ∃ b280, H279.cell i277 2 = some (.bool b280) ∧
 bif b280 then (
 R (.int .i64 14) H279)
 else (
 R (.int .i64 0) H279))
 else (
 R (.int .i64 0) H23)))))
 else (
 ∃ b281, H23.cell i13 2 = some (.bool b281) ∧
 bif b281 then (
 ∃ n282, H23.cell i1 4 = some (.int .i64 n282) ∧
 CA en F.decl_within [(.int .i64 n282), (.int .i64 ((x0l : Nat) : Int))] H23 fun v283 H284 =>
 ∃ b285, v283 = (.bool b285) ∧
 bif (!b285) then (
 R (.int .i64 1) H284)
 else (
 ∃ b286, H284.cell i13 2 = some (.bool b286) ∧
 bif (!b286) then (
 ∃ n287, H284.cell i1 4 = some (.int .i64 n287) ∧
 bif (n287 != 0) then (
 R (.int .i64 1) H284)
 else (
 ∃ b288, H284.cell i13 2 = some (.bool b288) ∧
 bif b288 then (
 ∃ n289, H284.cell i1 4 = some (.int .i64 n289) ∧
 inB (IntKind.i64.wrap (n289 - 1)) x0l ∧
 asRow x0 fun i290 i291 =>
 ∃ n292, H284.cell i290 (i291 + ((IntKind.i64.wrap (n289 - 1)).toNat * 5)) = some (.int .i64 n292) ∧
 CA en F.decl_kinds [(.int .i64 n292)] H284 fun v293 H294 =>
 ∃ n295, ∃ b296, ∃ b297, ∃ a298 i299, ∃ b300, ∃ b301, v293 = (.tuple #[(.agg #[(.int .i64 n295), (.bool b296), (.bool b297), (.slice a298 i299 0), (.bool b300)]), (.bool b301)]) ∧
 nwH H294 (.cells true 0 [(.int .i64 0), (.bool false), (.bool false), (.slice none 0 0), (.bool false)]) fun i302 H303 =>
 stc H303 i302 0 [(.int .i64 n295), (.bool b296), (.bool b297), (.slice a298 i299 0), (.bool b300)] fun H304 =>
 ∃ b305, H304.cell i302 2 = some (.bool b305) ∧
 bif b305 then (
 R (.int .i64 14) H304)
 else (
 R (.int .i64 0) H304))
 else (
 R (.int .i64 0) H284)))
 else (
 ∃ b306, H284.cell i13 2 = some (.bool b306) ∧
 bif b306 then (
 ∃ n307, H284.cell i1 4 = some (.int .i64 n307) ∧
 inB (IntKind.i64.wrap (n307 - 1)) x0l ∧
 asRow x0 fun i308 i309 =>
 ∃ n310, H284.cell i308 (i309 + ((IntKind.i64.wrap (n307 - 1)).toNat * 5)) = some (.int .i64 n310) ∧
 CA en F.decl_kinds [(.int .i64 n310)] H284 fun v311 H312 =>
 ∃ n313, ∃ b314, ∃ b315, ∃ a316 i317, ∃ b318, ∃ b319, v311 = (.tuple #[(.agg #[(.int .i64 n313), (.bool b314), (.bool b315), (.slice a316 i317 0), (.bool b318)]), (.bool b319)]) ∧
 nwH H312 (.cells true 0 [(.int .i64 0), (.bool false), (.bool false), (.slice none 0 0), (.bool false)]) fun i320 H321 =>
 stc H321 i320 0 [(.int .i64 n313), (.bool b314), (.bool b315), (.slice a316 i317 0), (.bool b318)] fun H322 =>
 ∃ b323, H322.cell i320 2 = some (.bool b323) ∧
 bif b323 then (
 R (.int .i64 14) H322)
 else (
 R (.int .i64 0) H322))
 else (
 R (.int .i64 0) H284))))
 else (
 ∃ b324, H23.cell i13 2 = some (.bool b324) ∧
 bif (!b324) then (
 ∃ n325, H23.cell i1 4 = some (.int .i64 n325) ∧
 bif (n325 != 0) then (
 R (.int .i64 1) H23)
 else (
 ∃ b326, H23.cell i13 2 = some (.bool b326) ∧
 bif b326 then (
 ∃ n327, H23.cell i1 4 = some (.int .i64 n327) ∧
 inB (IntKind.i64.wrap (n327 - 1)) x0l ∧
 asRow x0 fun i328 i329 =>
 ∃ n330, H23.cell i328 (i329 + ((IntKind.i64.wrap (n327 - 1)).toNat * 5)) = some (.int .i64 n330) ∧
 CA en F.decl_kinds [(.int .i64 n330)] H23 fun v331 H332 =>
 ∃ n333, ∃ b334, ∃ b335, ∃ a336 i337, ∃ b338, ∃ b339, v331 = (.tuple #[(.agg #[(.int .i64 n333), (.bool b334), (.bool b335), (.slice a336 i337 0), (.bool b338)]), (.bool b339)]) ∧
 nwH H332 (.cells true 0 [(.int .i64 0), (.bool false), (.bool false), (.slice none 0 0), (.bool false)]) fun i340 H341 =>
 stc H341 i340 0 [(.int .i64 n333), (.bool b334), (.bool b335), (.slice a336 i337 0), (.bool b338)] fun H342 =>
 ∃ b343, H342.cell i340 2 = some (.bool b343) ∧
 bif b343 then (
 R (.int .i64 14) H342)
 else (
 R (.int .i64 0) H342))
 else (
 R (.int .i64 0) H23)))
 else (
 ∃ b344, H23.cell i13 2 = some (.bool b344) ∧
 bif b344 then (
 ∃ n345, H23.cell i1 4 = some (.int .i64 n345) ∧
 inB (IntKind.i64.wrap (n345 - 1)) x0l ∧
 asRow x0 fun i346 i347 =>
 ∃ n348, H23.cell i346 (i347 + ((IntKind.i64.wrap (n345 - 1)).toNat * 5)) = some (.int .i64 n348) ∧
 CA en F.decl_kinds [(.int .i64 n348)] H23 fun v349 H350 =>
 ∃ n351, ∃ b352, ∃ b353, ∃ a354 i355, ∃ b356, ∃ b357, v349 = (.tuple #[(.agg #[(.int .i64 n351), (.bool b352), (.bool b353), (.slice a354 i355 0), (.bool b356)]), (.bool b357)]) ∧
 nwH H350 (.cells true 0 [(.int .i64 0), (.bool false), (.bool false), (.slice none 0 0), (.bool false)]) fun i358 H359 =>
 stc H359 i358 0 [(.int .i64 n351), (.bool b352), (.bool b353), (.slice a354 i355 0), (.bool b356)] fun H360 =>
 ∃ b361, H360.cell i358 2 = some (.bool b361) ∧
 bif b361 then (
 R (.int .i64 14) H360)
 else (
 R (.int .i64 0) H360))
 else (
 R (.int .i64 0) H23))))))))) →
    CA en F.decl_check [(.slice x0 x0l 0), (.agg #[(.int .i64 x1_0), (.int .i64 x1_1), (.int .i64 x1_2), (.int .i64 x1_3), (.int .i64 x1_4)])] H R := by
  intro h
  refine wpFn_ok (Z := []) (fn := Go.Proofs.Try.f39) ?_ ?_ ?_
  · kernel_rfl
  · kernel_rfl
  · apply turnInto h
    kernel_rfl


/-! crossbarref07_one -/

theorem vc_crossbarref07_one (x0 : Option Addr) (x0l : Nat) (x1_0 : Int) (x1_1 : Int) (x1_2 : Int) (x1_3 : Int) (x1_4 : Int) (H : Heap) (R : Value → Heap → Prop) :
    (
 nwH H (.cells true 0 [(.int .i64 x1_0), (.int .i64 x1_1), (.int .i64 x1_2), (.int .i64 x1_3), (.int .i64 x1_4)]) fun i1 H2 =>
 ∃ n3, H2.cell i1 0 = some (.int .i64 n3) ∧
 bif (n3 == 3) then (
 ∃ n4, H2.cell i1 0 = some (.int .i64 n4) ∧
 bif (decide (n4 < 1)) then (
 R (.int .i64 1) H2)
 else (
 ∃ n5, H2.cell i1 0 = some (.int .i64 n5) ∧
 bif (decide (n5 > 10)) then (
 R (.int .i64 1) H2)
 else (
 ∃ n6, H2.cell i1 1 = some (.int .i64 n6) ∧
 bif (decide (n6 < 1)) then (
 R (.int .i64 1) H2)
 else (
 ∃ n7, H2.cell i1 1 = some (.int .i64 n7) ∧
 bif (decide (n7 > 64)) then (
 R (.int .i64 1) H2)
 else (
 ∃ n8, H2.cell i1 2 = some (.int .i64 n8) ∧
 bif (decide (n8 < 1)) then (
 R (.int .i64 1) H2)
 else (
 ∃ n9, H2.cell i1 2 = some (.int .i64 n9) ∧
 bif (decide (n9 > 4)) then (
 R (.int .i64 1) H2)
 else (
 ∃ n10, (H2.bump 18).cell i1 0 = some (.int .i64 n10) ∧
 CA en F.crossbarref07_bucketed [(.int .i64 n10)] (H2.bump 18) fun v11 H12 =>
 ∃ b13, v11 = (.bool b13) ∧
 ∃ n14, H12.cell i1 3 = some (.int .i64 n14) ∧
 bif (!(b13 == (n14 != 0))) then (
 (
 R (.int .i64 1) H12) ∧
 (((n14 != 0) = (n14 != 0)) ∧ ((n14 != 0) = (n14 != 0)) ∧ True) ∧
 ((∃ n16, (H2.bump 18).cell i1 3 = some (.int .i64 n16) ∧
 n14 = n16) ∧ (∃ n15, H12.cell i1 3 = some (.int .i64 n15) ∧
 n14 = n15) ∧ True) ∧
 True)
 else (
 ∃ n17, H12.cell i1 0 = some (.int .i64 n17) ∧
 CA en F.crossbarref07_bucketed [(.int .i64 n17)] H12 fun v18 H19 =>
 ∃ b20, v18 = (.bool b20) ∧
 bif b20 then (
 ∃ n21, H19.cell i1 3 = some (.int .i64 n21) ∧
 CA en F.crossbarref07_power [(.int .i64 n21)] H19 fun v22 H23 =>
 ∃ b24, v22 = (.bool b24) ∧
 (
 bif (!b24) then (
 R (.int .i64 1) H23)
 else (
 ∃ n27, H23.cell i1 0 = some (.int .i64 n27) ∧
 CA en F.crossbarref07_Nested [(.int .i64 n27)] H23 fun v28 H29 =>
 ∃ b30, v28 = (.bool b30) ∧
 bif (!b30) then (
 ∃ n31, H29.cell i1 4 = some (.int .i64 n31) ∧
 bif (n31 != 0) then (
 R (.int .i64 1) H29)
 else (
 R (.int .i64 0) H29))
 else (
 ∃ n32, H29.cell i1 4 = some (.int .i64 n32) ∧
 bif (decide (n32 < 1)) then (
 R (.int .i64 1) H29)
 else (
 ∃ n33, H29.cell i1 4 = some (.int .i64 n33) ∧
 bif (decide (n33 > ((x0l : Nat) : Int))) then (
 R (.int .i64 1) H29)
 else (
 ∃ n34, H29.cell i1 4 = some (.int .i64 n34) ∧
 inB (IntKind.i64.wrap (n34 - 1)) x0l ∧
 asRow x0 fun i35 i36 =>
 ∃ n37, H29.cell i35 (i36 + ((IntKind.i64.wrap (n34 - 1)).toNat * 5)) = some (.int .i64 n37) ∧
 CA en F.crossbarref07_Nested [(.int .i64 n37)] H29 fun v38 H39 =>
 ∃ b40, v38 = (.bool b40) ∧
 bif b40 then (
 R (.int .i64 14) H39)
 else (
 R (.int .i64 0) H39)))))) ∧
 (((n14 != 0) = (n14 != 0)) ∧ ((n14 != 0) = (n14 != 0)) ∧ True) ∧
 ((∃ n26, (H2.bump 18).cell i1 3 = some (.int .i64 n26) ∧
 n14 = n26) ∧ (∃ n25, H12.cell i1 3 = some (.int .i64 n25) ∧
 n14 = n25) ∧ True) ∧
 True)
 else (
 (
 ∃ n43, H19.cell i1 0 = some (.int .i64 n43) ∧
 CA en F.crossbarref07_Nested [(.int .i64 n43)] H19 fun v44 H45 =>
 ∃ b46, v44 = (.bool b46) ∧
 bif (!b46) then (
 ∃ n47, H45.cell i1 4 = some (.int .i64 n47) ∧
 bif (n47 != 0) then (
 R (.int .i64 1) H45)
 else (
 R (.int .i64 0) H45))
 else (
 ∃ n48, H45.cell i1 4 = some (.int .i64 n48) ∧
 bif (decide (n48 < 1)) then (
 R (.int .i64 1) H45)
 else (
 ∃ n49, H45.cell i1 4 = some (.int .i64 n49) ∧
 bif (decide (n49 > ((x0l : Nat) : Int))) then (
 R (.int .i64 1) H45)
 else (
 ∃ n50, H45.cell i1 4 = some (.int .i64 n50) ∧
 inB (IntKind.i64.wrap (n50 - 1)) x0l ∧
 asRow x0 fun i51 i52 =>
 ∃ n53, H45.cell i51 (i52 + ((IntKind.i64.wrap (n50 - 1)).toNat * 5)) = some (.int .i64 n53) ∧
 CA en F.crossbarref07_Nested [(.int .i64 n53)] H45 fun v54 H55 =>
 ∃ b56, v54 = (.bool b56) ∧
 bif b56 then (
 R (.int .i64 14) H55)
 else (
 R (.int .i64 0) H55))))) ∧
 (((n14 != 0) = (n14 != 0)) ∧ ((n14 != 0) = (n14 != 0)) ∧ True) ∧
 ((∃ n42, (H2.bump 18).cell i1 3 = some (.int .i64 n42) ∧
 n14 = n42) ∧ (∃ n41, H12.cell i1 3 = some (.int .i64 n41) ∧
 n14 = n41) ∧ True) ∧
 True)))))))))
 else (
 ∃ n57, H2.cell i1 0 = some (.int .i64 n57) ∧
 bif (n57 == 6) then (
 ∃ n58, H2.cell i1 0 = some (.int .i64 n58) ∧
 bif (decide (n58 < 1)) then (
 R (.int .i64 1) H2)
 else (
 ∃ n59, H2.cell i1 0 = some (.int .i64 n59) ∧
 bif (decide (n59 > 10)) then (
 R (.int .i64 1) H2)
 else (
 ∃ n60, H2.cell i1 1 = some (.int .i64 n60) ∧
 bif (decide (n60 < 1)) then (
 R (.int .i64 1) H2)
 else (
 ∃ n61, H2.cell i1 1 = some (.int .i64 n61) ∧
 bif (decide (n61 > 64)) then (
 R (.int .i64 1) H2)
 else (
 ∃ n62, H2.cell i1 2 = some (.int .i64 n62) ∧
 bif (decide (n62 < 1)) then (
 R (.int .i64 1) H2)
 else (
 ∃ n63, H2.cell i1 2 = some (.int .i64 n63) ∧
 bif (decide (n63 > 4)) then (
 R (.int .i64 1) H2)
 else (
 ∃ n64, (H2.bump 18).cell i1 0 = some (.int .i64 n64) ∧
 CA en F.crossbarref07_bucketed [(.int .i64 n64)] (H2.bump 18) fun v65 H66 =>
 ∃ b67, v65 = (.bool b67) ∧
 ∃ n68, H66.cell i1 3 = some (.int .i64 n68) ∧
 bif (!(b67 == (n68 != 0))) then (
 (
 R (.int .i64 1) H66) ∧
 (((n68 != 0) = (n68 != 0)) ∧ ((n68 != 0) = (n68 != 0)) ∧ True) ∧
 ((∃ n70, (H2.bump 18).cell i1 3 = some (.int .i64 n70) ∧
 n68 = n70) ∧ (∃ n69, H66.cell i1 3 = some (.int .i64 n69) ∧
 n68 = n69) ∧ True) ∧
 True)
 else (
 ∃ n71, H66.cell i1 0 = some (.int .i64 n71) ∧
 CA en F.crossbarref07_bucketed [(.int .i64 n71)] H66 fun v72 H73 =>
 ∃ b74, v72 = (.bool b74) ∧
 bif b74 then (
 ∃ n75, H73.cell i1 3 = some (.int .i64 n75) ∧
 CA en F.crossbarref07_power [(.int .i64 n75)] H73 fun v76 H77 =>
 ∃ b78, v76 = (.bool b78) ∧
 (
 bif (!b78) then (
 R (.int .i64 1) H77)
 else (
 ∃ n81, H77.cell i1 0 = some (.int .i64 n81) ∧
 CA en F.crossbarref07_Nested [(.int .i64 n81)] H77 fun v82 H83 =>
 ∃ b84, v82 = (.bool b84) ∧
 bif (!b84) then (
 ∃ n85, H83.cell i1 4 = some (.int .i64 n85) ∧
 bif (n85 != 0) then (
 R (.int .i64 1) H83)
 else (
 R (.int .i64 0) H83))
 else (
 ∃ n86, H83.cell i1 4 = some (.int .i64 n86) ∧
 bif (decide (n86 < 1)) then (
 R (.int .i64 1) H83)
 else (
 ∃ n87, H83.cell i1 4 = some (.int .i64 n87) ∧
 bif (decide (n87 > ((x0l : Nat) : Int))) then (
 R (.int .i64 1) H83)
 else (
 ∃ n88, H83.cell i1 4 = some (.int .i64 n88) ∧
 inB (IntKind.i64.wrap (n88 - 1)) x0l ∧
 asRow x0 fun i89 i90 =>
 ∃ n91, H83.cell i89 (i90 + ((IntKind.i64.wrap (n88 - 1)).toNat * 5)) = some (.int .i64 n91) ∧
 CA en F.crossbarref07_Nested [(.int .i64 n91)] H83 fun v92 H93 =>
 ∃ b94, v92 = (.bool b94) ∧
 bif b94 then (
 R (.int .i64 14) H93)
 else (
 R (.int .i64 0) H93)))))) ∧
 (((n68 != 0) = (n68 != 0)) ∧ ((n68 != 0) = (n68 != 0)) ∧ True) ∧
 ((∃ n80, (H2.bump 18).cell i1 3 = some (.int .i64 n80) ∧
 n68 = n80) ∧ (∃ n79, H66.cell i1 3 = some (.int .i64 n79) ∧
 n68 = n79) ∧ True) ∧
 True)
 else (
 (
 ∃ n97, H73.cell i1 0 = some (.int .i64 n97) ∧
 CA en F.crossbarref07_Nested [(.int .i64 n97)] H73 fun v98 H99 =>
 ∃ b100, v98 = (.bool b100) ∧
 bif (!b100) then (
 ∃ n101, H99.cell i1 4 = some (.int .i64 n101) ∧
 bif (n101 != 0) then (
 R (.int .i64 1) H99)
 else (
 R (.int .i64 0) H99))
 else (
 ∃ n102, H99.cell i1 4 = some (.int .i64 n102) ∧
 bif (decide (n102 < 1)) then (
 R (.int .i64 1) H99)
 else (
 ∃ n103, H99.cell i1 4 = some (.int .i64 n103) ∧
 bif (decide (n103 > ((x0l : Nat) : Int))) then (
 R (.int .i64 1) H99)
 else (
 ∃ n104, H99.cell i1 4 = some (.int .i64 n104) ∧
 inB (IntKind.i64.wrap (n104 - 1)) x0l ∧
 asRow x0 fun i105 i106 =>
 ∃ n107, H99.cell i105 (i106 + ((IntKind.i64.wrap (n104 - 1)).toNat * 5)) = some (.int .i64 n107) ∧
 CA en F.crossbarref07_Nested [(.int .i64 n107)] H99 fun v108 H109 =>
 ∃ b110, v108 = (.bool b110) ∧
 bif b110 then (
 R (.int .i64 14) H109)
 else (
 R (.int .i64 0) H109))))) ∧
 (((n68 != 0) = (n68 != 0)) ∧ ((n68 != 0) = (n68 != 0)) ∧ True) ∧
 ((∃ n96, (H2.bump 18).cell i1 3 = some (.int .i64 n96) ∧
 n68 = n96) ∧ (∃ n95, H66.cell i1 3 = some (.int .i64 n95) ∧
 n68 = n95) ∧ True) ∧
 True)))))))))
 else (
 ∃ n111, H2.cell i1 0 = some (.int .i64 n111) ∧
 bif (n111 == 7) then (
 ∃ n112, H2.cell i1 0 = some (.int .i64 n112) ∧
 bif (decide (n112 < 1)) then (
 R (.int .i64 1) H2)
 else (
 ∃ n113, H2.cell i1 0 = some (.int .i64 n113) ∧
 bif (decide (n113 > 10)) then (
 R (.int .i64 1) H2)
 else (
 ∃ n114, H2.cell i1 1 = some (.int .i64 n114) ∧
 bif (decide (n114 < 1)) then (
 R (.int .i64 1) H2)
 else (
 ∃ n115, H2.cell i1 1 = some (.int .i64 n115) ∧
 bif (decide (n115 > 64)) then (
 R (.int .i64 1) H2)
 else (
 ∃ n116, H2.cell i1 2 = some (.int .i64 n116) ∧
 bif (decide (n116 < 1)) then (
 R (.int .i64 1) H2)
 else (
 ∃ n117, H2.cell i1 2 = some (.int .i64 n117) ∧
 bif (decide (n117 > 4)) then (
 R (.int .i64 1) H2)
 else (
 ∃ n118, (H2.bump 18).cell i1 0 = some (.int .i64 n118) ∧
 CA en F.crossbarref07_bucketed [(.int .i64 n118)] (H2.bump 18) fun v119 H120 =>
 ∃ b121, v119 = (.bool b121) ∧
 ∃ n122, H120.cell i1 3 = some (.int .i64 n122) ∧
 bif (!(b121 == (n122 != 0))) then (
 (
 R (.int .i64 1) H120) ∧
 (((n122 != 0) = (n122 != 0)) ∧ ((n122 != 0) = (n122 != 0)) ∧ True) ∧
 ((∃ n124, (H2.bump 18).cell i1 3 = some (.int .i64 n124) ∧
 n122 = n124) ∧ (∃ n123, H120.cell i1 3 = some (.int .i64 n123) ∧
 n122 = n123) ∧ True) ∧
 True)
 else (
 ∃ n125, H120.cell i1 0 = some (.int .i64 n125) ∧
 CA en F.crossbarref07_bucketed [(.int .i64 n125)] H120 fun v126 H127 =>
 ∃ b128, v126 = (.bool b128) ∧
 bif b128 then (
 ∃ n129, H127.cell i1 3 = some (.int .i64 n129) ∧
 CA en F.crossbarref07_power [(.int .i64 n129)] H127 fun v130 H131 =>
 ∃ b132, v130 = (.bool b132) ∧
 (
 bif (!b132) then (
 R (.int .i64 1) H131)
 else (
 ∃ n135, H131.cell i1 0 = some (.int .i64 n135) ∧
 CA en F.crossbarref07_Nested [(.int .i64 n135)] H131 fun v136 H137 =>
 ∃ b138, v136 = (.bool b138) ∧
 bif (!b138) then (
 ∃ n139, H137.cell i1 4 = some (.int .i64 n139) ∧
 bif (n139 != 0) then (
 R (.int .i64 1) H137)
 else (
 R (.int .i64 0) H137))
 else (
 ∃ n140, H137.cell i1 4 = some (.int .i64 n140) ∧
 bif (decide (n140 < 1)) then (
 R (.int .i64 1) H137)
 else (
 ∃ n141, H137.cell i1 4 = some (.int .i64 n141) ∧
 bif (decide (n141 > ((x0l : Nat) : Int))) then (
 R (.int .i64 1) H137)
 else (
 ∃ n142, H137.cell i1 4 = some (.int .i64 n142) ∧
 inB (IntKind.i64.wrap (n142 - 1)) x0l ∧
 asRow x0 fun i143 i144 =>
 ∃ n145, H137.cell i143 (i144 + ((IntKind.i64.wrap (n142 - 1)).toNat * 5)) = some (.int .i64 n145) ∧
 CA en F.crossbarref07_Nested [(.int .i64 n145)] H137 fun v146 H147 =>
 ∃ b148, v146 = (.bool b148) ∧
 bif b148 then (
 R (.int .i64 14) H147)
 else (
 R (.int .i64 0) H147)))))) ∧
 (((n122 != 0) = (n122 != 0)) ∧ ((n122 != 0) = (n122 != 0)) ∧ True) ∧
 ((∃ n134, (H2.bump 18).cell i1 3 = some (.int .i64 n134) ∧
 n122 = n134) ∧ (∃ n133, H120.cell i1 3 = some (.int .i64 n133) ∧
 n122 = n133) ∧ True) ∧
 True)
 else (
 (
 ∃ n151, H127.cell i1 0 = some (.int .i64 n151) ∧
 CA en F.crossbarref07_Nested [(.int .i64 n151)] H127 fun v152 H153 =>
 ∃ b154, v152 = (.bool b154) ∧
 bif (!b154) then (
 ∃ n155, H153.cell i1 4 = some (.int .i64 n155) ∧
 bif (n155 != 0) then (
 R (.int .i64 1) H153)
 else (
 R (.int .i64 0) H153))
 else (
 ∃ n156, H153.cell i1 4 = some (.int .i64 n156) ∧
 bif (decide (n156 < 1)) then (
 R (.int .i64 1) H153)
 else (
 ∃ n157, H153.cell i1 4 = some (.int .i64 n157) ∧
 bif (decide (n157 > ((x0l : Nat) : Int))) then (
 R (.int .i64 1) H153)
 else (
 ∃ n158, H153.cell i1 4 = some (.int .i64 n158) ∧
 inB (IntKind.i64.wrap (n158 - 1)) x0l ∧
 asRow x0 fun i159 i160 =>
 ∃ n161, H153.cell i159 (i160 + ((IntKind.i64.wrap (n158 - 1)).toNat * 5)) = some (.int .i64 n161) ∧
 CA en F.crossbarref07_Nested [(.int .i64 n161)] H153 fun v162 H163 =>
 ∃ b164, v162 = (.bool b164) ∧
 bif b164 then (
 R (.int .i64 14) H163)
 else (
 R (.int .i64 0) H163))))) ∧
 (((n122 != 0) = (n122 != 0)) ∧ ((n122 != 0) = (n122 != 0)) ∧ True) ∧
 ((∃ n150, (H2.bump 18).cell i1 3 = some (.int .i64 n150) ∧
 n122 = n150) ∧ (∃ n149, H120.cell i1 3 = some (.int .i64 n149) ∧
 n122 = n149) ∧ True) ∧
 True)))))))))
 else (
 ∃ n165, H2.cell i1 0 = some (.int .i64 n165) ∧
 bif (decide (n165 < 1)) then (
 R (.int .i64 1) H2)
 else (
 ∃ n166, H2.cell i1 0 = some (.int .i64 n166) ∧
 bif (decide (n166 > 10)) then (
 R (.int .i64 1) H2)
 else (
 ∃ n167, H2.cell i1 1 = some (.int .i64 n167) ∧
 bif (decide (n167 < 1)) then (
 R (.int .i64 1) H2)
 else (
 ∃ n168, H2.cell i1 1 = some (.int .i64 n168) ∧
 bif (decide (n168 > 64)) then (
 R (.int .i64 1) H2)
 else (
 ∃ n169, H2.cell i1 2 = some (.int .i64 n169) ∧
 bif (decide (n169 < 1)) then (
 R (.int .i64 1) H2)
 else (
 ∃ n170, H2.cell i1 2 = some (.int .i64 n170) ∧
 bif (decide (n170 > 1)) then (
 R (.int .i64 1) H2)
 else (
 ∃ n171, (H2.bump 18).cell i1 0 = some (.int .i64 n171) ∧
 CA en F.crossbarref07_bucketed [(.int .i64 n171)] (H2.bump 18) fun v172 H173 =>
 ∃ b174, v172 = (.bool b174) ∧
 ∃ n175, H173.cell i1 3 = some (.int .i64 n175) ∧
 bif (!(b174 == (n175 != 0))) then (
 (
 R (.int .i64 1) H173) ∧
 (((n175 != 0) = (n175 != 0)) ∧ ((n175 != 0) = (n175 != 0)) ∧ True) ∧
 ((∃ n177, (H2.bump 18).cell i1 3 = some (.int .i64 n177) ∧
 n175 = n177) ∧ (∃ n176, H173.cell i1 3 = some (.int .i64 n176) ∧
 n175 = n176) ∧ True) ∧
 True)
 else (
 ∃ n178, H173.cell i1 0 = some (.int .i64 n178) ∧
 CA en F.crossbarref07_bucketed [(.int .i64 n178)] H173 fun v179 H180 =>
 ∃ b181, v179 = (.bool b181) ∧
 bif b181 then (
 ∃ n182, H180.cell i1 3 = some (.int .i64 n182) ∧
 CA en F.crossbarref07_power [(.int .i64 n182)] H180 fun v183 H184 =>
 ∃ b185, v183 = (.bool b185) ∧
 (
 bif (!b185) then (
 R (.int .i64 1) H184)
 else (
 ∃ n188, H184.cell i1 0 = some (.int .i64 n188) ∧
 CA en F.crossbarref07_Nested [(.int .i64 n188)] H184 fun v189 H190 =>
 ∃ b191, v189 = (.bool b191) ∧
 bif (!b191) then (
 ∃ n192, H190.cell i1 4 = some (.int .i64 n192) ∧
 bif (n192 != 0) then (
 R (.int .i64 1) H190)
 else (
 R (.int .i64 0) H190))
 else (
 ∃ n193, H190.cell i1 4 = some (.int .i64 n193) ∧
 bif (decide (n193 < 1)) then (
 R (.int .i64 1) H190)
 else (
 ∃ n194, H190.cell i1 4 = some (.int .i64 n194) ∧
 bif (decide (n194 > ((x0l : Nat) : Int))) then (
 R (.int .i64 1) H190)
 else (
 ∃ n195, H190.cell i1 4 = some (.int .i64 n195) ∧
 inB (IntKind.i64.wrap (n195 - 1)) x0l ∧
 asRow x0 fun i196 i197 =>
 ∃ n198, H190.cell i196 (i197 + ((IntKind.i64.wrap (n195 - 1)).toNat * 5)) = some (.int .i64 n198) ∧
 CA en F.crossbarref07_Nested [(.int .i64 n198)] H190 fun v199 H200 =>
 ∃ b201, v199 = (.bool b201) ∧
 bif b201 then (
 R (.int .i64 14) H200)
 else (
 R (.int .i64 0) H200)))))) ∧
 (((n175 != 0) = (n175 != 0)) ∧ ((n175 != 0) = (n175 != 0)) ∧ True) ∧
 ((∃ n187, (H2.bump 18).cell i1 3 = some (.int .i64 n187) ∧
 n175 = n187) ∧ (∃ n186, H173.cell i1 3 = some (.int .i64 n186) ∧
 n175 = n186) ∧ True) ∧
 True)
 else (
 (
 ∃ n204, H180.cell i1 0 = some (.int .i64 n204) ∧
 CA en F.crossbarref07_Nested [(.int .i64 n204)] H180 fun v205 H206 =>
 ∃ b207, v205 = (.bool b207) ∧
 bif (!b207) then (
 ∃ n208, H206.cell i1 4 = some (.int .i64 n208) ∧
 bif (n208 != 0) then (
 R (.int .i64 1) H206)
 else (
 R (.int .i64 0) H206))
 else (
 ∃ n209, H206.cell i1 4 = some (.int .i64 n209) ∧
 bif (decide (n209 < 1)) then (
 R (.int .i64 1) H206)
 else (
 ∃ n210, H206.cell i1 4 = some (.int .i64 n210) ∧
 bif (decide (n210 > ((x0l : Nat) : Int))) then (
 R (.int .i64 1) H206)
 else (
 ∃ n211, H206.cell i1 4 = some (.int .i64 n211) ∧
 inB (IntKind.i64.wrap (n211 - 1)) x0l ∧
 asRow x0 fun i212 i213 =>
 ∃ n214, H206.cell i212 (i213 + ((IntKind.i64.wrap (n211 - 1)).toNat * 5)) = some (.int .i64 n214) ∧
 CA en F.crossbarref07_Nested [(.int .i64 n214)] H206 fun v215 H216 =>
 ∃ b217, v215 = (.bool b217) ∧
 bif b217 then (
 R (.int .i64 14) H216)
 else (
 R (.int .i64 0) H216))))) ∧
 (((n175 != 0) = (n175 != 0)) ∧ ((n175 != 0) = (n175 != 0)) ∧ True) ∧
 ((∃ n203, (H2.bump 18).cell i1 3 = some (.int .i64 n203) ∧
 n175 = n203) ∧ (∃ n202, H173.cell i1 3 = some (.int .i64 n202) ∧
 n175 = n202) ∧ True) ∧
 True)))))))))))) →
    CA en F.crossbarref07_one [(.slice x0 x0l 0), (.agg #[(.int .i64 x1_0), (.int .i64 x1_1), (.int .i64 x1_2), (.int .i64 x1_3), (.int .i64 x1_4)])] H R := by
  intro h
  refine wpFn_ok (Z := []) (fn := Go.Proofs.Try.f40) ?_ ?_ ?_
  · kernel_rfl
  · kernel_rfl
  · apply turnInto h
    kernel_rfl


/-! math_bits_OnesCount -/

theorem vc_math_bits_OnesCount (x0 : Int) (H : Heap) (R : Value → Heap → Prop) :
    (
 CA en F.math_bits_OnesCount64 [(.int .u64 x0)] H fun v1 H2 =>
 ∃ n3, v1 = (.int .i64 n3) ∧
 R (.int .i64 n3) H2) →
    CA en F.math_bits_OnesCount [(.int .u64 x0)] H R := by
  intro h
  refine wpFn_ok (Z := []) (fn := Go.Proofs.Try.f59) ?_ ?_ ?_
  · kernel_rfl
  · kernel_rfl
  · apply turnInto h
    kernel_rfl


/-! crossbarref07_bucketed -/

theorem vc_crossbarref07_bucketed (x0 : Int) (H : Heap) (R : Value → Heap → Prop) :
    (
 bif (x0 == 4) then (
 R (.bool true) H)
 else (
 bif (x0 == 8) then (
 R (.bool true) H)
 else (
 R (.bool (x0 == 10)) H))) →
    CA en F.crossbarref07_bucketed [(.int .i64 x0)] H R := by
  intro h
  refine wpFn_ok (Z := []) (fn := Go.Proofs.Try.f60) ?_ ?_ ?_
  · kernel_rfl
  · kernel_rfl
  · apply turnInto h
    kernel_rfl


/-! crossbarref07_power -/

theorem vc_crossbarref07_power (x0 : Int) (H : Heap) (R : Value → Heap → Prop) :
    (
 bif (x0 == 1) then (
 R (.bool true) H)
 else (
 bif (x0 == 2) then (
 R (.bool true) H)
 else (
 bif (x0 == 4) then (
 R (.bool true) H)
 else (
 bif (x0 == 8) then (
 R (.bool true) H)
 else (
 bif (x0 == 16) then (
 R (.bool true) H)
 else (
 R (.bool (x0 == 32)) H)))))) →
    CA en F.crossbarref07_power [(.int .i64 x0)] H R := by
  intro h
  refine wpFn_ok (Z := []) (fn := Go.Proofs.Try.f61) ?_ ?_ ?_
  · kernel_rfl
  · kernel_rfl
  · apply turnInto h
    kernel_rfl


/-! math_bits_OnesCount64 -/

theorem vc_math_bits_OnesCount64 (x0 : Int) (H : Heap) (R : Value → Heap → Prop) :
    (
 nn 1 ∧
 nn 2 ∧
 nn 4 ∧
 nn 8 ∧
 nn 16 ∧
 nn 32 ∧
 R (.int .i64 (IntKind.i64.wrap ((BitVec.ofInt 64 (IntKind.i64.wrap (IntKind.u64.wrap ((IntKind.u64.wrap ((IntKind.u64.wrap ((IntKind.u64.wrap ((BitVec.ofInt 64 (IntKind.u64.wrap ((Int.fdiv (IntKind.u64.wrap ((IntKind.u64.wrap ((BitVec.ofInt 64 (Int.fdiv (IntKind.u64.wrap ((IntKind.u64.wrap ((BitVec.ofInt 64 (Int.fdiv x0 2) &&& (BitVec.ofInt 64 6148914691236517205)).toNat : Int)) + (IntKind.u64.wrap ((BitVec.ofInt 64 x0 &&& (BitVec.ofInt 64 6148914691236517205)).toNat : Int)))) 4) &&& (BitVec.ofInt 64 3689348814741910323)).toNat : Int)) + (IntKind.u64.wrap ((BitVec.ofInt 64 (IntKind.u64.wrap ((IntKind.u64.wrap ((BitVec.ofInt 64 (Int.fdiv x0 2) &&& (BitVec.ofInt 64 6148914691236517205)).toNat : Int)) + (IntKind.u64.wrap ((BitVec.ofInt 64 x0 &&& (BitVec.ofInt 64 6148914691236517205)).toNat : Int)))) &&& (BitVec.ofInt 64 3689348814741910323)).toNat : Int)))) 16) + (IntKind.u64.wrap ((IntKind.u64.wrap ((BitVec.ofInt 64 (Int.fdiv (IntKind.u64.wrap ((IntKind.u64.wrap ((BitVec.ofInt 64 (Int.fdiv x0 2) &&& (BitVec.ofInt 64 6148914691236517205)).toNat : Int)) + (IntKind.u64.wrap ((BitVec.ofInt 64 x0 &&& (BitVec.ofInt 64 6148914691236517205)).toNat : Int)))) 4) &&& (BitVec.ofInt 64 3689348814741910323)).toNat : Int)) + (IntKind.u64.wrap ((BitVec.ofInt 64 (IntKind.u64.wrap ((IntKind.u64.wrap ((BitVec.ofInt 64 (Int.fdiv x0 2) &&& (BitVec.ofInt 64 6148914691236517205)).toNat : Int)) + (IntKind.u64.wrap ((BitVec.ofInt 64 x0 &&& (BitVec.ofInt 64 6148914691236517205)).toNat : Int)))) &&& (BitVec.ofInt 64 3689348814741910323)).toNat : Int)))))) &&& (BitVec.ofInt 64 1085102592571150095)).toNat : Int)) + (Int.fdiv (IntKind.u64.wrap ((BitVec.ofInt 64 (IntKind.u64.wrap ((Int.fdiv (IntKind.u64.wrap ((IntKind.u64.wrap ((BitVec.ofInt 64 (Int.fdiv (IntKind.u64.wrap ((IntKind.u64.wrap ((BitVec.ofInt 64 (Int.fdiv x0 2) &&& (BitVec.ofInt 64 6148914691236517205)).toNat : Int)) + (IntKind.u64.wrap ((BitVec.ofInt 64 x0 &&& (BitVec.ofInt 64 6148914691236517205)).toNat : Int)))) 4) &&& (BitVec.ofInt 64 3689348814741910323)).toNat : Int)) + (IntKind.u64.wrap ((BitVec.ofInt 64 (IntKind.u64.wrap ((IntKind.u64.wrap ((BitVec.ofInt 64 (Int.fdiv x0 2) &&& (BitVec.ofInt 64 6148914691236517205)).toNat : Int)) + (IntKind.u64.wrap ((BitVec.ofInt 64 x0 &&& (BitVec.ofInt 64 6148914691236517205)).toNat : Int)))) &&& (BitVec.ofInt 64 3689348814741910323)).toNat : Int)))) 16) + (IntKind.u64.wrap ((IntKind.u64.wrap ((BitVec.ofInt 64 (Int.fdiv (IntKind.u64.wrap ((IntKind.u64.wrap ((BitVec.ofInt 64 (Int.fdiv x0 2) &&& (BitVec.ofInt 64 6148914691236517205)).toNat : Int)) + (IntKind.u64.wrap ((BitVec.ofInt 64 x0 &&& (BitVec.ofInt 64 6148914691236517205)).toNat : Int)))) 4) &&& (BitVec.ofInt 64 3689348814741910323)).toNat : Int)) + (IntKind.u64.wrap ((BitVec.ofInt 64 (IntKind.u64.wrap ((IntKind.u64.wrap ((BitVec.ofInt 64 (Int.fdiv x0 2) &&& (BitVec.ofInt 64 6148914691236517205)).toNat : Int)) + (IntKind.u64.wrap ((BitVec.ofInt 64 x0 &&& (BitVec.ofInt 64 6148914691236517205)).toNat : Int)))) &&& (BitVec.ofInt 64 3689348814741910323)).toNat : Int)))))) &&& (BitVec.ofInt 64 1085102592571150095)).toNat : Int)) 256))) + (Int.fdiv (IntKind.u64.wrap ((IntKind.u64.wrap ((BitVec.ofInt 64 (IntKind.u64.wrap ((Int.fdiv (IntKind.u64.wrap ((IntKind.u64.wrap ((BitVec.ofInt 64 (Int.fdiv (IntKind.u64.wrap ((IntKind.u64.wrap ((BitVec.ofInt 64 (Int.fdiv x0 2) &&& (BitVec.ofInt 64 6148914691236517205)).toNat : Int)) + (IntKind.u64.wrap ((BitVec.ofInt 64 x0 &&& (BitVec.ofInt 64 6148914691236517205)).toNat : Int)))) 4) &&& (BitVec.ofInt 64 3689348814741910323)).toNat : Int)) + (IntKind.u64.wrap ((BitVec.ofInt 64 (IntKind.u64.wrap ((IntKind.u64.wrap ((BitVec.ofInt 64 (Int.fdiv x0 2) &&& (BitVec.ofInt 64 6148914691236517205)).toNat : Int)) + (IntKind.u64.wrap ((BitVec.ofInt 64 x0 &&& (BitVec.ofInt 64 6148914691236517205)).toNat : Int)))) &&& (BitVec.ofInt 64 3689348814741910323)).toNat : Int)))) 16) + (IntKind.u64.wrap ((IntKind.u64.wrap ((BitVec.ofInt 64 (Int.fdiv (IntKind.u64.wrap ((IntKind.u64.wrap ((BitVec.ofInt 64 (Int.fdiv x0 2) &&& (BitVec.ofInt 64 6148914691236517205)).toNat : Int)) + (IntKind.u64.wrap ((BitVec.ofInt 64 x0 &&& (BitVec.ofInt 64 6148914691236517205)).toNat : Int)))) 4) &&& (BitVec.ofInt 64 3689348814741910323)).toNat : Int)) + (IntKind.u64.wrap ((BitVec.ofInt 64 (IntKind.u64.wrap ((IntKind.u64.wrap ((BitVec.ofInt 64 (Int.fdiv x0 2) &&& (BitVec.ofInt 64 6148914691236517205)).toNat : Int)) + (IntKind.u64.wrap ((BitVec.ofInt 64 x0 &&& (BitVec.ofInt 64 6148914691236517205)).toNat : Int)))) &&& (BitVec.ofInt 64 3689348814741910323)).toNat : Int)))))) &&& (BitVec.ofInt 64 1085102592571150095)).toNat : Int)) + (Int.fdiv (IntKind.u64.wrap ((BitVec.ofInt 64 (IntKind.u64.wrap ((Int.fdiv (IntKind.u64.wrap ((IntKind.u64.wrap ((BitVec.ofInt 64 (Int.fdiv (IntKind.u64.wrap ((IntKind.u64.wrap ((BitVec.ofInt 64 (Int.fdiv x0 2) &&& (BitVec.ofInt 64 6148914691236517205)).toNat : Int)) + (IntKind.u64.wrap ((BitVec.ofInt 64 x0 &&& (BitVec.ofInt 64 6148914691236517205)).toNat : Int)))) 4) &&& (BitVec.ofInt 64 3689348814741910323)).toNat : Int)) + (IntKind.u64.wrap ((BitVec.ofInt 64 (IntKind.u64.wrap ((IntKind.u64.wrap ((BitVec.ofInt 64 (Int.fdiv x0 2) &&& (BitVec.ofInt 64 6148914691236517205)).toNat : Int)) + (IntKind.u64.wrap ((BitVec.ofInt 64 x0 &&& (BitVec.ofInt 64 6148914691236517205)).toNat : Int)))) &&& (BitVec.ofInt 64 3689348814741910323)).toNat : Int)))) 16) + (IntKind.u64.wrap ((IntKind.u64.wrap ((BitVec.ofInt 64 (Int.fdiv (IntKind.u64.wrap ((IntKind.u64.wrap ((BitVec.ofInt 64 (Int.fdiv x0 2) &&& (BitVec.ofInt 64 6148914691236517205)).toNat : Int)) + (IntKind.u64.wrap ((BitVec.ofInt 64 x0 &&& (BitVec.ofInt 64 6148914691236517205)).toNat : Int)))) 4) &&& (BitVec.ofInt 64 3689348814741910323)).toNat : Int)) + (IntKind.u64.wrap ((BitVec.ofInt 64 (IntKind.u64.wrap ((IntKind.u64.wrap ((BitVec.ofInt 64 (Int.fdiv x0 2) &&& (BitVec.ofInt 64 6148914691236517205)).toNat : Int)) + (IntKind.u64.wrap ((BitVec.ofInt 64 x0 &&& (BitVec.ofInt 64 6148914691236517205)).toNat : Int)))) &&& (BitVec.ofInt 64 3689348814741910323)).toNat : Int)))))) &&& (BitVec.ofInt 64 1085102592571150095)).toNat : Int)) 256))) 65536))) + (Int.fdiv (IntKind.u64.wrap ((IntKind.u64.wrap ((IntKind.u64.wrap ((BitVec.ofInt 64 (IntKind.u64.wrap ((Int.fdiv (IntKind.u64.wrap ((IntKind.u64.wrap ((BitVec.ofInt 64 (Int.fdiv (IntKind.u64.wrap ((IntKind.u64.wrap ((BitVec.ofInt 64 (Int.fdiv x0 2) &&& (BitVec.ofInt 64 6148914691236517205)).toNat : Int)) + (IntKind.u64.wrap ((BitVec.ofInt 64 x0 &&& (BitVec.ofInt 64 6148914691236517205)).toNat : Int)))) 4) &&& (BitVec.ofInt 64 3689348814741910323)).toNat : Int)) + (IntKind.u64.wrap ((BitVec.ofInt 64 (IntKind.u64.wrap ((IntKind.u64.wrap ((BitVec.ofInt 64 (Int.fdiv x0 2) &&& (BitVec.ofInt 64 6148914691236517205)).toNat : Int)) + (IntKind.u64.wrap ((BitVec.ofInt 64 x0 &&& (BitVec.ofInt 64 6148914691236517205)).toNat : Int)))) &&& (BitVec.ofInt 64 3689348814741910323)).toNat : Int)))) 16) + (IntKind.u64.wrap ((IntKind.u64.wrap ((BitVec.ofInt 64 (Int.fdiv (IntKind.u64.wrap ((IntKind.u64.wrap ((BitVec.ofInt 64 (Int.fdiv x0 2) &&& (BitVec.ofInt 64 6148914691236517205)).toNat : Int)) + (IntKind.u64.wrap ((BitVec.ofInt 64 x0 &&& (BitVec.ofInt 64 6148914691236517205)).toNat : Int)))) 4) &&& (BitVec.ofInt 64 3689348814741910323)).toNat : Int)) + (IntKind.u64.wrap ((BitVec.ofInt 64 (IntKind.u64.wrap ((IntKind.u64.wrap ((BitVec.ofInt 64 (Int.fdiv x0 2) &&& (BitVec.ofInt 64 6148914691236517205)).toNat : Int)) + (IntKind.u64.wrap ((BitVec.ofInt 64 x0 &&& (BitVec.ofInt 64 6148914691236517205)).toNat : Int)))) &&& (BitVec.ofInt 64 3689348814741910323)).toNat : Int)))))) &&& (BitVec.ofInt 64 1085102592571150095)).toNat : Int)) + (Int.fdiv (IntKind.u64.wrap ((BitVec.ofInt 64 (IntKind.u64.wrap ((Int.fdiv (IntKind.u64.wrap ((IntKind.u64.wrap ((BitVec.ofInt 64 (Int.fdiv (IntKind.u64.wrap ((IntKind.u64.wrap ((BitVec.ofInt 64 (Int.fdiv x0 2) &&& (BitVec.ofInt 64 6148914691236517205)).toNat : Int)) + (IntKind.u64.wrap ((BitVec.ofInt 64 x0 &&& (BitVec.ofInt 64 6148914691236517205)).toNat : Int)))) 4) &&& (BitVec.ofInt 64 3689348814741910323)).toNat : Int)) + (IntKind.u64.wrap ((BitVec.ofInt 64 (IntKind.u64.wrap ((IntKind.u64.wrap ((BitVec.ofInt 64 (Int.fdiv x0 2) &&& (BitVec.ofInt 64 6148914691236517205)).toNat : Int)) + (IntKind.u64.wrap ((BitVec.ofInt 64 x0 &&& (BitVec.ofInt 64 6148914691236517205)).toNat : Int)))) &&& (BitVec.ofInt 64 3689348814741910323)).toNat : Int)))) 16) + (IntKind.u64.wrap ((IntKind.u64.wrap ((BitVec.ofInt 64 (Int.fdiv (IntKind.u64.wrap ((IntKind.u64.wrap ((BitVec.ofInt 64 (Int.fdiv x0 2) &&& (BitVec.ofInt 64 6148914691236517205)).toNat : Int)) + (IntKind.u64.wrap ((BitVec.ofInt 64 x0 &&& (BitVec.ofInt 64 6148914691236517205)).toNat : Int)))) 4) &&& (BitVec.ofInt 64 3689348814741910323)).toNat : Int)) + (IntKind.u64.wrap ((BitVec.ofInt 64 (IntKind.u64.wrap ((IntKind.u64.wrap ((BitVec.ofInt 64 (Int.fdiv x0 2) &&& (BitVec.ofInt 64 6148914691236517205)).toNat : Int)) + (IntKind.u64.wrap ((BitVec.ofInt 64 x0 &&& (BitVec.ofInt 64 6148914691236517205)).toNat : Int)))) &&& (BitVec.ofInt 64 3689348814741910323)).toNat : Int)))))) &&& (BitVec.ofInt 64 1085102592571150095)).toNat : Int)) 256))) + (Int.fdiv (IntKind.u64.wrap ((IntKind.u64.wrap ((BitVec.ofInt 64 (IntKind.u64.wrap ((Int.fdiv (IntKind.u64.wrap ((IntKind.u64.wrap ((BitVec.ofInt 64 (Int.fdiv (IntKind.u64.wrap ((IntKind.u64.wrap ((BitVec.ofInt 64 (Int.fdiv x0 2) &&& (BitVec.ofInt 64 6148914691236517205)).toNat : Int)) + (IntKind.u64.wrap ((BitVec.ofInt 64 x0 &&& (BitVec.ofInt 64 6148914691236517205)).toNat : Int)))) 4) &&& (BitVec.ofInt 64 3689348814741910323)).toNat : Int)) + (IntKind.u64.wrap ((BitVec.ofInt 64 (IntKind.u64.wrap ((IntKind.u64.wrap ((BitVec.ofInt 64 (Int.fdiv x0 2) &&& (BitVec.ofInt 64 6148914691236517205)).toNat : Int)) + (IntKind.u64.wrap ((BitVec.ofInt 64 x0 &&& (BitVec.ofInt 64 6148914691236517205)).toNat : Int)))) &&& (BitVec.ofInt 64 3689348814741910323)).toNat : Int)))) 16) + (IntKind.u64.wrap ((IntKind.u64.wrap ((BitVec.ofInt 64 (Int.fdiv (IntKind.u64.wrap ((IntKind.u64.wrap ((BitVec.ofInt 64 (Int.fdiv x0 2) &&& (BitVec.ofInt 64 6148914691236517205)).toNat : Int)) + (IntKind.u64.wrap ((BitVec.ofInt 64 x0 &&& (BitVec.ofInt 64 6148914691236517205)).toNat : Int)))) 4) &&& (BitVec.ofInt 64 3689348814741910323)).toNat : Int)) + (IntKind.u64.wrap ((BitVec.ofInt 64 (IntKind.u64.wrap ((IntKind.u64.wrap ((BitVec.ofInt 64 (Int.fdiv x0 2) &&& (BitVec.ofInt 64 6148914691236517205)).toNat : Int)) + (IntKind.u64.wrap ((BitVec.ofInt 64 x0 &&& (BitVec.ofInt 64 6148914691236517205)).toNat : Int)))) &&& (BitVec.ofInt 64 3689348814741910323)).toNat : Int)))))) &&& (BitVec.ofInt 64 1085102592571150095)).toNat : Int)) + (Int.fdiv (IntKind.u64.wrap ((BitVec.ofInt 64 (IntKind.u64.wrap ((Int.fdiv (IntKind.u64.wrap ((IntKind.u64.wrap ((BitVec.ofInt 64 (Int.fdiv (IntKind.u64.wrap ((IntKind.u64.wrap ((BitVec.ofInt 64 (Int.fdiv x0 2) &&& (BitVec.ofInt 64 6148914691236517205)).toNat : Int)) + (IntKind.u64.wrap ((BitVec.ofInt 64 x0 &&& (BitVec.ofInt 64 6148914691236517205)).toNat : Int)))) 4) &&& (BitVec.ofInt 64 3689348814741910323)).toNat : Int)) + (IntKind.u64.wrap ((BitVec.ofInt 64 (IntKind.u64.wrap ((IntKind.u64.wrap ((BitVec.ofInt 64 (Int.fdiv x0 2) &&& (BitVec.ofInt 64 6148914691236517205)).toNat : Int)) + (IntKind.u64.wrap ((BitVec.ofInt 64 x0 &&& (BitVec.ofInt 64 6148914691236517205)).toNat : Int)))) &&& (BitVec.ofInt 64 3689348814741910323)).toNat : Int)))) 16) + (IntKind.u64.wrap ((IntKind.u64.wrap ((BitVec.ofInt 64 (Int.fdiv (IntKind.u64.wrap ((IntKind.u64.wrap ((BitVec.ofInt 64 (Int.fdiv x0 2) &&& (BitVec.ofInt 64 6148914691236517205)).toNat : Int)) + (IntKind.u64.wrap ((BitVec.ofInt 64 x0 &&& (BitVec.ofInt 64 6148914691236517205)).toNat : Int)))) 4) &&& (BitVec.ofInt 64 3689348814741910323)).toNat : Int)) + (IntKind.u64.wrap ((BitVec.ofInt 64 (IntKind.u64.wrap ((IntKind.u64.wrap ((BitVec.ofInt 64 (Int.fdiv x0 2) &&& (BitVec.ofInt 64 6148914691236517205)).toNat : Int)) + (IntKind.u64.wrap ((BitVec.ofInt 64 x0 &&& (BitVec.ofInt 64 6148914691236517205)).toNat : Int)))) &&& (BitVec.ofInt 64 3689348814741910323)).toNat : Int)))))) &&& (BitVec.ofInt 64 1085102592571150095)).toNat : Int)) 256))) 65536))) 4294967296)))) &&& (BitVec.ofInt 64 127)).toNat : Int))) H) →
    CA en F.math_bits_OnesCount64 [(.int .u64 x0)] H R := by
  intro h
  refine wpFn_ok (Z := []) (fn := Go.Proofs.Try.f72) ?_ ?_ ?_
  · kernel_rfl
  · kernel_rfl
  · apply turnInto h
    kernel_rfl

end Go.Proofs.Ytlkmdcncpdadbaa
