/-
  What functions of this seat's program need (printed by a program, checked by the kernel).
-/
import Derived.Test.YtmgkngdbphkmmaaDoorNames
import Derived.Test.YtmgkngdbphkmmaaDoorAs41
namespace Go.Proofs.YtmgkngdbphkmmaaDoor
open Go Go.AS Go.RowKit
set_option linter.unusedVariables false
set_option maxRecDepth 100000

/-! flow_Targets -/

theorem vc_flow_Targets (x0 : Option Addr) (x0l : Nat) (H : Heap) (R : Value → Heap → Prop) :
    (
 bif (decide (((x0l : Nat) : Int) > 256)) then (
 R (.tuple #[(.slice none 0 0), (.int .i64 19)]) H)
 else (
 bif (((x0l : Nat) : Int) == 0) then (
 R (.tuple #[(.slice none 0 0), (.int .i64 12)]) H)
 else (
 CA en F.flow_targets [(.slice x0 x0l 0)] H fun v1 H2 =>
 ∃ a3 i4, ∃ n5, v1 = (.tuple #[(.slice a3 i4 0), (.int .i64 n5)]) ∧
 bif (n5 != 0) then (
 R (.tuple #[(.slice none 0 0), (.int .i64 n5)]) H2)
 else (
 CA en F.flow_Next [(.slice x0 x0l 0), (.slice a3 i4 0), (.int .i64 (IntKind.i64.wrap (((x0l : Nat) : Int) - 1)))] H2 fun v6 H7 =>
 ∃ a8 i9, v6 = (.slice a8 i9 0) ∧
 CA en F.slices_Contains_int_int [(.slice a8 i9 0), (.int .i64 ((x0l : Nat) : Int))] H7 fun v10 H11 =>
 ∃ b12, v10 = (.bool b12) ∧
 bif b12 then (
 R (.tuple #[(.slice none 0 0), (.int .i64 12)]) H11)
 else (
 CA en F.flow_reached [(.slice x0 x0l 0), (.slice a3 i4 0)] H11 fun v13 H14 =>
 ∃ b15, v13 = (.bool b15) ∧
 bif (!b15) then (
 R (.tuple #[(.slice none 0 0), (.int .i64 13)]) H14)
 else (
 R (.tuple #[(.slice a3 i4 0), (.int .i64 0)]) H14)))))) →
    CA en F.flow_Targets [(.slice x0 x0l 0)] H R := by
  intro h
  refine wpFn_ok (Z := []) (fn := Go.Proofs.Tryd.f33) ?_ ?_ ?_
  · kernel_rfl
  · kernel_rfl
  · apply turnInto h
    kernel_rfl


/-! flow_Places -/
noncomputable def L_flow_Places_0 : Code := loopAt Go.Proofs.Tryd.f35 0

theorem vc_flow_Places (x0 : Option Addr) (x0l : Nat) (H : Heap) (R : Value → Heap → Prop) :
    (
 LA en L_flow_Places_0 [(.slice x0 x0l 0), undef, (.slice none 0 0), (.slice none 0 0), (.int .i64 0), undef, undef, (.slice x0 x0l 0), (.int .i64 ((x0l : Nat) : Int)), (.int .i64 0), undef, undef, undef, undef, undef, undef, undef, undef, undef, undef, undef, undef, undef, undef, undef, undef] H [(X.exit 0, fun (y1 : Fr) (H2 : Heap) =>
 asSl (y1.getD 3 undef) fun a3 i4 =>
 R (.slice a3 i4 0) H2)]) →
    CA en F.flow_Places [(.slice x0 x0l 0)] H R := by
  intro h
  refine wpFn_ok (Z := [[(3, (.slice none 0 0))]]) (fn := Go.Proofs.Tryd.f35) ?_ ?_ ?_
  · kernel_rfl
  · kernel_rfl
  · apply turnInto h
    kernel_rfl

theorem use_flow_Places_0 {t0 : Option Addr} {t0l : Nat} {t7 : Option Addr} {t7l : Nat} {t8 : Int} {K0 : Fr → Heap → Prop} {t3 : Option Addr} {t3l : Nat} {t4 : Int} {t9 : Int} {t6 : Value} {t10 : Value} {t11 : Value} {t12 : Value} {t13 : Value} {t14 : Value} {t15 : Value} {t16 : Value} {t17 : Value} {t18 : Value} {t19 : Value} {t20 : Value} {t21 : Value} {t22 : Value} {t23 : Value} {t24 : Value} {H : Heap} (I : Nat → Option Addr → Nat → Int → Int → Heap → Prop) (n : Nat) (h0 : I n t3 t3l t4 t9 H)
    (hstep : ∀ (n : Nat) (t3 : Option Addr) (t3l : Nat) (t4 : Int) (t9 : Int) (ys : Fr) (H : Heap), I n t3 t3l t4 t9 H →
    (
 bif (decide (t9 < t8)) then (
 inB t9 t7l ∧
 asRow t7 fun i1 i2 =>
 ∃ n3, ∃ n4, ∃ n5, ∃ n6, ∃ n7, H.cellsAt i1 (i2 + (t9.toNat * 5)) 5 = some [(.int .i64 n3), (.int .i64 n4), (.int .i64 n5), (.int .i64 n6), (.int .i64 n7)] ∧
 nwH H (.cells true 0 [(.int .i64 0), (.int .i64 0), (.int .i64 0), (.int .i64 0), (.int .i64 0)]) fun i8 H9 =>
 stc H9 i8 0 [(.int .i64 n3), (.int .i64 n4), (.int .i64 n5), (.int .i64 n6), (.int .i64 n7)] fun H10 =>
 nwH H10 (.cells true 1 [(.int .i64 t4)]) fun i11 H12 =>
 ∃ l13, rowOf H12 1 (some ⟨i11, 0, none⟩) 1 = some l13 ∧
 apd H12 8 1 t3 t3l 1 l13 fun a14 i15 H16 =>
 ∃ n17, H16.cell i8 0 = some (.int .i64 n17) ∧
 bif (n17 == 24) then (
 ∃ k18, k18 < n ∧
 I k18 a14 i15 (IntKind.i64.wrap ((IntKind.i64.wrap (t4 + 1)) + 1)) (IntKind.i64.wrap (t9 + 1)) H16)
 else (
 ∃ k19, k19 < n ∧
 I k19 a14 i15 (IntKind.i64.wrap (t4 + 1)) (IntKind.i64.wrap (t9 + 1)) H16))
 else (
 K0 [(.slice t0 t0l 0), undef, (.slice none 0 0), (.slice t3 t3l 0), (.int .i64 t4), undef, (ys.getD 6 undef), (.slice t7 t7l 0), (.int .i64 t8), (.int .i64 t9), (.bool false), (ys.getD 11 undef), (ys.getD 12 undef), (ys.getD 13 undef), (ys.getD 14 undef), (ys.getD 15 undef), (ys.getD 16 undef), (ys.getD 17 undef), (ys.getD 18 undef), (ys.getD 19 undef), (ys.getD 20 undef), (ys.getD 21 undef), (ys.getD 22 undef), (ys.getD 23 undef), (ys.getD 24 undef), undef] H))) :
    LA en L_flow_Places_0 [(.slice t0 t0l 0), undef, (.slice none 0 0), (.slice t3 t3l 0), (.int .i64 t4), undef, t6, (.slice t7 t7l 0), (.int .i64 t8), (.int .i64 t9), t10, t11, t12, t13, t14, t15, t16, t17, t18, t19, t20, t21, t22, t23, t24, undef] H [(X.exit 0, K0)] := by
  refine LA_rule (Z := []) (fun m xs H' => asSl (xs.getD 3 undef) fun t3 t3l => AS.asInt .i64 (xs.getD 4 undef) fun t4 => AS.asInt .i64 (xs.getD 9 undef) fun t9 => I m t3 t3l t4 t9 H') ?_ n H ?_
  · intro n H
    suffices hs : ∀ s10 : Value, ∀ s11 : Value, ∀ s12 : Value, ∀ s6 : Value, ∀ s13 : Value, ∀ s14 : Value, ∀ s15 : Value, ∀ s16 : Value, ∀ s3 : Value, ∀ s17 : Value, ∀ s18 : Value, ∀ s4 : Value, ∀ s19 : Value, ∀ s20 : Value, ∀ s21 : Value, ∀ s22 : Value, ∀ s23 : Value, ∀ s24 : Value, ∀ s9 : Value, ((asSl s3 fun t3 t3l => AS.asInt .i64 s4 fun t4 => AS.asInt .i64 s9 fun t9 => I n t3 t3l t4 t9 H) → wpCode en L_flow_Places_0 [] [(.slice t0 t0l 0), undef, (.slice none 0 0), s3, s4, undef, s6, (.slice t7 t7l 0), (.int .i64 t8), s9, s10, s11, s12, s13, s14, s15, s16, s17, s18, s19, s20, s21, s22, s23, s24, undef] H (loopQ (fun m xs H' => asSl (xs.getD 3 undef) fun t3 t3l => AS.asInt .i64 (xs.getD 4 undef) fun t4 => AS.asInt .i64 (xs.getD 9 undef) fun t9 => I m t3 t3l t4 t9 H') n [(X.exit 0, K0)])) by
      apply turnInto hs
      kernel_rfl
    intro s10 s11 s12 s6 s13 s14 s15 s16 s3 s17 s18 s4 s19 s20 s21 s22 s23 s24 s9 hP
    replace hP := asSl_elim hP
    obtain ⟨t3, t3l, rfl, hP⟩ := hP
    replace hP := asInt_elim hP
    obtain ⟨t4, rfl, hP⟩ := hP
    replace hP := asInt_elim hP
    obtain ⟨t9, rfl, hP⟩ := hP
    apply turnInto (hstep n t3 t3l t4 t9 [(.slice t0 t0l 0), undef, (.slice none 0 0), (.slice t3 t3l 0), (.int .i64 t4), undef, s6, (.slice t7 t7l 0), (.int .i64 t8), (.int .i64 t9), s10, s11, s12, s13, s14, s15, s16, s17, s18, s19, s20, s21, s22, s23, s24, undef] H hP)
    kernel_rfl
  · apply turnInto h0
    kernel_rfl


/-! flow_Jumps -/

theorem vc_flow_Jumps (x0_0 : Int) (x0_1 : Int) (x0_2 : Int) (x0_3 : Int) (x0_4 : Int) (H : Heap) (R : Value → Heap → Prop) :
    (
 nwH H (.cells true 0 [(.int .i64 x0_0), (.int .i64 x0_1), (.int .i64 x0_2), (.int .i64 x0_3), (.int .i64 x0_4)]) fun i1 H2 =>
 ∃ n3, H2.cell i1 0 = some (.int .i64 n3) ∧
 CA en F.insn_Class [(.int .i64 n3)] H2 fun v4 H5 =>
 ∃ n6, v4 = (.int .i64 n6) ∧
 bif (n6 == 5) then (
 ∃ n7, H5.cell i1 0 = some (.int .i64 n7) ∧
 bif (n7 != 149) then (
 ∃ n8, H5.cell i1 0 = some (.int .i64 n8) ∧
 R (.bool (n8 != 133)) H5)
 else (
 R (.bool false) H5))
 else (
 bif (n6 == 6) then (
 ∃ n9, H5.cell i1 0 = some (.int .i64 n9) ∧
 bif (n9 != 149) then (
 ∃ n10, H5.cell i1 0 = some (.int .i64 n10) ∧
 R (.bool (n10 != 133)) H5)
 else (
 R (.bool false) H5))
 else (
 R (.bool false) H5))) →
    CA en F.flow_Jumps [(.agg #[(.int .i64 x0_0), (.int .i64 x0_1), (.int .i64 x0_2), (.int .i64 x0_3), (.int .i64 x0_4)])] H R := by
  intro h
  refine wpFn_ok (Z := []) (fn := Go.Proofs.Tryd.f38) ?_ ?_ ?_
  · kernel_rfl
  · kernel_rfl
  · apply turnInto h
    kernel_rfl


/-! flow_Next -/

theorem vc_flow_Next (x0 : Option Addr) (x0l : Nat) (x1 : Option Addr) (x1l : Nat) (x2 : Int) (H : Heap) (R : Value → Heap → Prop) :
    (
 inB x2 x0l ∧
 asRow x0 fun i1 i2 =>
 ∃ n3, H.cell i1 (i2 + (x2.toNat * 5)) = some (.int .i64 n3) ∧
 bif (n3 == 149) then (
 inB x2 x1l ∧
 asRow x1 fun i4 i5 =>
 ∃ n6, H.cell i4 (i5 + (x2.toNat * 1)) = some (.int .i64 n6) ∧
 nwH H (.cells true 1 [(.int .i64 (-1)), (.int .i64 n6)]) fun i7 H8 =>
 CA en F.flow_gather [(.slice (some ⟨i7, 0, none⟩) 2 0)] H8 fun v9 H10 =>
 ∃ a11 i12, v9 = (.slice a11 i12 0) ∧
 R (.slice a11 i12 0) H10)
 else (
 inB x2 x0l ∧
 asRow x0 fun i13 i14 =>
 ∃ n15, H.cell i13 (i14 + (x2.toNat * 5)) = some (.int .i64 n15) ∧
 bif (n15 == 5) then (
 inB x2 x1l ∧
 asRow x1 fun i16 i17 =>
 ∃ n18, H.cell i16 (i17 + (x2.toNat * 1)) = some (.int .i64 n18) ∧
 nwH H (.cells true 1 [(.int .i64 (-1)), (.int .i64 n18)]) fun i19 H20 =>
 CA en F.flow_gather [(.slice (some ⟨i19, 0, none⟩) 2 0)] H20 fun v21 H22 =>
 ∃ a23 i24, v21 = (.slice a23 i24 0) ∧
 R (.slice a23 i24 0) H22)
 else (
 inB x2 x1l ∧
 asRow x1 fun i25 i26 =>
 ∃ n27, H.cell i25 (i26 + (x2.toNat * 1)) = some (.int .i64 n27) ∧
 nwH H (.cells true 1 [(.int .i64 (IntKind.i64.wrap (x2 + 1))), (.int .i64 n27)]) fun i28 H29 =>
 CA en F.flow_gather [(.slice (some ⟨i28, 0, none⟩) 2 0)] H29 fun v30 H31 =>
 ∃ a32 i33, v30 = (.slice a32 i33 0) ∧
 R (.slice a32 i33 0) H31))) →
    CA en F.flow_Next [(.slice x0 x0l 0), (.slice x1 x1l 0), (.int .i64 x2)] H R := by
  intro h
  refine wpFn_ok (Z := []) (fn := Go.Proofs.Tryd.f40) ?_ ?_ ?_
  · kernel_rfl
  · kernel_rfl
  · apply turnInto h
    kernel_rfl


/-! flow_targets -/
noncomputable def L_flow_targets_0 : Code := loopAt Go.Proofs.Tryd.f62 0

theorem vc_flow_targets (x0 : Option Addr) (x0l : Nat) (H : Heap) (R : Value → Heap → Prop) :
    (
 CA en F.flow_Places [(.slice x0 x0l 0)] H fun v1 H2 =>
 ∃ a3 i4, v1 = (.slice a3 i4 0) ∧
 LA en L_flow_targets_0 [(.slice x0 x0l 0), undef, (.slice none 0 0), (.int .i64 0), (.slice none 0 0), (.slice a3 i4 0), undef, undef, undef, undef, undef, (.slice x0 x0l 0), (.slice a3 i4 0), (.slice x0 x0l 0), (.int .i64 ((x0l : Nat) : Int)), (.int .i64 0), undef, undef, undef, undef, undef, undef, undef, undef, undef, undef, undef, undef, undef, undef, undef, undef, undef, undef, undef, undef, undef, undef, undef, undef, undef, undef, undef, undef] H2 [(X.exit 0, fun (y5 : Fr) (H6 : Heap) =>
 asSl (y5.getD 2 undef) fun a7 i8 =>
 AS.asInt .i64 (y5.getD 3 undef) fun n9 =>
 asSl (y5.getD 4 undef) fun a10 i11 =>
 R (.tuple #[(.slice a10 i11 0), (.int .i64 0)]) H6),
 (X.ret, fun (y12 : Fr) (H13 : Heap) =>
 asSl (y12.getD 2 undef) fun a14 i15 =>
 AS.asInt .i64 (y12.getD 3 undef) fun n16 =>
 asSl (y12.getD 4 undef) fun a17 i18 =>
 R (.tuple #[(.slice a14 i15 0), (.int .i64 n16)]) H13)]) →
    CA en F.flow_targets [(.slice x0 x0l 0)] H R := by
  intro h
  refine wpFn_ok (Z := [[(2, (.slice none 0 0)), (3, (.int .i64 0)), (4, (.slice none 0 0))]]) (fn := Go.Proofs.Tryd.f62) ?_ ?_ ?_
  · kernel_rfl
  · kernel_rfl
  · apply turnInto h
    kernel_rfl

theorem use_flow_targets_0 {t0 : Option Addr} {t0l : Nat} {t5 : Option Addr} {t5l : Nat} {t11 : Option Addr} {t11l : Nat} {t12 : Option Addr} {t12l : Nat} {t13 : Option Addr} {t13l : Nat} {t14 : Int} {K0 : Fr → Heap → Prop} {K1 : Fr → Heap → Prop} {t2 : Option Addr} {t2l : Nat} {t3 : Int} {t4 : Option Addr} {t4l : Nat} {t15 : Int} {t6 : Value} {t7 : Value} {t8 : Value} {t9 : Value} {t10 : Value} {t16 : Value} {t17 : Value} {t18 : Value} {t19 : Value} {t20 : Value} {t21 : Value} {t22 : Value} {t23 : Value} {t24 : Value} {t25 : Value} {t26 : Value} {t27 : Value} {t28 : Value} {t29 : Value} {t30 : Value} {t31 : Value} {t32 : Value} {t33 : Value} {t34 : Value} {t35 : Value} {t36 : Value} {t37 : Value} {t38 : Value} {t39 : Value} {t40 : Value} {t41 : Value} {t42 : Value} {H : Heap} (I : Nat → Option Addr → Nat → Int → Option Addr → Nat → Int → Heap → Prop) (n : Nat) (h0 : I n t2 t2l t3 t4 t4l t15 H)
    (hstep : ∀ (n : Nat) (t2 : Option Addr) (t2l : Nat) (t3 : Int) (t4 : Option Addr) (t4l : Nat) (t15 : Int) (ys : Fr) (H : Heap), I n t2 t2l t3 t4 t4l t15 H →
    (
 bif (decide (t15 < t14)) then (
 inB t15 t13l ∧
 asRow t13 fun i1 i2 =>
 ∃ n3, ∃ n4, ∃ n5, ∃ n6, ∃ n7, H.cellsAt i1 (i2 + (t15.toNat * 5)) 5 = some [(.int .i64 n3), (.int .i64 n4), (.int .i64 n5), (.int .i64 n6), (.int .i64 n7)] ∧
 nwH H (.cells true 0 [(.int .i64 0), (.int .i64 0), (.int .i64 0), (.int .i64 0), (.int .i64 0)]) fun i8 H9 =>
 stc H9 i8 0 [(.int .i64 n3), (.int .i64 n4), (.int .i64 n5), (.int .i64 n6), (.int .i64 n7)] fun H10 =>
 ∃ n11, ∃ n12, ∃ n13, ∃ n14, ∃ n15, H10.cellsAt i8 0 5 = some [(.int .i64 n11), (.int .i64 n12), (.int .i64 n13), (.int .i64 n14), (.int .i64 n15)] ∧
 CA en F.flow_Jumps [(.agg #[(.int .i64 n11), (.int .i64 n12), (.int .i64 n13), (.int .i64 n14), (.int .i64 n15)])] H10 fun v16 H17 =>
 ∃ b18, v16 = (.bool b18) ∧
 bif b18 then (
 inB t15 t5l ∧
 asRow t5 fun i19 i20 =>
 ∃ n21, (H17.bump 15).cell i19 (i20 + (t15.toNat * 1)) = some (.int .i64 n21) ∧
 ∃ n22, (H17.bump 15).cell i8 3 = some (.int .i64 n22) ∧
 CA en F.slices_BinarySearch_int_int [(.slice t5 t5l 0), (.int .i64 (IntKind.i64.wrap ((IntKind.i64.wrap (n21 + 1)) + n22)))] (H17.bump 15) fun v23 H24 =>
 ∃ n25, ∃ b26, v23 = (.tuple #[(.int .i64 n25), (.bool b26)]) ∧
 (
 bif (!b26) then (
 K1 [(.slice t0 t0l 0), undef, (.slice none 0 0), (.int .i64 11), (.slice t4 t4l 0), (.slice t5 t5l 0), (.int .i64 t15), (.pointer (some ⟨i8, 0, none⟩)), (.int .i64 (-1)), (.int .i64 n25), (.bool b26), (.slice t11 t11l 0), (.slice t12 t12l 0), (.slice t13 t13l 0), (.int .i64 t14), (.int .i64 t15), (.bool true), (.int .i64 t15), (.pointer (some ⟨i1, (i2 + (t15.toNat * 5)), none⟩)), (.agg #[(.int .i64 n3), (.int .i64 n4), (.int .i64 n5), (.int .i64 n6), (.int .i64 n7)]), (.agg #[(.int .i64 n11), (.int .i64 n12), (.int .i64 n13), (.int .i64 n14), (.int .i64 n15)]), (.bool true), (.tuple #[(.int .i64 n25), (.bool b26)]), (.slice t5 t5l 0), (.slice t5 t5l 0), (.int .i64 t15), (.pointer (some ⟨i19, (i20 + (t15.toNat * 1)), none⟩)), (.int .i64 n21), (.int .i64 (IntKind.i64.wrap (n21 + 1))), (.pointer (some ⟨i8, 3, none⟩)), (.int .i64 n22), (.int .i64 (IntKind.i64.wrap ((IntKind.i64.wrap (n21 + 1)) + n22))), (.tuple #[(.int .i64 n25), (.bool b26)]), (.int .i64 n25), (.bool b26), (.bool b26), (.bool true), (ys.getD 37 undef), (ys.getD 38 undef), (ys.getD 39 undef), (ys.getD 40 undef), (ys.getD 41 undef), (ys.getD 42 undef), undef] H24)
 else (
 nwH H24 (.cells true 1 [(.int .i64 n25)]) fun i27 H28 =>
 ∃ l29, rowOf H28 1 (some ⟨i27, 0, none⟩) 1 = some l29 ∧
 apd H28 8 1 t4 t4l 1 l29 fun a30 i31 H32 =>
 ∃ k33, k33 < n ∧
 I k33 t2 t2l t3 a30 i31 (IntKind.i64.wrap (t15 + 1)) H32)) ∧
 True)
 else (
 nwH H17 (.cells true 1 [(.int .i64 (-1))]) fun i34 H35 =>
 ∃ l36, rowOf H35 1 (some ⟨i34, 0, none⟩) 1 = some l36 ∧
 apd H35 8 1 t4 t4l 1 l36 fun a37 i38 H39 =>
 ∃ k40, k40 < n ∧
 I k40 t2 t2l t3 a37 i38 (IntKind.i64.wrap (t15 + 1)) H39))
 else (
 K0 [(.slice t0 t0l 0), undef, (.slice t2 t2l 0), (.int .i64 t3), (.slice t4 t4l 0), (.slice t5 t5l 0), (ys.getD 6 undef), (ys.getD 7 undef), (ys.getD 8 undef), (ys.getD 9 undef), (ys.getD 10 undef), (.slice t11 t11l 0), (.slice t12 t12l 0), (.slice t13 t13l 0), (.int .i64 t14), (.int .i64 t15), (.bool false), (ys.getD 17 undef), (ys.getD 18 undef), (ys.getD 19 undef), (ys.getD 20 undef), (ys.getD 21 undef), (ys.getD 22 undef), (ys.getD 23 undef), (ys.getD 24 undef), (ys.getD 25 undef), (ys.getD 26 undef), (ys.getD 27 undef), (ys.getD 28 undef), (ys.getD 29 undef), (ys.getD 30 undef), (ys.getD 31 undef), (ys.getD 32 undef), (ys.getD 33 undef), (ys.getD 34 undef), (ys.getD 35 undef), (ys.getD 36 undef), (ys.getD 37 undef), (ys.getD 38 undef), (ys.getD 39 undef), (ys.getD 40 undef), (ys.getD 41 undef), (ys.getD 42 undef), undef] H))) :
    LA en L_flow_targets_0 [(.slice t0 t0l 0), undef, (.slice t2 t2l 0), (.int .i64 t3), (.slice t4 t4l 0), (.slice t5 t5l 0), t6, t7, t8, t9, t10, (.slice t11 t11l 0), (.slice t12 t12l 0), (.slice t13 t13l 0), (.int .i64 t14), (.int .i64 t15), t16, t17, t18, t19, t20, t21, t22, t23, t24, t25, t26, t27, t28, t29, t30, t31, t32, t33, t34, t35, t36, t37, t38, t39, t40, t41, t42, undef] H [(X.exit 0, K0), (X.ret, K1)] := by
  refine LA_rule (Z := []) (fun m xs H' => asSl (xs.getD 2 undef) fun t2 t2l => AS.asInt .i64 (xs.getD 3 undef) fun t3 => asSl (xs.getD 4 undef) fun t4 t4l => AS.asInt .i64 (xs.getD 15 undef) fun t15 => I m t2 t2l t3 t4 t4l t15 H') ?_ n H ?_
  · intro n H
    suffices hs : ∀ s16 : Value, ∀ s17 : Value, ∀ s18 : Value, ∀ s19 : Value, ∀ s7 : Value, ∀ s6 : Value, ∀ s8 : Value, ∀ s20 : Value, ∀ s21 : Value, ∀ s23 : Value, ∀ s24 : Value, ∀ s25 : Value, ∀ s26 : Value, ∀ s27 : Value, ∀ s28 : Value, ∀ s29 : Value, ∀ s30 : Value, ∀ s31 : Value, ∀ s32 : Value, ∀ s22 : Value, ∀ s33 : Value, ∀ s34 : Value, ∀ s9 : Value, ∀ s10 : Value, ∀ s35 : Value, ∀ s36 : Value, ∀ s2 : Value, ∀ s3 : Value, ∀ s37 : Value, ∀ s38 : Value, ∀ s39 : Value, ∀ s40 : Value, ∀ s41 : Value, ∀ s4 : Value, ∀ s42 : Value, ∀ s15 : Value, ((asSl s2 fun t2 t2l => AS.asInt .i64 s3 fun t3 => asSl s4 fun t4 t4l => AS.asInt .i64 s15 fun t15 => I n t2 t2l t3 t4 t4l t15 H) → wpCode en L_flow_targets_0 [] [(.slice t0 t0l 0), undef, s2, s3, s4, (.slice t5 t5l 0), s6, s7, s8, s9, s10, (.slice t11 t11l 0), (.slice t12 t12l 0), (.slice t13 t13l 0), (.int .i64 t14), s15, s16, s17, s18, s19, s20, s21, s22, s23, s24, s25, s26, s27, s28, s29, s30, s31, s32, s33, s34, s35, s36, s37, s38, s39, s40, s41, s42, undef] H (loopQ (fun m xs H' => asSl (xs.getD 2 undef) fun t2 t2l => AS.asInt .i64 (xs.getD 3 undef) fun t3 => asSl (xs.getD 4 undef) fun t4 t4l => AS.asInt .i64 (xs.getD 15 undef) fun t15 => I m t2 t2l t3 t4 t4l t15 H') n [(X.exit 0, K0), (X.ret, K1)])) by
      apply turnInto hs
      kernel_rfl
    intro s16 s17 s18 s19 s7 s6 s8 s20 s21 s23 s24 s25 s26 s27 s28 s29 s30 s31 s32 s22 s33 s34 s9 s10 s35 s36 s2 s3 s37 s38 s39 s40 s41 s4 s42 s15 hP
    replace hP := asSl_elim hP
    obtain ⟨t2, t2l, rfl, hP⟩ := hP
    replace hP := asInt_elim hP
    obtain ⟨t3, rfl, hP⟩ := hP
    replace hP := asSl_elim hP
    obtain ⟨t4, t4l, rfl, hP⟩ := hP
    replace hP := asInt_elim hP
    obtain ⟨t15, rfl, hP⟩ := hP
    apply turnInto (hstep n t2 t2l t3 t4 t4l t15 [(.slice t0 t0l 0), undef, (.slice t2 t2l 0), (.int .i64 t3), (.slice t4 t4l 0), (.slice t5 t5l 0), s6, s7, s8, s9, s10, (.slice t11 t11l 0), (.slice t12 t12l 0), (.slice t13 t13l 0), (.int .i64 t14), (.int .i64 t15), s16, s17, s18, s19, s20, s21, s22, s23, s24, s25, s26, s27, s28, s29, s30, s31, s32, s33, s34, s35, s36, s37, s38, s39, s40, s41, s42, undef] H hP)
    kernel_rfl
  · apply turnInto h0
    kernel_rfl


/-! flow_reached -/
noncomputable def L_flow_reached_0 : Code := loopAt Go.Proofs.Tryd.f64 0

theorem vc_flow_reached (x0 : Option Addr) (x0l : Nat) (x1 : Option Addr) (x1l : Nat) (H : Heap) (R : Value → Heap → Prop) :
    (
 nwH H (.cells true 0 [(.slice x0 x0l 0)]) fun i1 H2 =>
 nwH H2 (.cells true 0 [(.slice x1 x1l 0)]) fun i3 H4 =>
 ∃ a5 i6, H4.cell i1 0 = some (.slice a5 i6 0) ∧
 okLen 1 ((i6 : Nat) : Int) ((i6 : Nat) : Int) ∧
 nwH H4 (.cells true 1 (reps ((i6 : Nat) : Int).toNat [(.bool false)])) fun i7 H8 =>
 nwH H8 (.cells true 0 [(.slice none 0 0)]) fun i9 H10 =>
 stc H10 i9 0 [(.slice (some ⟨i7, 0, none⟩) ((i6 : Nat) : Int).toNat 0)] fun H11 =>
 nwH H11 (.cells true 1 [(.int .i64 0)]) fun i12 H13 =>
 nwH H13 (.cells true 0 [(.slice none 0 0)]) fun i14 H15 =>
 stc H15 i14 0 [(.slice (some ⟨i12, 0, none⟩) 1 0)] fun H16 =>
 LA en L_flow_reached_0 [(.slice x0 x0l 0), (.slice x1 x1l 0), (.pointer (some ⟨i1, 0, none⟩)), (.pointer (some ⟨i3, 0, none⟩)), (.bool false), (.pointer (some ⟨i9, 0, none⟩)), (.pointer (some ⟨i14, 0, none⟩)), (.func (.func F.flow_reached_1) #[] #[(.pointer (some ⟨i9, 0, none⟩)), (.pointer (some ⟨i14, 0, none⟩)), (.pointer (some ⟨i1, 0, none⟩)), (.pointer (some ⟨i3, 0, none⟩))]), undef, (.slice a5 i6 0), (.int .i64 ((i6 : Nat) : Int)), (.slice (some ⟨i7, 0, none⟩) ((i6 : Nat) : Int).toNat 0), (.slice (some ⟨i12, 0, none⟩) 1 0), (.func (.func F.flow_reached_1) #[] #[(.pointer (some ⟨i9, 0, none⟩)), (.pointer (some ⟨i14, 0, none⟩)), (.pointer (some ⟨i1, 0, none⟩)), (.pointer (some ⟨i3, 0, none⟩))]), undef, undef, undef, undef, undef, undef, undef, undef, undef, undef, undef, undef, undef, undef, undef, undef, undef, undef, undef, undef] H16 [(X.exit 0, fun (y17 : Fr) (H18 : Heap) =>
 ∃ a19 i20, H18.cell i9 0 = some (.slice a19 i20 0) ∧
 CA en F.slices_Contains_bool_bool [(.slice a19 i20 0), (.bool false)] H18 fun v21 H22 =>
 ∃ b23, v21 = (.bool b23) ∧
 R (.bool (!b23)) H22)]) →
    CA en F.flow_reached [(.slice x0 x0l 0), (.slice x1 x1l 0)] H R := by
  intro h
  refine wpFn_ok (Z := [[]]) (fn := Go.Proofs.Tryd.f64) ?_ ?_ ?_
  · kernel_rfl
  · kernel_rfl
  · apply turnInto h
    kernel_rfl

theorem use_flow_reached_0 {t0 : Option Addr} {t0l : Nat} {t1 : Option Addr} {t1l : Nat} {t2 : Nat} {t3 : Nat} {t5 : Nat} {t6 : Nat} {t7_c0 : Nat} {t7_c1 : Nat} {t7_c2 : Nat} {t7_c3 : Nat} {t9 : Option Addr} {t9l : Nat} {t10 : Int} {t11 : Nat} {t11l : Nat} {t12 : Nat} {t13_c0 : Nat} {t13_c1 : Nat} {t13_c2 : Nat} {t13_c3 : Nat} {K0 : Fr → Heap → Prop} {t8 : Value} {t14 : Value} {t15 : Value} {t16 : Value} {t17 : Value} {t18 : Value} {t19 : Value} {t20 : Value} {t21 : Value} {t22 : Value} {t23 : Value} {t24 : Value} {t25 : Value} {t26 : Value} {t27 : Value} {t28 : Value} {t29 : Value} {t30 : Value} {H : Heap} (I : Nat → Heap → Prop) (n : Nat) (h0 : I n  H)
    (hstep : ∀ (n : Nat) (ys : Fr) (H : Heap), I n  H →
    (
 ∃ a1 i2, H.cell t6 0 = some (.slice a1 i2 0) ∧
 bif (decide (((i2 : Nat) : Int) > 0)) then (
 ∃ a3 i4, H.cell t6 0 = some (.slice a3 i4 0) ∧
 ∃ a5 i6, H.cell t6 0 = some (.slice a5 i6 0) ∧
 inB (IntKind.i64.wrap (((i6 : Nat) : Int) - 1)) i4 ∧
 asRow a3 fun i7 i8 =>
 ∃ n9, H.cell i7 (i8 + ((IntKind.i64.wrap (((i6 : Nat) : Int) - 1)).toNat * 1)) = some (.int .i64 n9) ∧
 ∃ a10 i11, H.cell t6 0 = some (.slice a10 i11 0) ∧
 ∃ a12 i13, H.cell t6 0 = some (.slice a12 i13 0) ∧
 inS (IntKind.i64.wrap (((i13 : Nat) : Int) - 1)) i11 ∧
 slK H a10 1 0 (IntKind.i64.wrap (((i13 : Nat) : Int) - 1)).toNat fun v14 =>
 stc H t6 0 [v14] fun H15 =>
 (∃ fn, en.fn F.flow_reached_1 = some fn) ∧
 CA en F.flow_reached_1 [(.int .i64 n9), (.pointer (some ⟨t7_c0, 0, none⟩)), (.pointer (some ⟨t7_c1, 0, none⟩)), (.pointer (some ⟨t7_c2, 0, none⟩)), (.pointer (some ⟨t7_c3, 0, none⟩))] H15 fun v16 H17 =>
 v16 = undef ∧
 ∃ k18, k18 < n ∧
 I k18  H17)
 else (
 K0 [(.slice t0 t0l 0), (.slice t1 t1l 0), (.pointer (some ⟨t2, 0, none⟩)), (.pointer (some ⟨t3, 0, none⟩)), (.bool false), (.pointer (some ⟨t5, 0, none⟩)), (.pointer (some ⟨t6, 0, none⟩)), (.func (.func F.flow_reached_1) #[] #[(.pointer (some ⟨t7_c0, 0, none⟩)), (.pointer (some ⟨t7_c1, 0, none⟩)), (.pointer (some ⟨t7_c2, 0, none⟩)), (.pointer (some ⟨t7_c3, 0, none⟩))]), (ys.getD 8 undef), (.slice t9 t9l 0), (.int .i64 t10), (.slice (some ⟨t11, 0, none⟩) t11l 0), (.slice (some ⟨t12, 0, none⟩) 1 0), (.func (.func F.flow_reached_1) #[] #[(.pointer (some ⟨t13_c0, 0, none⟩)), (.pointer (some ⟨t13_c1, 0, none⟩)), (.pointer (some ⟨t13_c2, 0, none⟩)), (.pointer (some ⟨t13_c3, 0, none⟩))]), (.slice a1 i2 0), (.int .i64 ((i2 : Nat) : Int)), (.bool false), (ys.getD 17 undef), (ys.getD 18 undef), (ys.getD 19 undef), (ys.getD 20 undef), (ys.getD 21 undef), (ys.getD 22 undef), (ys.getD 23 undef), (ys.getD 24 undef), (ys.getD 25 undef), (ys.getD 26 undef), (ys.getD 27 undef), (ys.getD 28 undef), (ys.getD 29 undef), (ys.getD 30 undef), undef, undef, undef] H))) :
    LA en L_flow_reached_0 [(.slice t0 t0l 0), (.slice t1 t1l 0), (.pointer (some ⟨t2, 0, none⟩)), (.pointer (some ⟨t3, 0, none⟩)), (.bool false), (.pointer (some ⟨t5, 0, none⟩)), (.pointer (some ⟨t6, 0, none⟩)), (.func (.func F.flow_reached_1) #[] #[(.pointer (some ⟨t7_c0, 0, none⟩)), (.pointer (some ⟨t7_c1, 0, none⟩)), (.pointer (some ⟨t7_c2, 0, none⟩)), (.pointer (some ⟨t7_c3, 0, none⟩))]), t8, (.slice t9 t9l 0), (.int .i64 t10), (.slice (some ⟨t11, 0, none⟩) t11l 0), (.slice (some ⟨t12, 0, none⟩) 1 0), (.func (.func F.flow_reached_1) #[] #[(.pointer (some ⟨t13_c0, 0, none⟩)), (.pointer (some ⟨t13_c1, 0, none⟩)), (.pointer (some ⟨t13_c2, 0, none⟩)), (.pointer (some ⟨t13_c3, 0, none⟩))]), t14, t15, t16, t17, t18, t19, t20, t21, t22, t23, t24, t25, t26, t27, t28, t29, t30, undef, undef, undef] H [(X.exit 0, K0)] := by
  refine LA_rule (Z := []) (fun m xs H' => I m  H') ?_ n H ?_
  · intro n H
    suffices hs : ∀ s14 : Value, ∀ s15 : Value, ∀ s16 : Value, ∀ s17 : Value, ∀ s18 : Value, ∀ s19 : Value, ∀ s20 : Value, ∀ s21 : Value, ∀ s22 : Value, ∀ s8 : Value, ∀ s23 : Value, ∀ s24 : Value, ∀ s25 : Value, ∀ s26 : Value, ∀ s27 : Value, ∀ s28 : Value, ∀ s29 : Value, ∀ s30 : Value, ((I n  H) → wpCode en L_flow_reached_0 [] [(.slice t0 t0l 0), (.slice t1 t1l 0), (.pointer (some ⟨t2, 0, none⟩)), (.pointer (some ⟨t3, 0, none⟩)), (.bool false), (.pointer (some ⟨t5, 0, none⟩)), (.pointer (some ⟨t6, 0, none⟩)), (.func (.func F.flow_reached_1) #[] #[(.pointer (some ⟨t7_c0, 0, none⟩)), (.pointer (some ⟨t7_c1, 0, none⟩)), (.pointer (some ⟨t7_c2, 0, none⟩)), (.pointer (some ⟨t7_c3, 0, none⟩))]), s8, (.slice t9 t9l 0), (.int .i64 t10), (.slice (some ⟨t11, 0, none⟩) t11l 0), (.slice (some ⟨t12, 0, none⟩) 1 0), (.func (.func F.flow_reached_1) #[] #[(.pointer (some ⟨t13_c0, 0, none⟩)), (.pointer (some ⟨t13_c1, 0, none⟩)), (.pointer (some ⟨t13_c2, 0, none⟩)), (.pointer (some ⟨t13_c3, 0, none⟩))]), s14, s15, s16, s17, s18, s19, s20, s21, s22, s23, s24, s25, s26, s27, s28, s29, s30, undef, undef, undef] H (loopQ (fun m xs H' => I m  H') n [(X.exit 0, K0)])) by
      apply turnInto hs
      kernel_rfl
    intro s14 s15 s16 s17 s18 s19 s20 s21 s22 s8 s23 s24 s25 s26 s27 s28 s29 s30 hP
    apply turnInto (hstep n  [(.slice t0 t0l 0), (.slice t1 t1l 0), (.pointer (some ⟨t2, 0, none⟩)), (.pointer (some ⟨t3, 0, none⟩)), (.bool false), (.pointer (some ⟨t5, 0, none⟩)), (.pointer (some ⟨t6, 0, none⟩)), (.func (.func F.flow_reached_1) #[] #[(.pointer (some ⟨t7_c0, 0, none⟩)), (.pointer (some ⟨t7_c1, 0, none⟩)), (.pointer (some ⟨t7_c2, 0, none⟩)), (.pointer (some ⟨t7_c3, 0, none⟩))]), s8, (.slice t9 t9l 0), (.int .i64 t10), (.slice (some ⟨t11, 0, none⟩) t11l 0), (.slice (some ⟨t12, 0, none⟩) 1 0), (.func (.func F.flow_reached_1) #[] #[(.pointer (some ⟨t13_c0, 0, none⟩)), (.pointer (some ⟨t13_c1, 0, none⟩)), (.pointer (some ⟨t13_c2, 0, none⟩)), (.pointer (some ⟨t13_c3, 0, none⟩))]), s14, s15, s16, s17, s18, s19, s20, s21, s22, s23, s24, s25, s26, s27, s28, s29, s30, undef, undef, undef] H hP)
    kernel_rfl
  · apply turnInto h0
    kernel_rfl


/-! flow_gather -/
noncomputable def L_flow_gather_0 : Code := loopAt Go.Proofs.Tryd.f68 0

theorem vc_flow_gather (x0 : Option Addr) (x0l : Nat) (H : Heap) (R : Value → Heap → Prop) :
    (
 LA en L_flow_gather_0 [(.slice x0 x0l 0), undef, (.slice none 0 0), undef, undef, (.slice x0 x0l 0), (.int .i64 ((x0l : Nat) : Int)), (.int .i64 0), undef, undef, undef, undef, undef, undef, undef, undef, undef, undef, undef, undef, undef, undef, undef, undef, undef] H [(X.exit 0, fun (y1 : Fr) (H2 : Heap) =>
 asSl (y1.getD 2 undef) fun a3 i4 =>
 R (.slice a3 i4 0) H2)]) →
    CA en F.flow_gather [(.slice x0 x0l 0)] H R := by
  intro h
  refine wpFn_ok (Z := [[(2, (.slice none 0 0))]]) (fn := Go.Proofs.Tryd.f68) ?_ ?_ ?_
  · kernel_rfl
  · kernel_rfl
  · apply turnInto h
    kernel_rfl

theorem use_flow_gather_0 {t0 : Option Addr} {t0l : Nat} {t5 : Option Addr} {t5l : Nat} {t6 : Int} {K0 : Fr → Heap → Prop} {t2 : Option Addr} {t2l : Nat} {t7 : Int} {t4 : Value} {t8 : Value} {t9 : Value} {t10 : Value} {t11 : Value} {t12 : Value} {t13 : Value} {t14 : Value} {t15 : Value} {t16 : Value} {t17 : Value} {t18 : Value} {t19 : Value} {t20 : Value} {t21 : Value} {t22 : Value} {t23 : Value} {H : Heap} (I : Nat → Option Addr → Nat → Int → Heap → Prop) (n : Nat) (h0 : I n t2 t2l t7 H)
    (hstep : ∀ (n : Nat) (t2 : Option Addr) (t2l : Nat) (t7 : Int) (ys : Fr) (H : Heap), I n t2 t2l t7 H →
    (
 bif (decide (t7 < t6)) then (
 inB t7 t5l ∧
 asRow t5 fun i1 i2 =>
 ∃ n3, H.cell i1 (i2 + (t7.toNat * 1)) = some (.int .i64 n3) ∧
 bif (decide (n3 ≥ 0)) then (
 CA en F.slices_Contains_int_int [(.slice t2 t2l 0), (.int .i64 n3)] H fun v4 H5 =>
 ∃ b6, v4 = (.bool b6) ∧
 bif (!b6) then (
 nwH H5 (.cells true 1 [(.int .i64 n3)]) fun i7 H8 =>
 ∃ l9, rowOf H8 1 (some ⟨i7, 0, none⟩) 1 = some l9 ∧
 apd H8 8 1 t2 t2l 1 l9 fun a10 i11 H12 =>
 ∃ k13, k13 < n ∧
 I k13 a10 i11 (IntKind.i64.wrap (t7 + 1)) H12)
 else (
 ∃ k14, k14 < n ∧
 I k14 t2 t2l (IntKind.i64.wrap (t7 + 1)) H5))
 else (
 ∃ k15, k15 < n ∧
 I k15 t2 t2l (IntKind.i64.wrap (t7 + 1)) H))
 else (
 K0 [(.slice t0 t0l 0), undef, (.slice t2 t2l 0), undef, (ys.getD 4 undef), (.slice t5 t5l 0), (.int .i64 t6), (.int .i64 t7), (.bool false), (ys.getD 9 undef), (ys.getD 10 undef), (ys.getD 11 undef), (ys.getD 12 undef), (ys.getD 13 undef), (ys.getD 14 undef), (ys.getD 15 undef), (ys.getD 16 undef), (ys.getD 17 undef), (ys.getD 18 undef), (ys.getD 19 undef), (ys.getD 20 undef), (ys.getD 21 undef), (ys.getD 22 undef), (ys.getD 23 undef), undef] H))) :
    LA en L_flow_gather_0 [(.slice t0 t0l 0), undef, (.slice t2 t2l 0), undef, t4, (.slice t5 t5l 0), (.int .i64 t6), (.int .i64 t7), t8, t9, t10, t11, t12, t13, t14, t15, t16, t17, t18, t19, t20, t21, t22, t23, undef] H [(X.exit 0, K0)] := by
  refine LA_rule (Z := []) (fun m xs H' => asSl (xs.getD 2 undef) fun t2 t2l => AS.asInt .i64 (xs.getD 7 undef) fun t7 => I m t2 t2l t7 H') ?_ n H ?_
  · intro n H
    suffices hs : ∀ s8 : Value, ∀ s9 : Value, ∀ s10 : Value, ∀ s4 : Value, ∀ s11 : Value, ∀ s12 : Value, ∀ s13 : Value, ∀ s14 : Value, ∀ s15 : Value, ∀ s16 : Value, ∀ s17 : Value, ∀ s18 : Value, ∀ s19 : Value, ∀ s20 : Value, ∀ s21 : Value, ∀ s22 : Value, ∀ s2 : Value, ∀ s23 : Value, ∀ s7 : Value, ((asSl s2 fun t2 t2l => AS.asInt .i64 s7 fun t7 => I n t2 t2l t7 H) → wpCode en L_flow_gather_0 [] [(.slice t0 t0l 0), undef, s2, undef, s4, (.slice t5 t5l 0), (.int .i64 t6), s7, s8, s9, s10, s11, s12, s13, s14, s15, s16, s17, s18, s19, s20, s21, s22, s23, undef] H (loopQ (fun m xs H' => asSl (xs.getD 2 undef) fun t2 t2l => AS.asInt .i64 (xs.getD 7 undef) fun t7 => I m t2 t2l t7 H') n [(X.exit 0, K0)])) by
      apply turnInto hs
      kernel_rfl
    intro s8 s9 s10 s4 s11 s12 s13 s14 s15 s16 s17 s18 s19 s20 s21 s22 s2 s23 s7 hP
    replace hP := asSl_elim hP
    obtain ⟨t2, t2l, rfl, hP⟩ := hP
    replace hP := asInt_elim hP
    obtain ⟨t7, rfl, hP⟩ := hP
    apply turnInto (hstep n t2 t2l t7 [(.slice t0 t0l 0), undef, (.slice t2 t2l 0), undef, s4, (.slice t5 t5l 0), (.int .i64 t6), (.int .i64 t7), s8, s9, s10, s11, s12, s13, s14, s15, s16, s17, s18, s19, s20, s21, s22, s23, undef] H hP)
    kernel_rfl
  · apply turnInto h0
    kernel_rfl


/-! flow_reached_1 -/

theorem vc_flow_reached_1 (x0 : Int) (c0 : Option Addr) (c1 : Option Addr) (c2 : Option Addr) (c3 : Option Addr) (H : Heap) (R : Value → Heap → Prop) :
    (
 AS.asAddr (.pointer c0) fun i1 i2 =>
 ∃ a3 i4, H.cell i1 i2 = some (.slice a3 i4 0) ∧
 inB x0 i4 ∧
 asRow a3 fun i5 i6 =>
 ∃ b7, H.cell i5 (i6 + (x0.toNat * 1)) = some (.bool b7) ∧
 bif (!b7) then (
 AS.asAddr (.pointer c0) fun i8 i9 =>
 ∃ a10 i11, H.cell i8 i9 = some (.slice a10 i11 0) ∧
 inB x0 i11 ∧
 asRow a10 fun i12 i13 =>
 stc H i12 (i13 + (x0.toNat * 1)) [(.bool true)] fun H14 =>
 AS.asAddr (.pointer c1) fun i15 i16 =>
 ∃ a17 i18, (H14.bump 7).cell i15 i16 = some (.slice a17 i18 0) ∧
 AS.asAddr (.pointer c2) fun i19 i20 =>
 ∃ a21 i22, (H14.bump 7).cell i19 i20 = some (.slice a21 i22 0) ∧
 AS.asAddr (.pointer c3) fun i23 i24 =>
 ∃ a25 i26, (H14.bump 7).cell i23 i24 = some (.slice a25 i26 0) ∧
 CA en F.flow_Next [(.slice a21 i22 0), (.slice a25 i26 0), (.int .i64 x0)] (H14.bump 7) fun v27 H28 =>
 ∃ a29 i30, v27 = (.slice a29 i30 0) ∧
 ∃ l31, rowOf H28 1 a29 i30 = some l31 ∧
 apd H28 8 1 a17 i18 i30 l31 fun a32 i33 H34 =>
 AS.asAddr (.pointer c1) fun i35 i36 =>
 stc H34 i35 i36 [(.slice a32 i33 0)] fun H37 =>
 (
 R undef H37) ∧
 ((AS.asAddr (.pointer c1) fun i42 i43 =>
 ∃ a44 i45, (H14.bump 7).cell i42 i43 = some (.slice a44 i45 0) ∧
 (a17 = a44 ∧ i18 = i45 ∧ 0 = 0)) ∧ (AS.asAddr (.pointer c1) fun i38 i39 =>
 ∃ a40 i41, H28.cell i38 i39 = some (.slice a40 i41 0) ∧
 (a17 = a40 ∧ i18 = i41 ∧ 0 = 0)) ∧ True) ∧
 True)
 else (
 R undef H)) →
    CA en F.flow_reached_1 [(.int .i64 x0), (.pointer c0), (.pointer c1), (.pointer c2), (.pointer c3)] H R := by
  intro h
  refine wpFn_ok (Z := []) (fn := Go.Proofs.Tryd.f86) ?_ ?_ ?_
  · kernel_rfl
  · kernel_rfl
  · apply turnInto h
    kernel_rfl


/-! slices_BinarySearch_int_int -/
noncomputable def L_slices_BinarySearch_int_int_0 : Code := loopAt Go.Proofs.Tryd.f84 0

theorem vc_slices_BinarySearch_int_int (x0 : Option Addr) (x0l : Nat) (x1 : Int) (H : Heap) (R : Value → Heap → Prop) :
    (
 LA en L_slices_BinarySearch_int_int_0 [(.slice x0 x0l 0), (.int .i64 x1), undef, undef, (.int .i64 0), (.bool false), (.int .i64 ((x0l : Nat) : Int)), (.int .i64 0), (.int .i64 ((x0l : Nat) : Int)), undef, (.slice x0 x0l 0), (.int .i64 ((x0l : Nat) : Int)), (.int .i64 ((x0l : Nat) : Int)), undef, undef, undef, undef, undef, undef, undef, undef, undef, undef, undef, undef, undef, undef, undef, undef, undef, undef, undef, undef, undef, undef, undef, undef, undef, undef, undef, undef, undef, undef, undef, undef, undef, undef, undef, undef, undef, undef, undef, undef, undef] H [(X.exit 0, fun (y1 : Fr) (H2 : Heap) =>
 AS.asInt .i64 (y1.getD 7 undef) fun n3 =>
 bif (decide (n3 < ((x0l : Nat) : Int))) then (
 inB n3 x0l ∧
 asRow x0 fun i4 i5 =>
 ∃ n6, H2.cell i4 (i5 + (n3.toNat * 1)) = some (.int .i64 n6) ∧
 bif (n6 == x1) then (
 R (.tuple #[(.int .i64 n3), (.bool true)]) H2)
 else (
 inB n3 x0l ∧
 asRow x0 fun i7 i8 =>
 ∃ n9, H2.cell i7 (i8 + (n3.toNat * 1)) = some (.int .i64 n9) ∧
 CA en F.slices_isNaN_int [(.int .i64 n9)] H2 fun v10 H11 =>
 ∃ b12, v10 = (.bool b12) ∧
 bif b12 then (
 CA en F.slices_isNaN_int [(.int .i64 x1)] H11 fun v13 H14 =>
 ∃ b15, v13 = (.bool b15) ∧
 R (.tuple #[(.int .i64 n3), (.bool b15)]) H14)
 else (
 R (.tuple #[(.int .i64 n3), (.bool false)]) H11)))
 else (
 R (.tuple #[(.int .i64 n3), (.bool false)]) H2))]) →
    CA en F.slices_BinarySearch_int_int [(.slice x0 x0l 0), (.int .i64 x1)] H R := by
  intro h
  refine wpFn_ok (Z := [[(7, (.int .i64 0))]]) (fn := Go.Proofs.Tryd.f84) ?_ ?_ ?_
  · kernel_rfl
  · kernel_rfl
  · apply turnInto h
    kernel_rfl

theorem use_slices_BinarySearch_int_int_0 {t0 : Option Addr} {t0l : Nat} {t1 : Int} {t6 : Int} {t10 : Option Addr} {t10l : Nat} {t11 : Int} {t12 : Int} {K0 : Fr → Heap → Prop} {t7 : Int} {t8 : Int} {t9 : Value} {t13 : Value} {t14 : Value} {t15 : Value} {t16 : Value} {t17 : Value} {t18 : Value} {t19 : Value} {t20 : Value} {t21 : Value} {t22 : Value} {t23 : Value} {t24 : Value} {t25 : Value} {t26 : Value} {t27 : Value} {t28 : Value} {t29 : Value} {t30 : Value} {H : Heap} (I : Nat → Int → Int → Heap → Prop) (n : Nat) (h0 : I n t7 t8 H)
    (hstep : ∀ (n : Nat) (t7 : Int) (t8 : Int) (ys : Fr) (H : Heap), I n t7 t8 H →
    (
 bif (decide (t7 < t8)) then (
 nn 1 ∧
 inB (IntKind.i64.wrap (Int.fdiv (IntKind.u64.wrap (IntKind.i64.wrap (t7 + t8))) 2)) t0l ∧
 asRow t0 fun i1 i2 =>
 ∃ n3, H.cell i1 (i2 + ((IntKind.i64.wrap (Int.fdiv (IntKind.u64.wrap (IntKind.i64.wrap (t7 + t8))) 2)).toNat * 1)) = some (.int .i64 n3) ∧
 CA en F.cmp_Less_int [(.int .i64 n3), (.int .i64 t1)] H fun v4 H5 =>
 ∃ b6, v4 = (.bool b6) ∧
 bif b6 then (
 ∃ k7, k7 < n ∧
 I k7 (IntKind.i64.wrap ((IntKind.i64.wrap (Int.fdiv (IntKind.u64.wrap (IntKind.i64.wrap (t7 + t8))) 2)) + 1)) t8 H5)
 else (
 ∃ k8, k8 < n ∧
 I k8 t7 (IntKind.i64.wrap (Int.fdiv (IntKind.u64.wrap (IntKind.i64.wrap (t7 + t8))) 2)) H5))
 else (
 K0 [(.slice t0 t0l 0), (.int .i64 t1), undef, undef, (.int .i64 0), (.bool false), (.int .i64 t6), (.int .i64 t7), (.int .i64 t8), (ys.getD 9 undef), (.slice t10 t10l 0), (.int .i64 t11), (.int .i64 t12), (.int .i64 t7), (.int .i64 t8), (.bool false), (ys.getD 16 undef), (ys.getD 17 undef), (ys.getD 18 undef), (ys.getD 19 undef), (ys.getD 20 undef), (ys.getD 21 undef), (ys.getD 22 undef), (ys.getD 23 undef), (ys.getD 24 undef), (ys.getD 25 undef), (ys.getD 26 undef), (ys.getD 27 undef), (ys.getD 28 undef), (ys.getD 29 undef), (ys.getD 30 undef), undef, undef, undef, undef, undef, undef, undef, undef, undef, undef, undef, undef, undef, undef, undef, undef, undef, undef, undef, undef, undef, undef, undef] H))) :
    LA en L_slices_BinarySearch_int_int_0 [(.slice t0 t0l 0), (.int .i64 t1), undef, undef, (.int .i64 0), (.bool false), (.int .i64 t6), (.int .i64 t7), (.int .i64 t8), t9, (.slice t10 t10l 0), (.int .i64 t11), (.int .i64 t12), t13, t14, t15, t16, t17, t18, t19, t20, t21, t22, t23, t24, t25, t26, t27, t28, t29, t30, undef, undef, undef, undef, undef, undef, undef, undef, undef, undef, undef, undef, undef, undef, undef, undef, undef, undef, undef, undef, undef, undef, undef] H [(X.exit 0, K0)] := by
  refine LA_rule (Z := []) (fun m xs H' => AS.asInt .i64 (xs.getD 7 undef) fun t7 => AS.asInt .i64 (xs.getD 8 undef) fun t8 => I m t7 t8 H') ?_ n H ?_
  · intro n H
    suffices hs : ∀ s13 : Value, ∀ s14 : Value, ∀ s15 : Value, ∀ s16 : Value, ∀ s17 : Value, ∀ s18 : Value, ∀ s19 : Value, ∀ s20 : Value, ∀ s21 : Value, ∀ s9 : Value, ∀ s22 : Value, ∀ s23 : Value, ∀ s24 : Value, ∀ s25 : Value, ∀ s26 : Value, ∀ s27 : Value, ∀ s28 : Value, ∀ s29 : Value, ∀ s7 : Value, ∀ s30 : Value, ∀ s8 : Value, ((AS.asInt .i64 s7 fun t7 => AS.asInt .i64 s8 fun t8 => I n t7 t8 H) → wpCode en L_slices_BinarySearch_int_int_0 [] [(.slice t0 t0l 0), (.int .i64 t1), undef, undef, (.int .i64 0), (.bool false), (.int .i64 t6), s7, s8, s9, (.slice t10 t10l 0), (.int .i64 t11), (.int .i64 t12), s13, s14, s15, s16, s17, s18, s19, s20, s21, s22, s23, s24, s25, s26, s27, s28, s29, s30, undef, undef, undef, undef, undef, undef, undef, undef, undef, undef, undef, undef, undef, undef, undef, undef, undef, undef, undef, undef, undef, undef, undef] H (loopQ (fun m xs H' => AS.asInt .i64 (xs.getD 7 undef) fun t7 => AS.asInt .i64 (xs.getD 8 undef) fun t8 => I m t7 t8 H') n [(X.exit 0, K0)])) by
      apply turnInto hs
      kernel_rfl
    intro s13 s14 s15 s16 s17 s18 s19 s20 s21 s9 s22 s23 s24 s25 s26 s27 s28 s29 s7 s30 s8 hP
    replace hP := asInt_elim hP
    obtain ⟨t7, rfl, hP⟩ := hP
    replace hP := asInt_elim hP
    obtain ⟨t8, rfl, hP⟩ := hP
    apply turnInto (hstep n t7 t8 [(.slice t0 t0l 0), (.int .i64 t1), undef, undef, (.int .i64 0), (.bool false), (.int .i64 t6), (.int .i64 t7), (.int .i64 t8), s9, (.slice t10 t10l 0), (.int .i64 t11), (.int .i64 t12), s13, s14, s15, s16, s17, s18, s19, s20, s21, s22, s23, s24, s25, s26, s27, s28, s29, s30, undef, undef, undef, undef, undef, undef, undef, undef, undef, undef, undef, undef, undef, undef, undef, undef, undef, undef, undef, undef, undef, undef, undef] H hP)
    kernel_rfl
  · apply turnInto h0
    kernel_rfl


/-! slices_Contains_bool_bool -/

theorem vc_slices_Contains_bool_bool (x0 : Option Addr) (x0l : Nat) (x1 : Bool) (H : Heap) (R : Value → Heap → Prop) :
    (
 CA en F.slices_Index_bool_bool [(.slice x0 x0l 0), (.bool x1)] H fun v1 H2 =>
 ∃ n3, v1 = (.int .i64 n3) ∧
 R (.bool (decide (n3 ≥ 0))) H2) →
    CA en F.slices_Contains_bool_bool [(.slice x0 x0l 0), (.bool x1)] H R := by
  intro h
  refine wpFn_ok (Z := []) (fn := Go.Proofs.Tryd.f87) ?_ ?_ ?_
  · kernel_rfl
  · kernel_rfl
  · apply turnInto h
    kernel_rfl


/-! slices_Index_bool_bool -/
noncomputable def L_slices_Index_bool_bool_0 : Code := loopAt Go.Proofs.Tryd.f94 0

theorem vc_slices_Index_bool_bool (x0 : Option Addr) (x0l : Nat) (x1 : Bool) (H : Heap) (R : Value → Heap → Prop) :
    (
 LA en L_slices_Index_bool_bool_0 [(.slice x0 x0l 0), (.bool x1), undef, undef, (.int .i64 0), undef, (.slice x0 x0l 0), (.int .i64 ((x0l : Nat) : Int)), (.int .i64 0), undef, undef, undef, undef, undef, undef, undef, undef, undef, undef] H [(X.exit 0, fun (y1 : Fr) (H2 : Heap) =>
 AS.asInt .i64 (y1.getD 4 undef) fun n3 =>
 R (.int .i64 (-1)) H2),
 (X.ret, fun (y4 : Fr) (H5 : Heap) =>
 AS.asInt .i64 (y4.getD 4 undef) fun n6 =>
 R (.int .i64 n6) H5)]) →
    CA en F.slices_Index_bool_bool [(.slice x0 x0l 0), (.bool x1)] H R := by
  intro h
  refine wpFn_ok (Z := [[(4, (.int .i64 0))]]) (fn := Go.Proofs.Tryd.f94) ?_ ?_ ?_
  · kernel_rfl
  · kernel_rfl
  · apply turnInto h
    kernel_rfl

theorem use_slices_Index_bool_bool_0 {t0 : Option Addr} {t0l : Nat} {t1 : Bool} {t6 : Option Addr} {t6l : Nat} {t7 : Int} {K0 : Fr → Heap → Prop} {K1 : Fr → Heap → Prop} {t4 : Int} {t8 : Int} {t5 : Value} {t9 : Value} {t10 : Value} {t11 : Value} {t12 : Value} {t13 : Value} {t14 : Value} {t15 : Value} {t16 : Value} {t17 : Value} {t18 : Value} {H : Heap} (I : Nat → Int → Int → Heap → Prop) (n : Nat) (h0 : I n t4 t8 H)
    (hstep : ∀ (n : Nat) (t4 : Int) (t8 : Int) (ys : Fr) (H : Heap), I n t4 t8 H →
    (
 bif (decide (t8 < t7)) then (
 inB t8 t0l ∧
 asRow t0 fun i1 i2 =>
 ∃ b3, H.cell i1 (i2 + (t8.toNat * 1)) = some (.bool b3) ∧
 bif (t1 == b3) then (
 K1 [(.slice t0 t0l 0), (.bool t1), undef, undef, (.int .i64 t8), (.int .i64 t8), (.slice t6 t6l 0), (.int .i64 t7), (.int .i64 t8), (.bool true), (.int .i64 t8), (.bool t1), (.slice t0 t0l 0), (.int .i64 t8), (.pointer (some ⟨i1, (i2 + (t8.toNat * 1)), none⟩)), (.bool b3), (.bool true), (.int .i64 t8), (ys.getD 18 undef)] H)
 else (
 ∃ k4, k4 < n ∧
 I k4 t4 (IntKind.i64.wrap (t8 + 1)) H))
 else (
 K0 [(.slice t0 t0l 0), (.bool t1), undef, undef, (.int .i64 t4), (ys.getD 5 undef), (.slice t6 t6l 0), (.int .i64 t7), (.int .i64 t8), (.bool false), (ys.getD 10 undef), (ys.getD 11 undef), (ys.getD 12 undef), (ys.getD 13 undef), (ys.getD 14 undef), (ys.getD 15 undef), (ys.getD 16 undef), (ys.getD 17 undef), (ys.getD 18 undef)] H))) :
    LA en L_slices_Index_bool_bool_0 [(.slice t0 t0l 0), (.bool t1), undef, undef, (.int .i64 t4), t5, (.slice t6 t6l 0), (.int .i64 t7), (.int .i64 t8), t9, t10, t11, t12, t13, t14, t15, t16, t17, t18] H [(X.exit 0, K0), (X.ret, K1)] := by
  refine LA_rule (Z := []) (fun m xs H' => AS.asInt .i64 (xs.getD 4 undef) fun t4 => AS.asInt .i64 (xs.getD 8 undef) fun t8 => I m t4 t8 H') ?_ n H ?_
  · intro n H
    suffices hs : ∀ s9 : Value, ∀ s10 : Value, ∀ s5 : Value, ∀ s11 : Value, ∀ s12 : Value, ∀ s13 : Value, ∀ s14 : Value, ∀ s15 : Value, ∀ s16 : Value, ∀ s17 : Value, ∀ s4 : Value, ∀ s18 : Value, ∀ s8 : Value, ((AS.asInt .i64 s4 fun t4 => AS.asInt .i64 s8 fun t8 => I n t4 t8 H) → wpCode en L_slices_Index_bool_bool_0 [] [(.slice t0 t0l 0), (.bool t1), undef, undef, s4, s5, (.slice t6 t6l 0), (.int .i64 t7), s8, s9, s10, s11, s12, s13, s14, s15, s16, s17, s18] H (loopQ (fun m xs H' => AS.asInt .i64 (xs.getD 4 undef) fun t4 => AS.asInt .i64 (xs.getD 8 undef) fun t8 => I m t4 t8 H') n [(X.exit 0, K0), (X.ret, K1)])) by
      apply turnInto hs
      kernel_rfl
    intro s9 s10 s5 s11 s12 s13 s14 s15 s16 s17 s4 s18 s8 hP
    replace hP := asInt_elim hP
    obtain ⟨t4, rfl, hP⟩ := hP
    replace hP := asInt_elim hP
    obtain ⟨t8, rfl, hP⟩ := hP
    apply turnInto (hstep n t4 t8 [(.slice t0 t0l 0), (.bool t1), undef, undef, (.int .i64 t4), s5, (.slice t6 t6l 0), (.int .i64 t7), (.int .i64 t8), s9, s10, s11, s12, s13, s14, s15, s16, s17, s18] H hP)
    kernel_rfl
  · apply turnInto h0
    kernel_rfl


/-! slices_isNaN_int -/

theorem vc_slices_isNaN_int (x0 : Int) (H : Heap) (R : Value → Heap → Prop) :
    (
 R (.bool (x0 != x0)) H) →
    CA en F.slices_isNaN_int [(.int .i64 x0)] H R := by
  intro h
  refine wpFn_ok (Z := []) (fn := Go.Proofs.Tryd.f93) ?_ ?_ ?_
  · kernel_rfl
  · kernel_rfl
  · apply turnInto h
    kernel_rfl


/-! cmp_Less_int -/

theorem vc_cmp_Less_int (x0 : Int) (x1 : Int) (H : Heap) (R : Value → Heap → Prop) :
    (
 CA en F.cmp_isNaN_int [(.int .i64 x0)] H fun v1 H2 =>
 ∃ b3, v1 = (.bool b3) ∧
 bif b3 then (
 CA en F.cmp_isNaN_int [(.int .i64 x1)] H2 fun v4 H5 =>
 ∃ b6, v4 = (.bool b6) ∧
 bif (!b6) then (
 R (.bool true) H5)
 else (
 R (.bool (decide (x0 < x1))) H5))
 else (
 R (.bool (decide (x0 < x1))) H2)) →
    CA en F.cmp_Less_int [(.int .i64 x0), (.int .i64 x1)] H R := by
  intro h
  refine wpFn_ok (Z := []) (fn := Go.Proofs.Tryd.f92) ?_ ?_ ?_
  · kernel_rfl
  · kernel_rfl
  · apply turnInto h
    kernel_rfl


/-! cmp_isNaN_int -/

theorem vc_cmp_isNaN_int (x0 : Int) (H : Heap) (R : Value → Heap → Prop) :
    (
 R (.bool (x0 != x0)) H) →
    CA en F.cmp_isNaN_int [(.int .i64 x0)] H R := by
  intro h
  refine wpFn_ok (Z := []) (fn := Go.Proofs.Tryd.f95) ?_ ?_ ?_
  · kernel_rfl
  · kernel_rfl
  · apply turnInto h
    kernel_rfl


/-! crossbarlaw06_Big -/
noncomputable def L_crossbarlaw06_Big_0 : Code := loopAt Go.Proofs.Tryd.f31 0

theorem vc_crossbarlaw06_Big (x0 : Option Addr) (x0l : Nat) (H : Heap) (R : Value → Heap → Prop) :
    (
 bif (decide (((x0l : Nat) : Int) > 270)) then (
 R (.bool true) H)
 else (
 LA en L_crossbarlaw06_Big_0 [(.slice x0 x0l 0), undef, (.bool false), (.int .i64 0), (.slice x0 x0l 0), (.int .i64 ((x0l : Nat) : Int)), (.bool false), undef, undef, undef, undef, undef, undef, undef, undef, undef, undef, undef, undef] H [(X.exit 0, fun (y1 : Fr) (H2 : Heap) =>
 AS.asBool (y1.getD 2 undef) fun b3 =>
 R (.bool false) H2),
 (X.ret, fun (y4 : Fr) (H5 : Heap) =>
 AS.asBool (y4.getD 2 undef) fun b6 =>
 R (.bool b6) H5)])) →
    CA en F.crossbarlaw06_Big [(.slice x0 x0l 0)] H R := by
  intro h
  refine wpFn_ok (Z := [[(2, (.bool false))]]) (fn := Go.Proofs.Tryd.f31) ?_ ?_ ?_
  · kernel_rfl
  · kernel_rfl
  · apply turnInto h
    kernel_rfl

theorem use_crossbarlaw06_Big_0 {t0 : Option Addr} {t0l : Nat} {t4 : Option Addr} {t4l : Nat} {t5 : Int} {K0 : Fr → Heap → Prop} {K1 : Fr → Heap → Prop} {t2 : Bool} {t3 : Int} {t7 : Value} {t8 : Value} {t9 : Value} {t10 : Value} {t11 : Value} {t12 : Value} {t13 : Value} {t14 : Value} {t15 : Value} {t16 : Value} {t17 : Value} {t18 : Value} {H : Heap} (I : Nat → Bool → Int → Heap → Prop) (n : Nat) (h0 : I n t2 t3 H)
    (hstep : ∀ (n : Nat) (t2 : Bool) (t3 : Int) (ys : Fr) (H : Heap), I n t2 t3 H →
    (
 bif (decide (t3 < ((t0l : Nat) : Int))) then (
 inB t3 t0l ∧
 asRow t0 fun i1 i2 =>
 ∃ n3, ∃ n4, ∃ n5, ∃ n6, ∃ n7, H.cellsAt i1 (i2 + (t3.toNat * 5)) 5 = some [(.int .i64 n3), (.int .i64 n4), (.int .i64 n5), (.int .i64 n6), (.int .i64 n7)] ∧
 CA en F.insn_Check [(.agg #[(.int .i64 n3), (.int .i64 n4), (.int .i64 n5), (.int .i64 n6), (.int .i64 n7)])] H fun v8 H9 =>
 ∃ n10, v8 = (.int .i64 n10) ∧
 bif (n10 != 0) then (
 K1 [(.slice t0 t0l 0), undef, (.bool true), (.int .i64 t3), (.slice t4 t4l 0), (.int .i64 t5), (.bool false), (.int .i64 t3), (.slice t0 t0l 0), (.int .i64 ((t0l : Nat) : Int)), (.bool true), (ys.getD 11 undef), (ys.getD 12 undef), (.slice t0 t0l 0), (.int .i64 t3), (.pointer (some ⟨i1, (i2 + (t3.toNat * 5)), none⟩)), (.agg #[(.int .i64 n3), (.int .i64 n4), (.int .i64 n5), (.int .i64 n6), (.int .i64 n7)]), (.int .i64 n10), (.bool true)] H9)
 else (
 ∃ k11, k11 < n ∧
 I k11 t2 (IntKind.i64.wrap (t3 + 1)) H9))
 else (
 K0 [(.slice t0 t0l 0), undef, (.bool t2), (.int .i64 t3), (.slice t4 t4l 0), (.int .i64 t5), (.bool false), (.int .i64 t3), (.slice t0 t0l 0), (.int .i64 ((t0l : Nat) : Int)), (.bool false), (ys.getD 11 undef), (ys.getD 12 undef), (ys.getD 13 undef), (ys.getD 14 undef), (ys.getD 15 undef), (ys.getD 16 undef), (ys.getD 17 undef), (ys.getD 18 undef)] H))) :
    LA en L_crossbarlaw06_Big_0 [(.slice t0 t0l 0), undef, (.bool t2), (.int .i64 t3), (.slice t4 t4l 0), (.int .i64 t5), (.bool false), t7, t8, t9, t10, t11, t12, t13, t14, t15, t16, t17, t18] H [(X.exit 0, K0), (X.ret, K1)] := by
  refine LA_rule (Z := []) (fun m xs H' => AS.asBool (xs.getD 2 undef) fun t2 => AS.asInt .i64 (xs.getD 3 undef) fun t3 => I m t2 t3 H') ?_ n H ?_
  · intro n H
    suffices hs : ∀ s7 : Value, ∀ s8 : Value, ∀ s9 : Value, ∀ s10 : Value, ∀ s13 : Value, ∀ s14 : Value, ∀ s15 : Value, ∀ s16 : Value, ∀ s17 : Value, ∀ s18 : Value, ∀ s2 : Value, ∀ s11 : Value, ∀ s12 : Value, ∀ s3 : Value, ((AS.asBool s2 fun t2 => AS.asInt .i64 s3 fun t3 => I n t2 t3 H) → wpCode en L_crossbarlaw06_Big_0 [] [(.slice t0 t0l 0), undef, s2, s3, (.slice t4 t4l 0), (.int .i64 t5), (.bool false), s7, s8, s9, s10, s11, s12, s13, s14, s15, s16, s17, s18] H (loopQ (fun m xs H' => AS.asBool (xs.getD 2 undef) fun t2 => AS.asInt .i64 (xs.getD 3 undef) fun t3 => I m t2 t3 H') n [(X.exit 0, K0), (X.ret, K1)])) by
      apply turnInto hs
      kernel_rfl
    intro s7 s8 s9 s10 s13 s14 s15 s16 s17 s18 s2 s11 s12 s3 hP
    replace hP := asBool_elim hP
    obtain ⟨t2, rfl, hP⟩ := hP
    replace hP := asInt_elim hP
    obtain ⟨t3, rfl, hP⟩ := hP
    apply turnInto (hstep n t2 t3 [(.slice t0 t0l 0), undef, (.bool t2), (.int .i64 t3), (.slice t4 t4l 0), (.int .i64 t5), (.bool false), s7, s8, s9, s10, s11, s12, s13, s14, s15, s16, s17, s18] H hP)
    kernel_rfl
  · apply turnInto h0
    kernel_rfl


/-! crossbarlaw06_known -/

theorem vc_crossbarlaw06_known (H : Heap) (R : Value → Heap → Prop) :
    (
 nwH H (.cells true 1 [(.int .i64 2), (.int .i64 (-1)), (.int .i64 (-1))]) fun i1 H2 =>
 CA en F.crossbarlaw06_jump [(.int .i64 2)] H2 fun v3 H4 =>
 ∃ n5, ∃ n6, ∃ n7, ∃ n8, ∃ n9, v3 = (.agg #[(.int .i64 n5), (.int .i64 n6), (.int .i64 n7), (.int .i64 n8), (.int .i64 n9)]) ∧
 CA en F.crossbarlaw06_wide [] H4 fun v10 H11 =>
 ∃ n12, ∃ n13, ∃ n14, ∃ n15, ∃ n16, v10 = (.agg #[(.int .i64 n12), (.int .i64 n13), (.int .i64 n14), (.int .i64 n15), (.int .i64 n16)]) ∧
 CA en F.crossbarlaw06_exit [] H11 fun v17 H18 =>
 ∃ n19, ∃ n20, ∃ n21, ∃ n22, ∃ n23, v17 = (.agg #[(.int .i64 n19), (.int .i64 n20), (.int .i64 n21), (.int .i64 n22), (.int .i64 n23)]) ∧
 nwH H18 (.cells true 5 [(.int .i64 n5), (.int .i64 n6), (.int .i64 n7), (.int .i64 n8), (.int .i64 n9), (.int .i64 n12), (.int .i64 n13), (.int .i64 n14), (.int .i64 n15), (.int .i64 n16), (.int .i64 n19), (.int .i64 n20), (.int .i64 n21), (.int .i64 n22), (.int .i64 n23)]) fun i24 H25 =>
 CA en F.crossbarlaw06_is [(.slice (some ⟨i1, 0, none⟩) 3 0), (.int .i64 0), (.slice (some ⟨i24, 0, none⟩) 3 0)] H25 fun v26 H27 =>
 ∃ b28, v26 = (.bool b28) ∧
 bif b28 then (
 CA en F.crossbarlaw06_jump [(.int .i64 1)] H27 fun v29 H30 =>
 ∃ n31, ∃ n32, ∃ n33, ∃ n34, ∃ n35, v29 = (.agg #[(.int .i64 n31), (.int .i64 n32), (.int .i64 n33), (.int .i64 n34), (.int .i64 n35)]) ∧
 CA en F.crossbarlaw06_wide [] H30 fun v36 H37 =>
 ∃ n38, ∃ n39, ∃ n40, ∃ n41, ∃ n42, v36 = (.agg #[(.int .i64 n38), (.int .i64 n39), (.int .i64 n40), (.int .i64 n41), (.int .i64 n42)]) ∧
 CA en F.crossbarlaw06_exit [] H37 fun v43 H44 =>
 ∃ n45, ∃ n46, ∃ n47, ∃ n48, ∃ n49, v43 = (.agg #[(.int .i64 n45), (.int .i64 n46), (.int .i64 n47), (.int .i64 n48), (.int .i64 n49)]) ∧
 nwH H44 (.cells true 5 [(.int .i64 n31), (.int .i64 n32), (.int .i64 n33), (.int .i64 n34), (.int .i64 n35), (.int .i64 n38), (.int .i64 n39), (.int .i64 n40), (.int .i64 n41), (.int .i64 n42), (.int .i64 n45), (.int .i64 n46), (.int .i64 n47), (.int .i64 n48), (.int .i64 n49)]) fun i50 H51 =>
 CA en F.crossbarlaw06_is [(.slice none 0 0), (.int .i64 11), (.slice (some ⟨i50, 0, none⟩) 3 0)] H51 fun v52 H53 =>
 ∃ b54, v52 = (.bool b54) ∧
 bif b54 then (
 CA en F.crossbarlaw06_ja [(.int .i64 1)] H53 fun v55 H56 =>
 ∃ n57, ∃ n58, ∃ n59, ∃ n60, ∃ n61, v55 = (.agg #[(.int .i64 n57), (.int .i64 n58), (.int .i64 n59), (.int .i64 n60), (.int .i64 n61)]) ∧
 CA en F.crossbarlaw06_mov [] H56 fun v62 H63 =>
 ∃ n64, ∃ n65, ∃ n66, ∃ n67, ∃ n68, v62 = (.agg #[(.int .i64 n64), (.int .i64 n65), (.int .i64 n66), (.int .i64 n67), (.int .i64 n68)]) ∧
 CA en F.crossbarlaw06_exit [] H63 fun v69 H70 =>
 ∃ n71, ∃ n72, ∃ n73, ∃ n74, ∃ n75, v69 = (.agg #[(.int .i64 n71), (.int .i64 n72), (.int .i64 n73), (.int .i64 n74), (.int .i64 n75)]) ∧
 nwH H70 (.cells true 5 [(.int .i64 n57), (.int .i64 n58), (.int .i64 n59), (.int .i64 n60), (.int .i64 n61), (.int .i64 n64), (.int .i64 n65), (.int .i64 n66), (.int .i64 n67), (.int .i64 n68), (.int .i64 n71), (.int .i64 n72), (.int .i64 n73), (.int .i64 n74), (.int .i64 n75)]) fun i76 H77 =>
 CA en F.crossbarlaw06_is [(.slice none 0 0), (.int .i64 13), (.slice (some ⟨i76, 0, none⟩) 3 0)] H77 fun v78 H79 =>
 ∃ b80, v78 = (.bool b80) ∧
 R (.bool b80) H79)
 else (
 R (.bool false) H53))
 else (
 R (.bool false) H27)) →
    CA en F.crossbarlaw06_known [] H R := by
  intro h
  refine wpFn_ok (Z := []) (fn := Go.Proofs.Tryd.f32) ?_ ?_ ?_
  · kernel_rfl
  · kernel_rfl
  · apply turnInto h
    kernel_rfl


/-! crossbarlaw06_wide -/

theorem vc_crossbarlaw06_wide (H : Heap) (R : Value → Heap → Prop) :
    (
 nwH H (.cells true 0 [(.int .i64 0), (.int .i64 0), (.int .i64 0), (.int .i64 0), (.int .i64 0)]) fun i1 H2 =>
 stc H2 i1 0 [(.int .i64 24), (.int .i64 0), (.int .i64 0), (.int .i64 0), (.int .i64 0)] fun H3 =>
 ∃ n4, ∃ n5, ∃ n6, ∃ n7, ∃ n8, H3.cellsAt i1 0 5 = some [(.int .i64 n4), (.int .i64 n5), (.int .i64 n6), (.int .i64 n7), (.int .i64 n8)] ∧
 R (.agg #[(.int .i64 n4), (.int .i64 n5), (.int .i64 n6), (.int .i64 n7), (.int .i64 n8)]) H3) →
    CA en F.crossbarlaw06_wide [] H R := by
  intro h
  refine wpFn_ok (Z := []) (fn := Go.Proofs.Tryd.f43) ?_ ?_ ?_
  · kernel_rfl
  · kernel_rfl
  · apply turnInto h
    kernel_rfl


/-! crossbarlaw06_mov -/

theorem vc_crossbarlaw06_mov (H : Heap) (R : Value → Heap → Prop) :
    (
 nwH H (.cells true 0 [(.int .i64 0), (.int .i64 0), (.int .i64 0), (.int .i64 0), (.int .i64 0)]) fun i1 H2 =>
 stc H2 i1 0 [(.int .i64 183), (.int .i64 0), (.int .i64 0), (.int .i64 0), (.int .i64 0)] fun H3 =>
 ∃ n4, ∃ n5, ∃ n6, ∃ n7, ∃ n8, H3.cellsAt i1 0 5 = some [(.int .i64 n4), (.int .i64 n5), (.int .i64 n6), (.int .i64 n7), (.int .i64 n8)] ∧
 R (.agg #[(.int .i64 n4), (.int .i64 n5), (.int .i64 n6), (.int .i64 n7), (.int .i64 n8)]) H3) →
    CA en F.crossbarlaw06_mov [] H R := by
  intro h
  refine wpFn_ok (Z := []) (fn := Go.Proofs.Tryd.f44) ?_ ?_ ?_
  · kernel_rfl
  · kernel_rfl
  · apply turnInto h
    kernel_rfl


/-! crossbarlaw06_back -/
noncomputable def L_crossbarlaw06_back_0 : Code := loopAt Go.Proofs.Tryd.f45 0

theorem vc_crossbarlaw06_back (x0 : Option Addr) (x0l : Nat) (H : Heap) (R : Value → Heap → Prop) :
    (
 CA en F.flow_Places [(.slice x0 x0l 0)] H fun v1 H2 =>
 ∃ a3 i4, v1 = (.slice a3 i4 0) ∧
 LA en L_crossbarlaw06_back_0 [(.slice x0 x0l 0), undef, (.bool false), (.slice a3 i4 0), (.int .i64 0), (.slice x0 x0l 0), (.slice a3 i4 0), undef, undef, undef, undef, undef, undef, undef, undef, undef, undef, undef, undef, undef, undef, undef, undef, undef, undef, undef, undef, undef, undef, undef, undef, undef] H2 [(X.exit 0, fun (y5 : Fr) (H6 : Heap) =>
 AS.asBool (y5.getD 2 undef) fun b7 =>
 R (.bool false) H6),
 (X.ret, fun (y8 : Fr) (H9 : Heap) =>
 AS.asBool (y8.getD 2 undef) fun b10 =>
 R (.bool b10) H9)]) →
    CA en F.crossbarlaw06_back [(.slice x0 x0l 0)] H R := by
  intro h
  refine wpFn_ok (Z := [[(2, (.bool false))]]) (fn := Go.Proofs.Tryd.f45) ?_ ?_ ?_
  · kernel_rfl
  · kernel_rfl
  · apply turnInto h
    kernel_rfl

theorem use_crossbarlaw06_back_0 {t0 : Option Addr} {t0l : Nat} {t3 : Option Addr} {t3l : Nat} {t5 : Option Addr} {t5l : Nat} {t6 : Option Addr} {t6l : Nat} {K0 : Fr → Heap → Prop} {K1 : Fr → Heap → Prop} {t2 : Bool} {t4 : Int} {t7 : Value} {t8 : Value} {t9 : Value} {t10 : Value} {t11 : Value} {t12 : Value} {t13 : Value} {t14 : Value} {t15 : Value} {t16 : Value} {t17 : Value} {t18 : Value} {t19 : Value} {t20 : Value} {t21 : Value} {t22 : Value} {t23 : Value} {t24 : Value} {t25 : Value} {t26 : Value} {t27 : Value} {t28 : Value} {t29 : Value} {t30 : Value} {t31 : Value} {H : Heap} (I : Nat → Bool → Int → Heap → Prop) (n : Nat) (h0 : I n t2 t4 H)
    (hstep : ∀ (n : Nat) (t2 : Bool) (t4 : Int) (ys : Fr) (H : Heap), I n t2 t4 H →
    (
 bif (decide (t4 < ((t0l : Nat) : Int))) then (
 inB t4 t0l ∧
 asRow t0 fun i1 i2 =>
 ∃ n3, ∃ n4, ∃ n5, ∃ n6, ∃ n7, (H.bump 19).cellsAt i1 (i2 + (t4.toNat * 5)) 5 = some [(.int .i64 n3), (.int .i64 n4), (.int .i64 n5), (.int .i64 n6), (.int .i64 n7)] ∧
 CA en F.flow_Jumps [(.agg #[(.int .i64 n3), (.int .i64 n4), (.int .i64 n5), (.int .i64 n6), (.int .i64 n7)])] (H.bump 19) fun v8 H9 =>
 ∃ b10, v8 = (.bool b10) ∧
 bif b10 then (
 inB t4 t3l ∧
 asRow t3 fun i11 i12 =>
 ∃ n13, H9.cell i11 (i12 + (t4.toNat * 1)) = some (.int .i64 n13) ∧
 inB t4 t0l ∧
 asRow t0 fun i14 i15 =>
 ∃ n16, H9.cell i14 ((i15 + (t4.toNat * 5)) + 3) = some (.int .i64 n16) ∧
 (
 bif (decide ((IntKind.i64.wrap ((IntKind.i64.wrap (n13 + 1)) + n16)) < 0)) then (
 K1 [(.slice t0 t0l 0), undef, (.bool true), (.slice t3 t3l 0), (.int .i64 t4), (.slice t5 t5l 0), (.slice t6 t6l 0), (.int .i64 t4), (.slice t0 t0l 0), (.int .i64 ((t0l : Nat) : Int)), (.bool true), (ys.getD 11 undef), (ys.getD 12 undef), (.slice t0 t0l 0), (.int .i64 t4), (.pointer (some ⟨i1, (i2 + (t4.toNat * 5)), none⟩)), (.agg #[(.int .i64 n3), (.int .i64 n4), (.int .i64 n5), (.int .i64 n6), (.int .i64 n7)]), (.bool b10), (.bool true), (.slice t3 t3l 0), (.int .i64 t4), (.pointer (some ⟨i11, (i12 + (t4.toNat * 1)), none⟩)), (.int .i64 n13), (.int .i64 (IntKind.i64.wrap (n13 + 1))), (.slice t0 t0l 0), (.int .i64 t4), (.pointer (some ⟨i14, (i15 + (t4.toNat * 5)), none⟩)), (.pointer (some ⟨i14, ((i15 + (t4.toNat * 5)) + 3), none⟩)), (.int .i64 n16), (.int .i64 (IntKind.i64.wrap ((IntKind.i64.wrap (n13 + 1)) + n16))), (.bool (decide ((IntKind.i64.wrap ((IntKind.i64.wrap (n13 + 1)) + n16)) < 0))), (.bool true)] H9)
 else (
 ∃ k17, k17 < n ∧
 I k17 t2 (IntKind.i64.wrap (t4 + 1)) H9)) ∧
 True)
 else (
 (
 ∃ k18, k18 < n ∧
 I k18 t2 (IntKind.i64.wrap (t4 + 1)) H9) ∧
 True))
 else (
 K0 [(.slice t0 t0l 0), undef, (.bool t2), (.slice t3 t3l 0), (.int .i64 t4), (.slice t5 t5l 0), (.slice t6 t6l 0), (.int .i64 t4), (.slice t0 t0l 0), (.int .i64 ((t0l : Nat) : Int)), (.bool false), (ys.getD 11 undef), (ys.getD 12 undef), (ys.getD 13 undef), (ys.getD 14 undef), (ys.getD 15 undef), (ys.getD 16 undef), (ys.getD 17 undef), (ys.getD 18 undef), (ys.getD 19 undef), (ys.getD 20 undef), (ys.getD 21 undef), (ys.getD 22 undef), (ys.getD 23 undef), (ys.getD 24 undef), (ys.getD 25 undef), (ys.getD 26 undef), (ys.getD 27 undef), (ys.getD 28 undef), (ys.getD 29 undef), (ys.getD 30 undef), (ys.getD 31 undef)] H))) :
    LA en L_crossbarlaw06_back_0 [(.slice t0 t0l 0), undef, (.bool t2), (.slice t3 t3l 0), (.int .i64 t4), (.slice t5 t5l 0), (.slice t6 t6l 0), t7, t8, t9, t10, t11, t12, t13, t14, t15, t16, t17, t18, t19, t20, t21, t22, t23, t24, t25, t26, t27, t28, t29, t30, t31] H [(X.exit 0, K0), (X.ret, K1)] := by
  refine LA_rule (Z := []) (fun m xs H' => AS.asBool (xs.getD 2 undef) fun t2 => AS.asInt .i64 (xs.getD 4 undef) fun t4 => I m t2 t4 H') ?_ n H ?_
  · intro n H
    suffices hs : ∀ s7 : Value, ∀ s8 : Value, ∀ s9 : Value, ∀ s10 : Value, ∀ s13 : Value, ∀ s14 : Value, ∀ s15 : Value, ∀ s16 : Value, ∀ s17 : Value, ∀ s18 : Value, ∀ s19 : Value, ∀ s20 : Value, ∀ s21 : Value, ∀ s22 : Value, ∀ s23 : Value, ∀ s24 : Value, ∀ s25 : Value, ∀ s26 : Value, ∀ s27 : Value, ∀ s28 : Value, ∀ s29 : Value, ∀ s30 : Value, ∀ s31 : Value, ∀ s2 : Value, ∀ s11 : Value, ∀ s12 : Value, ∀ s4 : Value, ((AS.asBool s2 fun t2 => AS.asInt .i64 s4 fun t4 => I n t2 t4 H) → wpCode en L_crossbarlaw06_back_0 [] [(.slice t0 t0l 0), undef, s2, (.slice t3 t3l 0), s4, (.slice t5 t5l 0), (.slice t6 t6l 0), s7, s8, s9, s10, s11, s12, s13, s14, s15, s16, s17, s18, s19, s20, s21, s22, s23, s24, s25, s26, s27, s28, s29, s30, s31] H (loopQ (fun m xs H' => AS.asBool (xs.getD 2 undef) fun t2 => AS.asInt .i64 (xs.getD 4 undef) fun t4 => I m t2 t4 H') n [(X.exit 0, K0), (X.ret, K1)])) by
      apply turnInto hs
      kernel_rfl
    intro s7 s8 s9 s10 s13 s14 s15 s16 s17 s18 s19 s20 s21 s22 s23 s24 s25 s26 s27 s28 s29 s30 s31 s2 s11 s12 s4 hP
    replace hP := asBool_elim hP
    obtain ⟨t2, rfl, hP⟩ := hP
    replace hP := asInt_elim hP
    obtain ⟨t4, rfl, hP⟩ := hP
    apply turnInto (hstep n t2 t4 [(.slice t0 t0l 0), undef, (.bool t2), (.slice t3 t3l 0), (.int .i64 t4), (.slice t5 t5l 0), (.slice t6 t6l 0), s7, s8, s9, s10, s11, s12, s13, s14, s15, s16, s17, s18, s19, s20, s21, s22, s23, s24, s25, s26, s27, s28, s29, s30, s31] H hP)
    kernel_rfl
  · apply turnInto h0
    kernel_rfl


/-! crossbarlaw06_is -/

theorem vc_crossbarlaw06_is (x0 : Option Addr) (x0l : Nat) (x1 : Int) (x2 : Option Addr) (x2l : Nat) (H : Heap) (R : Value → Heap → Prop) :
    (
 CA en F.flow_Targets [(.slice x2 x2l 0)] H fun v1 H2 =>
 ∃ a3 i4, ∃ n5, v1 = (.tuple #[(.slice a3 i4 0), (.int .i64 n5)]) ∧
 bif (n5 == x1) then (
 CA en F.crossbarkit_SameInts [(.slice a3 i4 0), (.slice x0 x0l 0)] H2 fun v6 H7 =>
 ∃ b8, v6 = (.bool b8) ∧
 R (.bool b8) H7)
 else (
 R (.bool false) H2)) →
    CA en F.crossbarlaw06_is [(.slice x0 x0l 0), (.int .i64 x1), (.slice x2 x2l 0)] H R := by
  intro h
  refine wpFn_ok (Z := []) (fn := Go.Proofs.Tryd.f58) ?_ ?_ ?_
  · kernel_rfl
  · kernel_rfl
  · apply turnInto h
    kernel_rfl


/-! crossbarlaw06_jump -/

theorem vc_crossbarlaw06_jump (x0 : Int) (H : Heap) (R : Value → Heap → Prop) :
    (
 nwH H (.cells true 0 [(.int .i64 0), (.int .i64 0), (.int .i64 0), (.int .i64 0), (.int .i64 0)]) fun i1 H2 =>
 stc H2 i1 0 [(.int .i64 21), (.int .i64 0), (.int .i64 0), (.int .i64 x0), (.int .i64 0)] fun H3 =>
 ∃ n4, ∃ n5, ∃ n6, ∃ n7, ∃ n8, H3.cellsAt i1 0 5 = some [(.int .i64 n4), (.int .i64 n5), (.int .i64 n6), (.int .i64 n7), (.int .i64 n8)] ∧
 R (.agg #[(.int .i64 n4), (.int .i64 n5), (.int .i64 n6), (.int .i64 n7), (.int .i64 n8)]) H3) →
    CA en F.crossbarlaw06_jump [(.int .i64 x0)] H R := by
  intro h
  refine wpFn_ok (Z := []) (fn := Go.Proofs.Tryd.f59) ?_ ?_ ?_
  · kernel_rfl
  · kernel_rfl
  · apply turnInto h
    kernel_rfl


/-! crossbarlaw06_exit -/

theorem vc_crossbarlaw06_exit (H : Heap) (R : Value → Heap → Prop) :
    (
 nwH H (.cells true 0 [(.int .i64 0), (.int .i64 0), (.int .i64 0), (.int .i64 0), (.int .i64 0)]) fun i1 H2 =>
 stc H2 i1 0 [(.int .i64 149), (.int .i64 0), (.int .i64 0), (.int .i64 0), (.int .i64 0)] fun H3 =>
 ∃ n4, ∃ n5, ∃ n6, ∃ n7, ∃ n8, H3.cellsAt i1 0 5 = some [(.int .i64 n4), (.int .i64 n5), (.int .i64 n6), (.int .i64 n7), (.int .i64 n8)] ∧
 R (.agg #[(.int .i64 n4), (.int .i64 n5), (.int .i64 n6), (.int .i64 n7), (.int .i64 n8)]) H3) →
    CA en F.crossbarlaw06_exit [] H R := by
  intro h
  refine wpFn_ok (Z := []) (fn := Go.Proofs.Tryd.f60) ?_ ?_ ?_
  · kernel_rfl
  · kernel_rfl
  · apply turnInto h
    kernel_rfl


/-! crossbarlaw06_ja -/

theorem vc_crossbarlaw06_ja (x0 : Int) (H : Heap) (R : Value → Heap → Prop) :
    (
 nwH H (.cells true 0 [(.int .i64 0), (.int .i64 0), (.int .i64 0), (.int .i64 0), (.int .i64 0)]) fun i1 H2 =>
 stc H2 i1 0 [(.int .i64 5), (.int .i64 0), (.int .i64 0), (.int .i64 x0), (.int .i64 0)] fun H3 =>
 ∃ n4, ∃ n5, ∃ n6, ∃ n7, ∃ n8, H3.cellsAt i1 0 5 = some [(.int .i64 n4), (.int .i64 n5), (.int .i64 n6), (.int .i64 n7), (.int .i64 n8)] ∧
 R (.agg #[(.int .i64 n4), (.int .i64 n5), (.int .i64 n6), (.int .i64 n7), (.int .i64 n8)]) H3) →
    CA en F.crossbarlaw06_ja [(.int .i64 x0)] H R := by
  intro h
  refine wpFn_ok (Z := []) (fn := Go.Proofs.Tryd.f61) ?_ ?_ ?_
  · kernel_rfl
  · kernel_rfl
  · apply turnInto h
    kernel_rfl


/-! crossbarkit_SameInts -/
noncomputable def L_crossbarkit_SameInts_0 : Code := loopAt Go.Proofs.Tryd.f36 0

theorem vc_crossbarkit_SameInts (x0 : Option Addr) (x0l : Nat) (x1 : Option Addr) (x1l : Nat) (H : Heap) (R : Value → Heap → Prop) :
    (
 bif (((x0l : Nat) : Int) != ((x1l : Nat) : Int)) then (
 R (.bool false) H)
 else (
 LA en L_crossbarkit_SameInts_0 [(.slice x0 x0l 0), (.slice x1 x1l 0), undef, undef, (.bool false), (.int .i64 0), (.slice x0 x0l 0), (.int .i64 ((x0l : Nat) : Int)), (.slice x1 x1l 0), (.int .i64 ((x1l : Nat) : Int)), (.bool false), undef, undef, undef, undef, undef, undef, undef, undef, undef, undef, undef, undef, undef, undef, undef] H [(X.exit 0, fun (y1 : Fr) (H2 : Heap) =>
 AS.asBool (y1.getD 4 undef) fun b3 =>
 R (.bool true) H2),
 (X.ret, fun (y4 : Fr) (H5 : Heap) =>
 AS.asBool (y4.getD 4 undef) fun b6 =>
 R (.bool b6) H5)])) →
    CA en F.crossbarkit_SameInts [(.slice x0 x0l 0), (.slice x1 x1l 0)] H R := by
  intro h
  refine wpFn_ok (Z := [[(4, (.bool false))]]) (fn := Go.Proofs.Tryd.f36) ?_ ?_ ?_
  · kernel_rfl
  · kernel_rfl
  · apply turnInto h
    kernel_rfl

theorem use_crossbarkit_SameInts_0 {t0 : Option Addr} {t0l : Nat} {t1 : Option Addr} {t1l : Nat} {t6 : Option Addr} {t6l : Nat} {t7 : Int} {t8 : Option Addr} {t8l : Nat} {t9 : Int} {K0 : Fr → Heap → Prop} {K1 : Fr → Heap → Prop} {t4 : Bool} {t5 : Int} {t11 : Value} {t12 : Value} {t13 : Value} {t14 : Value} {t15 : Value} {t16 : Value} {t17 : Value} {t18 : Value} {t19 : Value} {t20 : Value} {t21 : Value} {t22 : Value} {t23 : Value} {t24 : Value} {t25 : Value} {H : Heap} (I : Nat → Bool → Int → Heap → Prop) (n : Nat) (h0 : I n t4 t5 H)
    (hstep : ∀ (n : Nat) (t4 : Bool) (t5 : Int) (ys : Fr) (H : Heap), I n t4 t5 H →
    (
 bif (decide (t5 < ((t0l : Nat) : Int))) then (
 inB t5 t0l ∧
 asRow t0 fun i1 i2 =>
 ∃ n3, (H.bump 9).cell i1 (i2 + (t5.toNat * 1)) = some (.int .i64 n3) ∧
 inB t5 t1l ∧
 asRow t1 fun i4 i5 =>
 ∃ n6, (H.bump 9).cell i4 (i5 + (t5.toNat * 1)) = some (.int .i64 n6) ∧
 (
 bif (n3 != n6) then (
 K1 [(.slice t0 t0l 0), (.slice t1 t1l 0), undef, undef, (.bool false), (.int .i64 t5), (.slice t6 t6l 0), (.int .i64 t7), (.slice t8 t8l 0), (.int .i64 t9), (.bool false), (.int .i64 t5), (.slice t0 t0l 0), (.int .i64 ((t0l : Nat) : Int)), (.bool true), (ys.getD 15 undef), (ys.getD 16 undef), (.slice t0 t0l 0), (.int .i64 t5), (.pointer (some ⟨i1, (i2 + (t5.toNat * 1)), none⟩)), (.int .i64 n3), (.slice t1 t1l 0), (.int .i64 t5), (.pointer (some ⟨i4, (i5 + (t5.toNat * 1)), none⟩)), (.int .i64 n6), (.bool true)] (H.bump 9))
 else (
 ∃ k7, k7 < n ∧
 I k7 t4 (IntKind.i64.wrap (t5 + 1)) (H.bump 9))) ∧
 True)
 else (
 K0 [(.slice t0 t0l 0), (.slice t1 t1l 0), undef, undef, (.bool t4), (.int .i64 t5), (.slice t6 t6l 0), (.int .i64 t7), (.slice t8 t8l 0), (.int .i64 t9), (.bool false), (.int .i64 t5), (.slice t0 t0l 0), (.int .i64 ((t0l : Nat) : Int)), (.bool false), (ys.getD 15 undef), (ys.getD 16 undef), (ys.getD 17 undef), (ys.getD 18 undef), (ys.getD 19 undef), (ys.getD 20 undef), (ys.getD 21 undef), (ys.getD 22 undef), (ys.getD 23 undef), (ys.getD 24 undef), (ys.getD 25 undef)] H))) :
    LA en L_crossbarkit_SameInts_0 [(.slice t0 t0l 0), (.slice t1 t1l 0), undef, undef, (.bool t4), (.int .i64 t5), (.slice t6 t6l 0), (.int .i64 t7), (.slice t8 t8l 0), (.int .i64 t9), (.bool false), t11, t12, t13, t14, t15, t16, t17, t18, t19, t20, t21, t22, t23, t24, t25] H [(X.exit 0, K0), (X.ret, K1)] := by
  refine LA_rule (Z := []) (fun m xs H' => AS.asBool (xs.getD 4 undef) fun t4 => AS.asInt .i64 (xs.getD 5 undef) fun t5 => I m t4 t5 H') ?_ n H ?_
  · intro n H
    suffices hs : ∀ s11 : Value, ∀ s12 : Value, ∀ s13 : Value, ∀ s14 : Value, ∀ s17 : Value, ∀ s18 : Value, ∀ s19 : Value, ∀ s20 : Value, ∀ s21 : Value, ∀ s22 : Value, ∀ s23 : Value, ∀ s24 : Value, ∀ s25 : Value, ∀ s4 : Value, ∀ s15 : Value, ∀ s16 : Value, ∀ s5 : Value, ((AS.asBool s4 fun t4 => AS.asInt .i64 s5 fun t5 => I n t4 t5 H) → wpCode en L_crossbarkit_SameInts_0 [] [(.slice t0 t0l 0), (.slice t1 t1l 0), undef, undef, s4, s5, (.slice t6 t6l 0), (.int .i64 t7), (.slice t8 t8l 0), (.int .i64 t9), (.bool false), s11, s12, s13, s14, s15, s16, s17, s18, s19, s20, s21, s22, s23, s24, s25] H (loopQ (fun m xs H' => AS.asBool (xs.getD 4 undef) fun t4 => AS.asInt .i64 (xs.getD 5 undef) fun t5 => I m t4 t5 H') n [(X.exit 0, K0), (X.ret, K1)])) by
      apply turnInto hs
      kernel_rfl
    intro s11 s12 s13 s14 s17 s18 s19 s20 s21 s22 s23 s24 s25 s4 s15 s16 s5 hP
    replace hP := asBool_elim hP
    obtain ⟨t4, rfl, hP⟩ := hP
    replace hP := asInt_elim hP
    obtain ⟨t5, rfl, hP⟩ := hP
    apply turnInto (hstep n t4 t5 [(.slice t0 t0l 0), (.slice t1 t1l 0), undef, undef, (.bool t4), (.int .i64 t5), (.slice t6 t6l 0), (.int .i64 t7), (.slice t8 t8l 0), (.int .i64 t9), (.bool false), s11, s12, s13, s14, s15, s16, s17, s18, s19, s20, s21, s22, s23, s24, s25] H hP)
    kernel_rfl
  · apply turnInto h0
    kernel_rfl

end Go.Proofs.YtmgkngdbphkmmaaDoor
