/-
  What functions of this seat's program need (printed by a program, checked by the kernel).
-/
import Derived.Test.YtdkbgjhlpoibdaaNames
import Derived.Test.YtdkbgjhlpoibdaaAs41
namespace Go.Proofs.Ytdkbgjhlpoibdaa
open Go Go.AS Go.RowKit
set_option linter.unusedVariables false
set_option maxRecDepth 100000

/-! crossbarref08_New -/

theorem vc_crossbarref08_New (x0 : Int) (H : Heap) (R : Value → Heap → Prop) :
    (
 nwH H (.cells true 0 [(.slice none 0 0), (.int .i64 (if (if 65536 < x0 then 65536 else x0) > 0 then (if 65536 < x0 then 65536 else x0) else 0)), (.int .i64 0), (.int .i64 0)]) fun i1 H2 =>
 R (.pointer (some ⟨i1, 0, none⟩)) H2) →
    CA en F.crossbarref08_New [(.int .i64 x0)] H R := by
  intro h
  refine wpFn_ok (Z := []) (fn := Go.Proofs.Try.f45) ?_ ?_ ?_
  · kernel_rfl
  · kernel_rfl
  · apply turnInto h
    kernel_rfl


/-! crossbarref08_Mem_Room -/

theorem vc_crossbarref08_Mem_Room (x0 : Option Addr) (H : Heap) (R : Value → Heap → Prop) :
    (
 AS.asAddr (.pointer x0) fun i1 i2 =>
 ∃ n3, H.cell i1 (i2 + 1) = some (.int .i64 n3) ∧
 R (.int .i64 n3) H) →
    CA en F.crossbarref08_Mem_Room [(.pointer x0)] H R := by
  intro h
  refine wpFn_ok (Z := []) (fn := Go.Proofs.Try.f47) ?_ ?_ ?_
  · kernel_rfl
  · kernel_rfl
  · apply turnInto h
    kernel_rfl


/-! crossbarref08_Mem_Live -/
noncomputable def L_crossbarref08_Mem_Live_0 : Code := loopAt Go.Proofs.Try.f48 0

theorem vc_crossbarref08_Mem_Live (x0 : Option Addr) (H : Heap) (R : Value → Heap → Prop) :
    (
 LA en L_crossbarref08_Mem_Live_0 [(.pointer x0), undef, (.int .i64 0), (.int .i64 0), (.int .i64 0), undef, undef, undef, undef, undef, undef, undef, undef, undef, undef, undef, undef, undef, undef, undef, undef, undef, undef, undef, undef] H [(X.exit 0, fun (x1 : Fr) (H2 : Heap) =>
 AS.asInt .i64 (x1.getD 3 undef) fun n3 =>
 R (.int .i64 n3) H2)]) →
    CA en F.crossbarref08_Mem_Live [(.pointer x0)] H R := by
  intro h
  refine wpFn_ok (Z := [[(3, (.int .i64 0))]]) (fn := Go.Proofs.Try.f48) ?_ ?_ ?_
  · kernel_rfl
  · kernel_rfl
  · apply turnInto h
    kernel_rfl

theorem use_crossbarref08_Mem_Live_0 {t0 : Option Addr} {K0 : Fr → Heap → Prop} {t3 : Int} {t4 : Int} {t5 : Value} {t6 : Value} {t7 : Value} {t8 : Value} {t9 : Value} {t10 : Value} {t11 : Value} {t12 : Value} {t13 : Value} {t14 : Value} {t15 : Value} {t16 : Value} {t17 : Value} {t18 : Value} {t19 : Value} {t20 : Value} {t21 : Value} {t22 : Value} {t23 : Value} {H : Heap} (I : Nat → Int → Int → Heap → Prop) (n : Nat) (h0 : I n t3 t4 H)
    (hstep : ∀ (n : Nat) (t3 : Int) (t4 : Int) (ys : Fr) (H : Heap), I n t3 t4 H →
    (
 AS.asAddr (.pointer t0) fun i1 i2 =>
 ∃ a3 i4, H.cell i1 i2 = some (.slice a3 i4 0) ∧
 bif (decide (t4 < ((i4 : Nat) : Int))) then (
 AS.asAddr (.pointer t0) fun i5 i6 =>
 ∃ a7 i8, H.cell i5 i6 = some (.slice a7 i8 0) ∧
 inB t4 i8 ∧
 asRow a7 fun i9 i10 =>
 ∃ b11, H.cell i9 (i10 + (t4.toNat * 2)) = some (.bool b11) ∧
 bif b11 then (
 ∃ k12, k12 < n ∧
 I k12 (IntKind.i64.wrap (t3 + 1)) (IntKind.i64.wrap (t4 + 1)) H)
 else (
 ∃ k13, k13 < n ∧
 I k13 t3 (IntKind.i64.wrap (t4 + 1)) H))
 else (
 K0 [(.pointer t0), undef, (.int .i64 0), (.int .i64 t3), (.int .i64 t4), (.int .i64 t4), (.pointer t0), (.pointer (some ⟨i1, i2, none⟩)), (.pointer (some ⟨i1, i2, none⟩)), (.slice a3 i4 0), (.int .i64 ((i4 : Nat) : Int)), (.bool false), (ys.getD 12 undef), (ys.getD 13 undef), (ys.getD 14 undef), (ys.getD 15 undef), (ys.getD 16 undef), (ys.getD 17 undef), (ys.getD 18 undef), (ys.getD 19 undef), (ys.getD 20 undef), (ys.getD 21 undef), (ys.getD 22 undef), (ys.getD 23 undef), undef] H))) :
    LA en L_crossbarref08_Mem_Live_0 [(.pointer t0), undef, (.int .i64 0), (.int .i64 t3), (.int .i64 t4), t5, t6, t7, t8, t9, t10, t11, t12, t13, t14, t15, t16, t17, t18, t19, t20, t21, t22, t23, undef] H [(X.exit 0, K0)] := by
  refine LA_rule (Z := []) (fun m xs H' => AS.asInt .i64 (xs.getD 3 undef) fun t3 => AS.asInt .i64 (xs.getD 4 undef) fun t4 => I m t3 t4 H') ?_ n H ?_
  · intro n H
    suffices hs : ∀ s5 : Value, ∀ s6 : Value, ∀ s7 : Value, ∀ s8 : Value, ∀ s9 : Value, ∀ s10 : Value, ∀ s11 : Value, ∀ s14 : Value, ∀ s15 : Value, ∀ s16 : Value, ∀ s17 : Value, ∀ s18 : Value, ∀ s19 : Value, ∀ s20 : Value, ∀ s21 : Value, ∀ s22 : Value, ∀ s23 : Value, ∀ s3 : Value, ∀ s12 : Value, ∀ s13 : Value, ∀ s4 : Value, ((AS.asInt .i64 s3 fun t3 => AS.asInt .i64 s4 fun t4 => I n t3 t4 H) → wpCode en L_crossbarref08_Mem_Live_0 [] [(.pointer t0), undef, (.int .i64 0), s3, s4, s5, s6, s7, s8, s9, s10, s11, s12, s13, s14, s15, s16, s17, s18, s19, s20, s21, s22, s23, undef] H (loopQ (fun m xs H' => AS.asInt .i64 (xs.getD 3 undef) fun t3 => AS.asInt .i64 (xs.getD 4 undef) fun t4 => I m t3 t4 H') n [(X.exit 0, K0)])) by
      apply turnInto hs
      kernel_rfl
    intro s5 s6 s7 s8 s9 s10 s11 s14 s15 s16 s17 s18 s19 s20 s21 s22 s23 s3 s12 s13 s4 hP
    replace hP := asInt_elim hP
    obtain ⟨t3, rfl, hP⟩ := hP
    replace hP := asInt_elim hP
    obtain ⟨t4, rfl, hP⟩ := hP
    apply turnInto (hstep n t3 t4 [(.pointer t0), undef, (.int .i64 0), (.int .i64 t3), (.int .i64 t4), s5, s6, s7, s8, s9, s10, s11, s12, s13, s14, s15, s16, s17, s18, s19, s20, s21, s22, s23, undef] H hP)
    kernel_rfl
  · apply turnInto h0
    kernel_rfl


/-! crossbarref08_Mem_Count -/

theorem vc_crossbarref08_Mem_Count (x0 : Option Addr) (H : Heap) (R : Value → Heap → Prop) :
    (
 AS.asAddr (.pointer x0) fun i1 i2 =>
 ∃ n3, H.cell i1 (i2 + 2) = some (.int .i64 n3) ∧
 R (.int .i64 n3) H) →
    CA en F.crossbarref08_Mem_Count [(.pointer x0)] H R := by
  intro h
  refine wpFn_ok (Z := []) (fn := Go.Proofs.Try.f49) ?_ ?_ ?_
  · kernel_rfl
  · kernel_rfl
  · apply turnInto h
    kernel_rfl


/-! crossbarref08_Mem_Bad -/

theorem vc_crossbarref08_Mem_Bad (x0 : Option Addr) (H : Heap) (R : Value → Heap → Prop) :
    (
 AS.asAddr (.pointer x0) fun i1 i2 =>
 ∃ n3, H.cell i1 (i2 + 3) = some (.int .i64 n3) ∧
 R (.int .i64 n3) H) →
    CA en F.crossbarref08_Mem_Bad [(.pointer x0)] H R := by
  intro h
  refine wpFn_ok (Z := []) (fn := Go.Proofs.Try.f50) ?_ ?_ ?_
  · kernel_rfl
  · kernel_rfl
  · apply turnInto h
    kernel_rfl


/-! crossbarref08_Mem_Size -/

theorem vc_crossbarref08_Mem_Size (x0 : Option Addr) (x1 : Int) (H : Heap) (R : Value → Heap → Prop) :
    (
 CA en F.crossbarref08_Mem_live [(.pointer x0), (.int .i64 x1)] H fun v1 H2 =>
 ∃ b3, v1 = (.bool b3) ∧
 bif (!b3) then (
 R (.int .i64 0) H2)
 else (
 AS.asAddr (.pointer x0) fun i4 i5 =>
 ∃ a6 i7, H2.cell i4 i5 = some (.slice a6 i7 0) ∧
 inB (IntKind.i64.wrap (x1 - 1)) i7 ∧
 asRow a6 fun i8 i9 =>
 ∃ a10 i11, H2.cell i8 ((i9 + ((IntKind.i64.wrap (x1 - 1)).toNat * 2)) + 1) = some (.slice a10 i11 0) ∧
 R (.int .i64 ((i11 : Nat) : Int)) H2)) →
    CA en F.crossbarref08_Mem_Size [(.pointer x0), (.int .i64 x1)] H R := by
  intro h
  refine wpFn_ok (Z := []) (fn := Go.Proofs.Try.f51) ?_ ?_ ?_
  · kernel_rfl
  · kernel_rfl
  · apply turnInto h
    kernel_rfl


/-! crossbarref08_Mem_Make -/

theorem vc_crossbarref08_Mem_Make (x0 : Option Addr) (x1 : Int) (H : Heap) (R : Value → Heap → Prop) :
    (
 bif (decide (x1 < 1)) then (
 R (.tuple #[(.int .i64 0), (.int .i64 1)]) H)
 else (
 bif (decide (x1 > 65536)) then (
 R (.tuple #[(.int .i64 0), (.int .i64 1)]) H)
 else (
 AS.asAddr (.pointer x0) fun i1 i2 =>
 ∃ n3, H.cell i1 (i2 + 1) = some (.int .i64 n3) ∧
 bif (decide (x1 > n3)) then (
 R (.tuple #[(.int .i64 0), (.int .i64 5)]) H)
 else (
 AS.asAddr (.pointer x0) fun i4 i5 =>
 ∃ n6, H.cell i4 (i5 + 1) = some (.int .i64 n6) ∧
 AS.asAddr (.pointer x0) fun i7 i8 =>
 stc H i7 (i8 + 1) [(.int .i64 (IntKind.i64.wrap (n6 - x1)))] fun H9 =>
 AS.asAddr (.pointer x0) fun i10 i11 =>
 ∃ a12 i13, (H9.bump 13).cell i10 i11 = some (.slice a12 i13 0) ∧
 okLen 8 x1 x1 ∧
 nwH (H9.bump 13) (.cells true 1 (reps x1.toNat [(.int .u64 0)])) fun i14 H15 =>
 nwH H15 (.cells true 2 [(.bool true), (.slice (some ⟨i14, 0, none⟩) x1.toNat 0)]) fun i16 H17 =>
 ∃ l18, rowOf H17 2 (some ⟨i16, 0, none⟩) 1 = some l18 ∧
 apd H17 32 2 a12 i13 1 l18 fun a19 i20 H21 =>
 AS.asAddr (.pointer x0) fun i22 i23 =>
 stc H21 i22 i23 [(.slice a19 i20 0)] fun H24 =>
 (
 AS.asAddr (.pointer x0) fun i31 i32 =>
 ∃ a33 i34, H24.cell i31 i32 = some (.slice a33 i34 0) ∧
 R (.tuple #[(.int .i64 ((i34 : Nat) : Int)), (.int .i64 0)]) H24) ∧
 ((∃ a29 i30, (H9.bump 13).cell i10 i11 = some (.slice a29 i30 0) ∧
 (a12 = a29 ∧ i13 = i30 ∧ 0 = 0)) ∧ (∃ a27 i28, H15.cell i10 i11 = some (.slice a27 i28 0) ∧
 (a12 = a27 ∧ i13 = i28 ∧ 0 = 0)) ∧ (∃ a25 i26, H17.cell i10 i11 = some (.slice a25 i26 0) ∧
 (a12 = a25 ∧ i13 = i26 ∧ 0 = 0)) ∧ True) ∧
 True)))) →
    CA en F.crossbarref08_Mem_Make [(.pointer x0), (.int .i64 x1)] H R := by
  intro h
  refine wpFn_ok (Z := []) (fn := Go.Proofs.Try.f67) ?_ ?_ ?_
  · kernel_rfl
  · kernel_rfl
  · apply turnInto h
    kernel_rfl


/-! crossbarref08_Mem_Free -/

theorem vc_crossbarref08_Mem_Free (x0 : Option Addr) (x1 : Int) (H : Heap) (R : Value → Heap → Prop) :
    (
 CA en F.crossbarref08_Mem_live [(.pointer x0), (.int .i64 x1)] H fun v1 H2 =>
 ∃ b3, v1 = (.bool b3) ∧
 bif (!b3) then (
 R (.bool false) H2)
 else (
 AS.asAddr (.pointer x0) fun i4 i5 =>
 ∃ a6 i7, H2.cell i4 i5 = some (.slice a6 i7 0) ∧
 inB (IntKind.i64.wrap (x1 - 1)) i7 ∧
 asRow a6 fun i8 i9 =>
 stc H2 i8 (i9 + ((IntKind.i64.wrap (x1 - 1)).toNat * 2)) [(.bool false)] fun H10 =>
 AS.asAddr (.pointer x0) fun i11 i12 =>
 ∃ n13, (H10.bump 19).cell i11 (i12 + 1) = some (.int .i64 n13) ∧
 AS.asAddr (.pointer x0) fun i14 i15 =>
 ∃ a16 i17, (H10.bump 19).cell i14 i15 = some (.slice a16 i17 0) ∧
 inB (IntKind.i64.wrap (x1 - 1)) i17 ∧
 asRow a16 fun i18 i19 =>
 ∃ a20 i21, (H10.bump 19).cell i18 ((i19 + ((IntKind.i64.wrap (x1 - 1)).toNat * 2)) + 1) = some (.slice a20 i21 0) ∧
 AS.asAddr (.pointer x0) fun i22 i23 =>
 stc (H10.bump 19) i22 (i23 + 1) [(.int .i64 (IntKind.i64.wrap (n13 + ((i21 : Nat) : Int))))] fun H24 =>
 (
 R (.bool true) H24) ∧
 True)) →
    CA en F.crossbarref08_Mem_Free [(.pointer x0), (.int .i64 x1)] H R := by
  intro h
  refine wpFn_ok (Z := []) (fn := Go.Proofs.Try.f68) ?_ ?_ ?_
  · kernel_rfl
  · kernel_rfl
  · apply turnInto h
    kernel_rfl


/-! crossbarref08_Mem_Load -/

theorem vc_crossbarref08_Mem_Load (x0 : Option Addr) (x1 : Int) (x2 : Int) (H : Heap) (R : Value → Heap → Prop) :
    (
 CA en F.crossbarref08_Mem_good [(.pointer x0), (.int .i64 x1), (.int .i64 x2)] H fun v1 H2 =>
 ∃ b3, v1 = (.bool b3) ∧
 bif (!b3) then (
 R (.tuple #[(.int .u64 0), (.bool false)]) H2)
 else (
 AS.asAddr (.pointer x0) fun i4 i5 =>
 ∃ a6 i7, H2.cell i4 i5 = some (.slice a6 i7 0) ∧
 inB (IntKind.i64.wrap (x1 - 1)) i7 ∧
 asRow a6 fun i8 i9 =>
 ∃ a10 i11, H2.cell i8 ((i9 + ((IntKind.i64.wrap (x1 - 1)).toNat * 2)) + 1) = some (.slice a10 i11 0) ∧
 inB x2 i11 ∧
 asRow a10 fun i12 i13 =>
 ∃ n14, H2.cell i12 (i13 + (x2.toNat * 1)) = some (.int .u64 n14) ∧
 R (.tuple #[(.int .u64 n14), (.bool true)]) H2)) →
    CA en F.crossbarref08_Mem_Load [(.pointer x0), (.int .i64 x1), (.int .i64 x2)] H R := by
  intro h
  refine wpFn_ok (Z := []) (fn := Go.Proofs.Try.f69) ?_ ?_ ?_
  · kernel_rfl
  · kernel_rfl
  · apply turnInto h
    kernel_rfl


/-! crossbarref08_Mem_Store -/

theorem vc_crossbarref08_Mem_Store (x0 : Option Addr) (x1 : Int) (x2 : Int) (x3 : Int) (H : Heap) (R : Value → Heap → Prop) :
    (
 CA en F.crossbarref08_Mem_good [(.pointer x0), (.int .i64 x1), (.int .i64 x2)] H fun v1 H2 =>
 ∃ b3, v1 = (.bool b3) ∧
 bif (!b3) then (
 R (.bool false) H2)
 else (
 AS.asAddr (.pointer x0) fun i4 i5 =>
 ∃ a6 i7, H2.cell i4 i5 = some (.slice a6 i7 0) ∧
 inB (IntKind.i64.wrap (x1 - 1)) i7 ∧
 asRow a6 fun i8 i9 =>
 ∃ a10 i11, H2.cell i8 ((i9 + ((IntKind.i64.wrap (x1 - 1)).toNat * 2)) + 1) = some (.slice a10 i11 0) ∧
 inB x2 i11 ∧
 asRow a10 fun i12 i13 =>
 stc H2 i12 (i13 + (x2.toNat * 1)) [(.int .u64 x3)] fun H14 =>
 R (.bool true) H14)) →
    CA en F.crossbarref08_Mem_Store [(.pointer x0), (.int .i64 x1), (.int .i64 x2), (.int .u64 x3)] H R := by
  intro h
  refine wpFn_ok (Z := []) (fn := Go.Proofs.Try.f70) ?_ ?_ ?_
  · kernel_rfl
  · kernel_rfl
  · apply turnInto h
    kernel_rfl


/-! crossbarref08_Mem_Mask -/

theorem vc_crossbarref08_Mem_Mask (x0 : Option Addr) (x1 : Int) (x2 : Int) (x3 : Int) (x4 : Int) (H : Heap) (R : Value → Heap → Prop) :
    (
 CA en F.crossbarref08_Mem_good [(.pointer x0), (.int .i64 x1), (.int .i64 x2)] H fun v1 H2 =>
 ∃ b3, v1 = (.bool b3) ∧
 bif (!b3) then (
 R (.bool false) H2)
 else (
 AS.asAddr (.pointer x0) fun i4 i5 =>
 ∃ a6 i7, (H2.bump 27).cell i4 i5 = some (.slice a6 i7 0) ∧
 inB (IntKind.i64.wrap (x1 - 1)) i7 ∧
 asRow a6 fun i8 i9 =>
 ∃ a10 i11, (H2.bump 27).cell i8 ((i9 + ((IntKind.i64.wrap (x1 - 1)).toNat * 2)) + 1) = some (.slice a10 i11 0) ∧
 AS.asAddr (.pointer x0) fun i12 i13 =>
 ∃ a14 i15, (H2.bump 27).cell i12 i13 = some (.slice a14 i15 0) ∧
 inB (IntKind.i64.wrap (x1 - 1)) i15 ∧
 asRow a14 fun i16 i17 =>
 ∃ a18 i19, (H2.bump 27).cell i16 ((i17 + ((IntKind.i64.wrap (x1 - 1)).toNat * 2)) + 1) = some (.slice a18 i19 0) ∧
 inB x2 i19 ∧
 asRow a18 fun i20 i21 =>
 ∃ n22, (H2.bump 27).cell i20 (i21 + (x2.toNat * 1)) = some (.int .u64 n22) ∧
 CA en F.crossbarref08_under [(.int .u64 n22), (.int .u64 x3), (.int .u64 x4)] (H2.bump 27) fun v23 H24 =>
 ∃ n25, v23 = (.int .u64 n25) ∧
 inB x2 i11 ∧
 asRow a10 fun i26 i27 =>
 stc H24 i26 (i27 + (x2.toNat * 1)) [(.int .u64 n25)] fun H28 =>
 (
 R (.bool true) H28) ∧
 ((∃ a31 i32, (H2.bump 27).cell i8 ((i9 + ((IntKind.i64.wrap (x1 - 1)).toNat * 2)) + 1) = some (.slice a31 i32 0) ∧
 (a10 = a31 ∧ i11 = i32 ∧ 0 = 0)) ∧ (∃ a29 i30, H24.cell i8 ((i9 + ((IntKind.i64.wrap (x1 - 1)).toNat * 2)) + 1) = some (.slice a29 i30 0) ∧
 (a10 = a29 ∧ i11 = i30 ∧ 0 = 0)) ∧ True) ∧
 (((IntKind.i64.wrap (x1 - 1)) = (IntKind.i64.wrap (x1 - 1))) ∧ ((IntKind.i64.wrap (x1 - 1)) = (IntKind.i64.wrap (x1 - 1))) ∧ True) ∧
 ((∃ a35 i36, (H2.bump 27).cell i4 i5 = some (.slice a35 i36 0) ∧
 (a6 = a35 ∧ i7 = i36 ∧ 0 = 0)) ∧ (∃ a33 i34, H24.cell i4 i5 = some (.slice a33 i34 0) ∧
 (a6 = a33 ∧ i7 = i34 ∧ 0 = 0)) ∧ True) ∧
 True)) →
    CA en F.crossbarref08_Mem_Mask [(.pointer x0), (.int .i64 x1), (.int .i64 x2), (.int .u64 x3), (.int .u64 x4)] H R := by
  intro h
  refine wpFn_ok (Z := []) (fn := Go.Proofs.Try.f71) ?_ ?_ ?_
  · kernel_rfl
  · kernel_rfl
  · apply turnInto h
    kernel_rfl


/-! crossbarref08_Mem_Fetch -/

theorem vc_crossbarref08_Mem_Fetch (x0 : Option Addr) (x1 : Int) (x2 : Int) (x3 : Int) (x4 : Int) (x5 : Int) (H : Heap) (R : Value → Heap → Prop) :
    (
 CA en F.crossbarref08_Mem_good [(.pointer x0), (.int .i64 x1), (.int .i64 x2)] H fun v1 H2 =>
 ∃ b3, v1 = (.bool b3) ∧
 bif (!b3) then (
 R (.tuple #[(.int .u64 0), (.bool false)]) H2)
 else (
 AS.asAddr (.pointer x0) fun i4 i5 =>
 ∃ a6 i7, H2.cell i4 i5 = some (.slice a6 i7 0) ∧
 inB (IntKind.i64.wrap (x1 - 1)) i7 ∧
 asRow a6 fun i8 i9 =>
 ∃ a10 i11, H2.cell i8 ((i9 + ((IntKind.i64.wrap (x1 - 1)).toNat * 2)) + 1) = some (.slice a10 i11 0) ∧
 inB x2 i11 ∧
 asRow a10 fun i12 i13 =>
 ∃ n14, H2.cell i12 (i13 + (x2.toNat * 1)) = some (.int .u64 n14) ∧
 CA en F.crossbarref08_under [(.int .u64 0), (.int .u64 x4), (.int .u64 n14)] H2 fun v15 H16 =>
 ∃ n17, v15 = (.int .u64 n17) ∧
 CA en F.crossbarref08_under [(.int .u64 0), (.int .u64 x4), (.int .u64 x5)] H16 fun v18 H19 =>
 ∃ n20, v18 = (.int .u64 n20) ∧
 bif (x3 == 0) then (
 AS.asAddr (.pointer x0) fun i21 i22 =>
 ∃ a23 i24, (H19.bump 16).cell i21 i22 = some (.slice a23 i24 0) ∧
 inB (IntKind.i64.wrap (x1 - 1)) i24 ∧
 asRow a23 fun i25 i26 =>
 ∃ a27 i28, (H19.bump 16).cell i25 ((i26 + ((IntKind.i64.wrap (x1 - 1)).toNat * 2)) + 1) = some (.slice a27 i28 0) ∧
 CA en F.crossbarref08_under [(.int .u64 n14), (.int .u64 x4), (.int .u64 (IntKind.u64.wrap (n17 + n20)))] (H19.bump 16) fun v29 H30 =>
 ∃ n31, v29 = (.int .u64 n31) ∧
 inB x2 i28 ∧
 asRow a27 fun i32 i33 =>
 stc H30 i32 (i33 + (x2.toNat * 1)) [(.int .u64 n31)] fun H34 =>
 (
 R (.tuple #[(.int .u64 n14), (.bool true)]) H34) ∧
 ((∃ a37 i38, (H19.bump 16).cell i25 ((i26 + ((IntKind.i64.wrap (x1 - 1)).toNat * 2)) + 1) = some (.slice a37 i38 0) ∧
 (a27 = a37 ∧ i28 = i38 ∧ 0 = 0)) ∧ (∃ a35 i36, H30.cell i25 ((i26 + ((IntKind.i64.wrap (x1 - 1)).toNat * 2)) + 1) = some (.slice a35 i36 0) ∧
 (a27 = a35 ∧ i28 = i36 ∧ 0 = 0)) ∧ True) ∧
 (((IntKind.i64.wrap (x1 - 1)) = (IntKind.i64.wrap (x1 - 1))) ∧ ((IntKind.i64.wrap (x1 - 1)) = (IntKind.i64.wrap (x1 - 1))) ∧ True) ∧
 ((∃ a41 i42, (H19.bump 16).cell i21 i22 = some (.slice a41 i42 0) ∧
 (a23 = a41 ∧ i24 = i42 ∧ 0 = 0)) ∧ (∃ a39 i40, H30.cell i21 i22 = some (.slice a39 i40 0) ∧
 (a23 = a39 ∧ i24 = i40 ∧ 0 = 0)) ∧ True) ∧
 True)
 else (
 bif (x3 == 64) then (
 AS.asAddr (.pointer x0) fun i43 i44 =>
 ∃ a45 i46, (H19.bump 16).cell i43 i44 = some (.slice a45 i46 0) ∧
 inB (IntKind.i64.wrap (x1 - 1)) i46 ∧
 asRow a45 fun i47 i48 =>
 ∃ a49 i50, (H19.bump 16).cell i47 ((i48 + ((IntKind.i64.wrap (x1 - 1)).toNat * 2)) + 1) = some (.slice a49 i50 0) ∧
 CA en F.crossbarref08_under [(.int .u64 n14), (.int .u64 x4), (.int .u64 (IntKind.u64.wrap ((BitVec.ofInt 64 n17 ||| (BitVec.ofInt 64 n20)).toNat : Int)))] (H19.bump 16) fun v51 H52 =>
 ∃ n53, v51 = (.int .u64 n53) ∧
 inB x2 i50 ∧
 asRow a49 fun i54 i55 =>
 stc H52 i54 (i55 + (x2.toNat * 1)) [(.int .u64 n53)] fun H56 =>
 (
 R (.tuple #[(.int .u64 n14), (.bool true)]) H56) ∧
 ((∃ a59 i60, (H19.bump 16).cell i47 ((i48 + ((IntKind.i64.wrap (x1 - 1)).toNat * 2)) + 1) = some (.slice a59 i60 0) ∧
 (a49 = a59 ∧ i50 = i60 ∧ 0 = 0)) ∧ (∃ a57 i58, H52.cell i47 ((i48 + ((IntKind.i64.wrap (x1 - 1)).toNat * 2)) + 1) = some (.slice a57 i58 0) ∧
 (a49 = a57 ∧ i50 = i58 ∧ 0 = 0)) ∧ True) ∧
 (((IntKind.i64.wrap (x1 - 1)) = (IntKind.i64.wrap (x1 - 1))) ∧ ((IntKind.i64.wrap (x1 - 1)) = (IntKind.i64.wrap (x1 - 1))) ∧ True) ∧
 ((∃ a63 i64, (H19.bump 16).cell i43 i44 = some (.slice a63 i64 0) ∧
 (a45 = a63 ∧ i46 = i64 ∧ 0 = 0)) ∧ (∃ a61 i62, H52.cell i43 i44 = some (.slice a61 i62 0) ∧
 (a45 = a61 ∧ i46 = i62 ∧ 0 = 0)) ∧ True) ∧
 True)
 else (
 bif (x3 == 80) then (
 AS.asAddr (.pointer x0) fun i65 i66 =>
 ∃ a67 i68, (H19.bump 16).cell i65 i66 = some (.slice a67 i68 0) ∧
 inB (IntKind.i64.wrap (x1 - 1)) i68 ∧
 asRow a67 fun i69 i70 =>
 ∃ a71 i72, (H19.bump 16).cell i69 ((i70 + ((IntKind.i64.wrap (x1 - 1)).toNat * 2)) + 1) = some (.slice a71 i72 0) ∧
 CA en F.crossbarref08_under [(.int .u64 n14), (.int .u64 x4), (.int .u64 (IntKind.u64.wrap ((BitVec.ofInt 64 n17 &&& (BitVec.ofInt 64 n20)).toNat : Int)))] (H19.bump 16) fun v73 H74 =>
 ∃ n75, v73 = (.int .u64 n75) ∧
 inB x2 i72 ∧
 asRow a71 fun i76 i77 =>
 stc H74 i76 (i77 + (x2.toNat * 1)) [(.int .u64 n75)] fun H78 =>
 (
 R (.tuple #[(.int .u64 n14), (.bool true)]) H78) ∧
 ((∃ a81 i82, (H19.bump 16).cell i69 ((i70 + ((IntKind.i64.wrap (x1 - 1)).toNat * 2)) + 1) = some (.slice a81 i82 0) ∧
 (a71 = a81 ∧ i72 = i82 ∧ 0 = 0)) ∧ (∃ a79 i80, H74.cell i69 ((i70 + ((IntKind.i64.wrap (x1 - 1)).toNat * 2)) + 1) = some (.slice a79 i80 0) ∧
 (a71 = a79 ∧ i72 = i80 ∧ 0 = 0)) ∧ True) ∧
 (((IntKind.i64.wrap (x1 - 1)) = (IntKind.i64.wrap (x1 - 1))) ∧ ((IntKind.i64.wrap (x1 - 1)) = (IntKind.i64.wrap (x1 - 1))) ∧ True) ∧
 ((∃ a85 i86, (H19.bump 16).cell i65 i66 = some (.slice a85 i86 0) ∧
 (a67 = a85 ∧ i68 = i86 ∧ 0 = 0)) ∧ (∃ a83 i84, H74.cell i65 i66 = some (.slice a83 i84 0) ∧
 (a67 = a83 ∧ i68 = i84 ∧ 0 = 0)) ∧ True) ∧
 True)
 else (
 bif (x3 == 160) then (
 AS.asAddr (.pointer x0) fun i87 i88 =>
 ∃ a89 i90, (H19.bump 16).cell i87 i88 = some (.slice a89 i90 0) ∧
 inB (IntKind.i64.wrap (x1 - 1)) i90 ∧
 asRow a89 fun i91 i92 =>
 ∃ a93 i94, (H19.bump 16).cell i91 ((i92 + ((IntKind.i64.wrap (x1 - 1)).toNat * 2)) + 1) = some (.slice a93 i94 0) ∧
 CA en F.crossbarref08_under [(.int .u64 n14), (.int .u64 x4), (.int .u64 (IntKind.u64.wrap ((BitVec.ofInt 64 n17 ^^^ (BitVec.ofInt 64 n20)).toNat : Int)))] (H19.bump 16) fun v95 H96 =>
 ∃ n97, v95 = (.int .u64 n97) ∧
 inB x2 i94 ∧
 asRow a93 fun i98 i99 =>
 stc H96 i98 (i99 + (x2.toNat * 1)) [(.int .u64 n97)] fun H100 =>
 (
 R (.tuple #[(.int .u64 n14), (.bool true)]) H100) ∧
 ((∃ a103 i104, (H19.bump 16).cell i91 ((i92 + ((IntKind.i64.wrap (x1 - 1)).toNat * 2)) + 1) = some (.slice a103 i104 0) ∧
 (a93 = a103 ∧ i94 = i104 ∧ 0 = 0)) ∧ (∃ a101 i102, H96.cell i91 ((i92 + ((IntKind.i64.wrap (x1 - 1)).toNat * 2)) + 1) = some (.slice a101 i102 0) ∧
 (a93 = a101 ∧ i94 = i102 ∧ 0 = 0)) ∧ True) ∧
 (((IntKind.i64.wrap (x1 - 1)) = (IntKind.i64.wrap (x1 - 1))) ∧ ((IntKind.i64.wrap (x1 - 1)) = (IntKind.i64.wrap (x1 - 1))) ∧ True) ∧
 ((∃ a107 i108, (H19.bump 16).cell i87 i88 = some (.slice a107 i108 0) ∧
 (a89 = a107 ∧ i90 = i108 ∧ 0 = 0)) ∧ (∃ a105 i106, H96.cell i87 i88 = some (.slice a105 i106 0) ∧
 (a89 = a105 ∧ i90 = i106 ∧ 0 = 0)) ∧ True) ∧
 True)
 else (
 AS.asAddr (.pointer x0) fun i109 i110 =>
 ∃ n111, H19.cell i109 (i110 + 3) = some (.int .i64 n111) ∧
 AS.asAddr (.pointer x0) fun i112 i113 =>
 stc H19 i112 (i113 + 3) [(.int .i64 (IntKind.i64.wrap (n111 + 1)))] fun H114 =>
 R (.tuple #[(.int .u64 0), (.bool false)]) H114)))))) →
    CA en F.crossbarref08_Mem_Fetch [(.pointer x0), (.int .i64 x1), (.int .i64 x2), (.int .i64 x3), (.int .u64 x4), (.int .u64 x5)] H R := by
  intro h
  refine wpFn_ok (Z := []) (fn := Go.Proofs.Try.f72) ?_ ?_ ?_
  · kernel_rfl
  · kernel_rfl
  · apply turnInto h
    kernel_rfl


/-! crossbarref08_Mem_Swap -/

theorem vc_crossbarref08_Mem_Swap (x0 : Option Addr) (x1 : Int) (x2 : Int) (x3 : Int) (x4 : Int) (H : Heap) (R : Value → Heap → Prop) :
    (
 CA en F.crossbarref08_Mem_good [(.pointer x0), (.int .i64 x1), (.int .i64 x2)] H fun v1 H2 =>
 ∃ b3, v1 = (.bool b3) ∧
 bif (!b3) then (
 R (.tuple #[(.int .u64 0), (.bool false)]) H2)
 else (
 AS.asAddr (.pointer x0) fun i4 i5 =>
 ∃ a6 i7, H2.cell i4 i5 = some (.slice a6 i7 0) ∧
 inB (IntKind.i64.wrap (x1 - 1)) i7 ∧
 asRow a6 fun i8 i9 =>
 ∃ a10 i11, H2.cell i8 ((i9 + ((IntKind.i64.wrap (x1 - 1)).toNat * 2)) + 1) = some (.slice a10 i11 0) ∧
 inB x2 i11 ∧
 asRow a10 fun i12 i13 =>
 ∃ n14, H2.cell i12 (i13 + (x2.toNat * 1)) = some (.int .u64 n14) ∧
 AS.asAddr (.pointer x0) fun i15 i16 =>
 ∃ a17 i18, (H2.bump 16).cell i15 i16 = some (.slice a17 i18 0) ∧
 inB (IntKind.i64.wrap (x1 - 1)) i18 ∧
 asRow a17 fun i19 i20 =>
 ∃ a21 i22, (H2.bump 16).cell i19 ((i20 + ((IntKind.i64.wrap (x1 - 1)).toNat * 2)) + 1) = some (.slice a21 i22 0) ∧
 CA en F.crossbarref08_under [(.int .u64 n14), (.int .u64 x3), (.int .u64 x4)] (H2.bump 16) fun v23 H24 =>
 ∃ n25, v23 = (.int .u64 n25) ∧
 inB x2 i22 ∧
 asRow a21 fun i26 i27 =>
 stc H24 i26 (i27 + (x2.toNat * 1)) [(.int .u64 n25)] fun H28 =>
 (
 R (.tuple #[(.int .u64 n14), (.bool true)]) H28) ∧
 ((∃ a31 i32, (H2.bump 16).cell i19 ((i20 + ((IntKind.i64.wrap (x1 - 1)).toNat * 2)) + 1) = some (.slice a31 i32 0) ∧
 (a21 = a31 ∧ i22 = i32 ∧ 0 = 0)) ∧ (∃ a29 i30, H24.cell i19 ((i20 + ((IntKind.i64.wrap (x1 - 1)).toNat * 2)) + 1) = some (.slice a29 i30 0) ∧
 (a21 = a29 ∧ i22 = i30 ∧ 0 = 0)) ∧ True) ∧
 (((IntKind.i64.wrap (x1 - 1)) = (IntKind.i64.wrap (x1 - 1))) ∧ ((IntKind.i64.wrap (x1 - 1)) = (IntKind.i64.wrap (x1 - 1))) ∧ True) ∧
 ((∃ a35 i36, (H2.bump 16).cell i15 i16 = some (.slice a35 i36 0) ∧
 (a17 = a35 ∧ i18 = i36 ∧ 0 = 0)) ∧ (∃ a33 i34, H24.cell i15 i16 = some (.slice a33 i34 0) ∧
 (a17 = a33 ∧ i18 = i34 ∧ 0 = 0)) ∧ True) ∧
 True)) →
    CA en F.crossbarref08_Mem_Swap [(.pointer x0), (.int .i64 x1), (.int .i64 x2), (.int .u64 x3), (.int .u64 x4)] H R := by
  intro h
  refine wpFn_ok (Z := []) (fn := Go.Proofs.Try.f73) ?_ ?_ ?_
  · kernel_rfl
  · kernel_rfl
  · apply turnInto h
    kernel_rfl


/-! crossbarref08_Mem_Cas -/

theorem vc_crossbarref08_Mem_Cas (x0 : Option Addr) (x1 : Int) (x2 : Int) (x3 : Int) (x4 : Int) (x5 : Int) (H : Heap) (R : Value → Heap → Prop) :
    (
 CA en F.crossbarref08_Mem_good [(.pointer x0), (.int .i64 x1), (.int .i64 x2)] H fun v1 H2 =>
 ∃ b3, v1 = (.bool b3) ∧
 bif (!b3) then (
 R (.tuple #[(.int .u64 0), (.bool false)]) H2)
 else (
 AS.asAddr (.pointer x0) fun i4 i5 =>
 ∃ a6 i7, H2.cell i4 i5 = some (.slice a6 i7 0) ∧
 inB (IntKind.i64.wrap (x1 - 1)) i7 ∧
 asRow a6 fun i8 i9 =>
 ∃ a10 i11, H2.cell i8 ((i9 + ((IntKind.i64.wrap (x1 - 1)).toNat * 2)) + 1) = some (.slice a10 i11 0) ∧
 inB x2 i11 ∧
 asRow a10 fun i12 i13 =>
 ∃ n14, H2.cell i12 (i13 + (x2.toNat * 1)) = some (.int .u64 n14) ∧
 CA en F.crossbarref08_under [(.int .u64 0), (.int .u64 x3), (.int .u64 n14)] H2 fun v15 H16 =>
 ∃ n17, v15 = (.int .u64 n17) ∧
 CA en F.crossbarref08_under [(.int .u64 0), (.int .u64 x3), (.int .u64 x4)] H16 fun v18 H19 =>
 ∃ n20, v18 = (.int .u64 n20) ∧
 bif (n17 == n20) then (
 AS.asAddr (.pointer x0) fun i21 i22 =>
 ∃ a23 i24, (H19.bump 16).cell i21 i22 = some (.slice a23 i24 0) ∧
 inB (IntKind.i64.wrap (x1 - 1)) i24 ∧
 asRow a23 fun i25 i26 =>
 ∃ a27 i28, (H19.bump 16).cell i25 ((i26 + ((IntKind.i64.wrap (x1 - 1)).toNat * 2)) + 1) = some (.slice a27 i28 0) ∧
 CA en F.crossbarref08_under [(.int .u64 n14), (.int .u64 x3), (.int .u64 x5)] (H19.bump 16) fun v29 H30 =>
 ∃ n31, v29 = (.int .u64 n31) ∧
 inB x2 i28 ∧
 asRow a27 fun i32 i33 =>
 stc H30 i32 (i33 + (x2.toNat * 1)) [(.int .u64 n31)] fun H34 =>
 (
 R (.tuple #[(.int .u64 n14), (.bool true)]) H34) ∧
 ((∃ a37 i38, (H19.bump 16).cell i25 ((i26 + ((IntKind.i64.wrap (x1 - 1)).toNat * 2)) + 1) = some (.slice a37 i38 0) ∧
 (a27 = a37 ∧ i28 = i38 ∧ 0 = 0)) ∧ (∃ a35 i36, H30.cell i25 ((i26 + ((IntKind.i64.wrap (x1 - 1)).toNat * 2)) + 1) = some (.slice a35 i36 0) ∧
 (a27 = a35 ∧ i28 = i36 ∧ 0 = 0)) ∧ True) ∧
 (((IntKind.i64.wrap (x1 - 1)) = (IntKind.i64.wrap (x1 - 1))) ∧ ((IntKind.i64.wrap (x1 - 1)) = (IntKind.i64.wrap (x1 - 1))) ∧ True) ∧
 ((∃ a41 i42, (H19.bump 16).cell i21 i22 = some (.slice a41 i42 0) ∧
 (a23 = a41 ∧ i24 = i42 ∧ 0 = 0)) ∧ (∃ a39 i40, H30.cell i21 i22 = some (.slice a39 i40 0) ∧
 (a23 = a39 ∧ i24 = i40 ∧ 0 = 0)) ∧ True) ∧
 True)
 else (
 R (.tuple #[(.int .u64 n14), (.bool true)]) H19))) →
    CA en F.crossbarref08_Mem_Cas [(.pointer x0), (.int .i64 x1), (.int .i64 x2), (.int .u64 x3), (.int .u64 x4), (.int .u64 x5)] H R := by
  intro h
  refine wpFn_ok (Z := []) (fn := Go.Proofs.Try.f74) ?_ ?_ ?_
  · kernel_rfl
  · kernel_rfl
  · apply turnInto h
    kernel_rfl


/-! crossbarref08_Mem_live -/

theorem vc_crossbarref08_Mem_live (x0 : Option Addr) (x1 : Int) (H : Heap) (R : Value → Heap → Prop) :
    (
 bif (decide (x1 ≥ 1)) then (
 AS.asAddr (.pointer x0) fun i1 i2 =>
 ∃ a3 i4, H.cell i1 i2 = some (.slice a3 i4 0) ∧
 bif (decide (x1 ≤ ((i4 : Nat) : Int))) then (
 AS.asAddr (.pointer x0) fun i5 i6 =>
 ∃ a7 i8, H.cell i5 i6 = some (.slice a7 i8 0) ∧
 inB (IntKind.i64.wrap (x1 - 1)) i8 ∧
 asRow a7 fun i9 i10 =>
 ∃ b11, H.cell i9 (i10 + ((IntKind.i64.wrap (x1 - 1)).toNat * 2)) = some (.bool b11) ∧
 R (.bool b11) H)
 else (
 R (.bool false) H))
 else (
 R (.bool false) H)) →
    CA en F.crossbarref08_Mem_live [(.pointer x0), (.int .i64 x1)] H R := by
  intro h
  refine wpFn_ok (Z := []) (fn := Go.Proofs.Try.f75) ?_ ?_ ?_
  · kernel_rfl
  · kernel_rfl
  · apply turnInto h
    kernel_rfl


/-! crossbarref08_Mem_good -/

theorem vc_crossbarref08_Mem_good (x0 : Option Addr) (x1 : Int) (x2 : Int) (H : Heap) (R : Value → Heap → Prop) :
    (
 AS.asAddr (.pointer x0) fun i1 i2 =>
 ∃ n3, H.cell i1 (i2 + 2) = some (.int .i64 n3) ∧
 AS.asAddr (.pointer x0) fun i4 i5 =>
 stc H i4 (i5 + 2) [(.int .i64 (IntKind.i64.wrap (n3 + 1)))] fun H6 =>
 CA en F.crossbarref08_Mem_live [(.pointer x0), (.int .i64 x1)] H6 fun v7 H8 =>
 ∃ b9, v7 = (.bool b9) ∧
 bif b9 then (
 bif (decide (x2 ≥ 0)) then (
 AS.asAddr (.pointer x0) fun i10 i11 =>
 ∃ a12 i13, H8.cell i10 i11 = some (.slice a12 i13 0) ∧
 inB (IntKind.i64.wrap (x1 - 1)) i13 ∧
 asRow a12 fun i14 i15 =>
 ∃ a16 i17, H8.cell i14 ((i15 + ((IntKind.i64.wrap (x1 - 1)).toNat * 2)) + 1) = some (.slice a16 i17 0) ∧
 bif (decide (x2 < ((i17 : Nat) : Int))) then (
 R (.bool true) H8)
 else (
 AS.asAddr (.pointer x0) fun i18 i19 =>
 ∃ n20, H8.cell i18 (i19 + 3) = some (.int .i64 n20) ∧
 AS.asAddr (.pointer x0) fun i21 i22 =>
 stc H8 i21 (i22 + 3) [(.int .i64 (IntKind.i64.wrap (n20 + 1)))] fun H23 =>
 R (.bool false) H23))
 else (
 AS.asAddr (.pointer x0) fun i24 i25 =>
 ∃ n26, H8.cell i24 (i25 + 3) = some (.int .i64 n26) ∧
 AS.asAddr (.pointer x0) fun i27 i28 =>
 stc H8 i27 (i28 + 3) [(.int .i64 (IntKind.i64.wrap (n26 + 1)))] fun H29 =>
 R (.bool false) H29))
 else (
 AS.asAddr (.pointer x0) fun i30 i31 =>
 ∃ n32, H8.cell i30 (i31 + 3) = some (.int .i64 n32) ∧
 AS.asAddr (.pointer x0) fun i33 i34 =>
 stc H8 i33 (i34 + 3) [(.int .i64 (IntKind.i64.wrap (n32 + 1)))] fun H35 =>
 R (.bool false) H35)) →
    CA en F.crossbarref08_Mem_good [(.pointer x0), (.int .i64 x1), (.int .i64 x2)] H R := by
  intro h
  refine wpFn_ok (Z := []) (fn := Go.Proofs.Try.f82) ?_ ?_ ?_
  · kernel_rfl
  · kernel_rfl
  · apply turnInto h
    kernel_rfl


/-! crossbarref08_under -/
noncomputable def L_crossbarref08_under_0 : Code := loopAt Go.Proofs.Try.f83 0

theorem vc_crossbarref08_under (x0 : Int) (x1 : Int) (x2 : Int) (H : Heap) (R : Value → Heap → Prop) :
    (
 LA en L_crossbarref08_under_0 [(.int .u64 x0), (.int .u64 x1), (.int .u64 x2), undef, undef, undef, (.int .u64 0), (.int .u64 0), (.int .i64 0), undef, undef, undef, undef, undef, undef, undef, undef, undef, undef, undef, undef, undef, undef, undef, undef, undef, undef, undef, undef, undef, undef, undef, undef, undef, undef, undef, undef] H [(X.exit 0, fun (x1 : Fr) (H2 : Heap) =>
 AS.asInt .u64 (x1.getD 7 undef) fun n3 =>
 R (.int .u64 n3) H2)]) →
    CA en F.crossbarref08_under [(.int .u64 x0), (.int .u64 x1), (.int .u64 x2)] H R := by
  intro h
  refine wpFn_ok (Z := [[(7, (.int .u64 0))]]) (fn := Go.Proofs.Try.f83) ?_ ?_ ?_
  · kernel_rfl
  · kernel_rfl
  · apply turnInto h
    kernel_rfl

theorem use_crossbarref08_under_0 {t0 : Int} {t1 : Int} {t2 : Int} {K0 : Fr → Heap → Prop} {t7 : Int} {t8 : Int} {t9 : Value} {t10 : Value} {t11 : Value} {t12 : Value} {t13 : Value} {t14 : Value} {t15 : Value} {t16 : Value} {t17 : Value} {t18 : Value} {t19 : Value} {t20 : Value} {t21 : Value} {t22 : Value} {t23 : Value} {t24 : Value} {t25 : Value} {t26 : Value} {t27 : Value} {t28 : Value} {t29 : Value} {t30 : Value} {t31 : Value} {t32 : Value} {t33 : Value} {t34 : Value} {t35 : Value} {H : Heap} (I : Nat → Int → Int → Heap → Prop) (n : Nat) (h0 : I n t7 t8 H)
    (hstep : ∀ (n : Nat) (t7 : Int) (t8 : Int) (ys : Fr) (H : Heap), I n t7 t8 H →
    (
 bif (decide (t8 < 64)) then (
 nn (IntKind.u64.wrap t8) ∧
 nz 2 ∧
 nn (IntKind.u64.wrap t8) ∧
 nz 2 ∧
 bif ((Int.tmod (Int.fdiv t1 (2 ^ (min (IntKind.u64.wrap t8).toNat 64))) 2) == 1) then (
 nn (IntKind.u64.wrap t8) ∧
 nz 2 ∧
 nn (IntKind.u64.wrap t8) ∧
 ∃ k1, k1 < n ∧
 I k1 (IntKind.u64.wrap (t7 + (IntKind.u64.wrap ((Int.tmod (Int.fdiv t2 (2 ^ (min (IntKind.u64.wrap t8).toNat 64))) 2) * 2 ^ (min (IntKind.u64.wrap t8).toNat 64))))) (IntKind.i64.wrap (t8 + 1)) H)
 else (
 nn (IntKind.u64.wrap t8) ∧
 ∃ k2, k2 < n ∧
 I k2 (IntKind.u64.wrap (t7 + (IntKind.u64.wrap ((Int.tmod (Int.fdiv t0 (2 ^ (min (IntKind.u64.wrap t8).toNat 64))) 2) * 2 ^ (min (IntKind.u64.wrap t8).toNat 64))))) (IntKind.i64.wrap (t8 + 1)) H))
 else (
 K0 [(.int .u64 t0), (.int .u64 t1), (.int .u64 t2), undef, undef, undef, (.int .u64 0), (.int .u64 t7), (.int .i64 t8), (ys.getD 9 undef), (.int .i64 t8), (.bool false), (ys.getD 12 undef), (ys.getD 13 undef), (ys.getD 14 undef), (ys.getD 15 undef), (ys.getD 16 undef), (ys.getD 17 undef), (ys.getD 18 undef), (ys.getD 19 undef), (ys.getD 20 undef), (ys.getD 21 undef), (ys.getD 22 undef), (ys.getD 23 undef), (ys.getD 24 undef), (ys.getD 25 undef), (ys.getD 26 undef), (ys.getD 27 undef), (ys.getD 28 undef), (ys.getD 29 undef), (ys.getD 30 undef), (ys.getD 31 undef), (ys.getD 32 undef), (ys.getD 33 undef), (ys.getD 34 undef), (ys.getD 35 undef), undef] H))) :
    LA en L_crossbarref08_under_0 [(.int .u64 t0), (.int .u64 t1), (.int .u64 t2), undef, undef, undef, (.int .u64 0), (.int .u64 t7), (.int .i64 t8), t9, t10, t11, t12, t13, t14, t15, t16, t17, t18, t19, t20, t21, t22, t23, t24, t25, t26, t27, t28, t29, t30, t31, t32, t33, t34, t35, undef] H [(X.exit 0, K0)] := by
  refine LA_rule (Z := []) (fun m xs H' => AS.asInt .u64 (xs.getD 7 undef) fun t7 => AS.asInt .i64 (xs.getD 8 undef) fun t8 => I m t7 t8 H') ?_ n H ?_
  · intro n H
    suffices hs : ∀ s10 : Value, ∀ s11 : Value, ∀ s14 : Value, ∀ s15 : Value, ∀ s16 : Value, ∀ s17 : Value, ∀ s18 : Value, ∀ s9 : Value, ∀ s19 : Value, ∀ s20 : Value, ∀ s21 : Value, ∀ s22 : Value, ∀ s23 : Value, ∀ s24 : Value, ∀ s25 : Value, ∀ s26 : Value, ∀ s27 : Value, ∀ s28 : Value, ∀ s29 : Value, ∀ s30 : Value, ∀ s31 : Value, ∀ s32 : Value, ∀ s33 : Value, ∀ s34 : Value, ∀ s35 : Value, ∀ s7 : Value, ∀ s12 : Value, ∀ s13 : Value, ∀ s8 : Value, ((AS.asInt .u64 s7 fun t7 => AS.asInt .i64 s8 fun t8 => I n t7 t8 H) → wpCode en L_crossbarref08_under_0 [] [(.int .u64 t0), (.int .u64 t1), (.int .u64 t2), undef, undef, undef, (.int .u64 0), s7, s8, s9, s10, s11, s12, s13, s14, s15, s16, s17, s18, s19, s20, s21, s22, s23, s24, s25, s26, s27, s28, s29, s30, s31, s32, s33, s34, s35, undef] H (loopQ (fun m xs H' => AS.asInt .u64 (xs.getD 7 undef) fun t7 => AS.asInt .i64 (xs.getD 8 undef) fun t8 => I m t7 t8 H') n [(X.exit 0, K0)])) by
      apply turnInto hs
      kernel_rfl
    intro s10 s11 s14 s15 s16 s17 s18 s9 s19 s20 s21 s22 s23 s24 s25 s26 s27 s28 s29 s30 s31 s32 s33 s34 s35 s7 s12 s13 s8 hP
    replace hP := asInt_elim hP
    obtain ⟨t7, rfl, hP⟩ := hP
    replace hP := asInt_elim hP
    obtain ⟨t8, rfl, hP⟩ := hP
    apply turnInto (hstep n t7 t8 [(.int .u64 t0), (.int .u64 t1), (.int .u64 t2), undef, undef, undef, (.int .u64 0), (.int .u64 t7), (.int .i64 t8), s9, s10, s11, s12, s13, s14, s15, s16, s17, s18, s19, s20, s21, s22, s23, s24, s25, s26, s27, s28, s29, s30, s31, s32, s33, s34, s35, undef] H hP)
    kernel_rfl
  · apply turnInto h0
    kernel_rfl


/-! crossbarlaw08_does -/

theorem vc_crossbarlaw08_does (x0 : Option Addr) (x1_0 : Int) (x1_1 : Int) (x1_2 : Int) (x1_3 : Int) (x1_4 : Int) (x1_5 : Int) (x1_6 : Int) (H : Heap) (R : Value → Heap → Prop) :
    (
 nwH H (.cells true 0 [(.int .i64 x1_0), (.int .i64 x1_1), (.int .i64 x1_2), (.int .i64 x1_3), (.int .u64 x1_4), (.int .u64 x1_5), (.int .u64 x1_6)]) fun i1 H2 =>
 nwH H2 (.cells true 0 [(.int .u64 0), (.bool false), (.int .i64 0), (.int .i64 0)]) fun i3 H4 =>
 nwH H4 (.cells true 0 [(.int .u64 0), (.bool false), (.int .i64 0), (.int .i64 0)]) fun i5 H6 =>
 ∃ n7, H6.cell i1 0 = some (.int .i64 n7) ∧
 CA en F.crossbarkit_Pick [(.int .i64 n7), (.int .i64 8)] H6 fun v8 H9 =>
 ∃ n10, v8 = (.int .i64 n10) ∧
 bif (n10 == 0) then (
 ∃ n11, H9.cell i1 2 = some (.int .i64 n11) ∧
 CA en F.smem_Mem_Make [(.pointer x0), (.int .i64 n11)] H9 fun v12 H13 =>
 ∃ n14, ∃ n15, v12 = (.tuple #[(.int .i64 n14), (.int .i64 n15)]) ∧
 stc H13 i5 2 [(.int .i64 n14)] fun H16 =>
 stc H16 i5 3 [(.int .i64 n15)] fun H17 =>
 ∃ n18, ∃ b19, ∃ n20, ∃ n21, H17.cellsAt i5 0 4 = some [(.int .u64 n18), (.bool b19), (.int .i64 n20), (.int .i64 n21)] ∧
 stc H17 i3 0 [(.int .u64 n18), (.bool b19), (.int .i64 n20), (.int .i64 n21)] fun H22 =>
 ∃ n23, ∃ b24, ∃ n25, ∃ n26, H22.cellsAt i3 0 4 = some [(.int .u64 n23), (.bool b24), (.int .i64 n25), (.int .i64 n26)] ∧
 R (.agg #[(.int .u64 n23), (.bool b24), (.int .i64 n25), (.int .i64 n26)]) H22)
 else (
 bif (n10 == 1) then (
 ∃ n27, H9.cell i1 1 = some (.int .i64 n27) ∧
 CA en F.smem_Mem_Free [(.pointer x0), (.int .i64 n27)] H9 fun v28 H29 =>
 ∃ b30, v28 = (.bool b30) ∧
 stc H29 i5 1 [(.bool b30)] fun H31 =>
 ∃ n32, ∃ b33, ∃ n34, ∃ n35, H31.cellsAt i5 0 4 = some [(.int .u64 n32), (.bool b33), (.int .i64 n34), (.int .i64 n35)] ∧
 stc H31 i3 0 [(.int .u64 n32), (.bool b33), (.int .i64 n34), (.int .i64 n35)] fun H36 =>
 ∃ n37, ∃ b38, ∃ n39, ∃ n40, H36.cellsAt i3 0 4 = some [(.int .u64 n37), (.bool b38), (.int .i64 n39), (.int .i64 n40)] ∧
 R (.agg #[(.int .u64 n37), (.bool b38), (.int .i64 n39), (.int .i64 n40)]) H36)
 else (
 bif (n10 == 2) then (
 ∃ n41, H9.cell i1 1 = some (.int .i64 n41) ∧
 ∃ n42, H9.cell i1 2 = some (.int .i64 n42) ∧
 CA en F.smem_Mem_Load [(.pointer x0), (.int .i64 n41), (.int .i64 n42)] H9 fun v43 H44 =>
 ∃ n45, ∃ b46, v43 = (.tuple #[(.int .u64 n45), (.bool b46)]) ∧
 stc H44 i5 0 [(.int .u64 n45)] fun H47 =>
 stc H47 i5 1 [(.bool b46)] fun H48 =>
 ∃ n49, ∃ b50, ∃ n51, ∃ n52, H48.cellsAt i5 0 4 = some [(.int .u64 n49), (.bool b50), (.int .i64 n51), (.int .i64 n52)] ∧
 stc H48 i3 0 [(.int .u64 n49), (.bool b50), (.int .i64 n51), (.int .i64 n52)] fun H53 =>
 ∃ n54, ∃ b55, ∃ n56, ∃ n57, H53.cellsAt i3 0 4 = some [(.int .u64 n54), (.bool b55), (.int .i64 n56), (.int .i64 n57)] ∧
 R (.agg #[(.int .u64 n54), (.bool b55), (.int .i64 n56), (.int .i64 n57)]) H53)
 else (
 bif (n10 == 3) then (
 ∃ n58, H9.cell i1 1 = some (.int .i64 n58) ∧
 ∃ n59, H9.cell i1 2 = some (.int .i64 n59) ∧
 ∃ n60, H9.cell i1 6 = some (.int .u64 n60) ∧
 CA en F.smem_Mem_Store [(.pointer x0), (.int .i64 n58), (.int .i64 n59), (.int .u64 n60)] H9 fun v61 H62 =>
 ∃ b63, v61 = (.bool b63) ∧
 stc H62 i5 1 [(.bool b63)] fun H64 =>
 ∃ n65, ∃ b66, ∃ n67, ∃ n68, H64.cellsAt i5 0 4 = some [(.int .u64 n65), (.bool b66), (.int .i64 n67), (.int .i64 n68)] ∧
 stc H64 i3 0 [(.int .u64 n65), (.bool b66), (.int .i64 n67), (.int .i64 n68)] fun H69 =>
 ∃ n70, ∃ b71, ∃ n72, ∃ n73, H69.cellsAt i3 0 4 = some [(.int .u64 n70), (.bool b71), (.int .i64 n72), (.int .i64 n73)] ∧
 R (.agg #[(.int .u64 n70), (.bool b71), (.int .i64 n72), (.int .i64 n73)]) H69)
 else (
 bif (n10 == 4) then (
 ∃ n74, H9.cell i1 1 = some (.int .i64 n74) ∧
 ∃ n75, H9.cell i1 2 = some (.int .i64 n75) ∧
 ∃ n76, H9.cell i1 4 = some (.int .u64 n76) ∧
 ∃ n77, H9.cell i1 6 = some (.int .u64 n77) ∧
 CA en F.smem_Mem_Mask [(.pointer x0), (.int .i64 n74), (.int .i64 n75), (.int .u64 n76), (.int .u64 n77)] H9 fun v78 H79 =>
 ∃ b80, v78 = (.bool b80) ∧
 stc H79 i5 1 [(.bool b80)] fun H81 =>
 ∃ n82, ∃ b83, ∃ n84, ∃ n85, H81.cellsAt i5 0 4 = some [(.int .u64 n82), (.bool b83), (.int .i64 n84), (.int .i64 n85)] ∧
 stc H81 i3 0 [(.int .u64 n82), (.bool b83), (.int .i64 n84), (.int .i64 n85)] fun H86 =>
 ∃ n87, ∃ b88, ∃ n89, ∃ n90, H86.cellsAt i3 0 4 = some [(.int .u64 n87), (.bool b88), (.int .i64 n89), (.int .i64 n90)] ∧
 R (.agg #[(.int .u64 n87), (.bool b88), (.int .i64 n89), (.int .i64 n90)]) H86)
 else (
 bif (n10 == 5) then (
 ∃ n91, H9.cell i1 1 = some (.int .i64 n91) ∧
 ∃ n92, H9.cell i1 2 = some (.int .i64 n92) ∧
 ∃ n93, H9.cell i1 3 = some (.int .i64 n93) ∧
 ∃ n94, H9.cell i1 4 = some (.int .u64 n94) ∧
 ∃ n95, H9.cell i1 6 = some (.int .u64 n95) ∧
 CA en F.smem_Mem_Fetch [(.pointer x0), (.int .i64 n91), (.int .i64 n92), (.int .i64 n93), (.int .u64 n94), (.int .u64 n95)] H9 fun v96 H97 =>
 ∃ n98, ∃ b99, v96 = (.tuple #[(.int .u64 n98), (.bool b99)]) ∧
 stc H97 i5 0 [(.int .u64 n98)] fun H100 =>
 stc H100 i5 1 [(.bool b99)] fun H101 =>
 ∃ n102, ∃ b103, ∃ n104, ∃ n105, H101.cellsAt i5 0 4 = some [(.int .u64 n102), (.bool b103), (.int .i64 n104), (.int .i64 n105)] ∧
 stc H101 i3 0 [(.int .u64 n102), (.bool b103), (.int .i64 n104), (.int .i64 n105)] fun H106 =>
 ∃ n107, ∃ b108, ∃ n109, ∃ n110, H106.cellsAt i3 0 4 = some [(.int .u64 n107), (.bool b108), (.int .i64 n109), (.int .i64 n110)] ∧
 R (.agg #[(.int .u64 n107), (.bool b108), (.int .i64 n109), (.int .i64 n110)]) H106)
 else (
 bif (n10 == 6) then (
 ∃ n111, H9.cell i1 1 = some (.int .i64 n111) ∧
 ∃ n112, H9.cell i1 2 = some (.int .i64 n112) ∧
 ∃ n113, H9.cell i1 4 = some (.int .u64 n113) ∧
 ∃ n114, H9.cell i1 6 = some (.int .u64 n114) ∧
 CA en F.smem_Mem_Swap [(.pointer x0), (.int .i64 n111), (.int .i64 n112), (.int .u64 n113), (.int .u64 n114)] H9 fun v115 H116 =>
 ∃ n117, ∃ b118, v115 = (.tuple #[(.int .u64 n117), (.bool b118)]) ∧
 stc H116 i5 0 [(.int .u64 n117)] fun H119 =>
 stc H119 i5 1 [(.bool b118)] fun H120 =>
 ∃ n121, ∃ b122, ∃ n123, ∃ n124, H120.cellsAt i5 0 4 = some [(.int .u64 n121), (.bool b122), (.int .i64 n123), (.int .i64 n124)] ∧
 stc H120 i3 0 [(.int .u64 n121), (.bool b122), (.int .i64 n123), (.int .i64 n124)] fun H125 =>
 ∃ n126, ∃ b127, ∃ n128, ∃ n129, H125.cellsAt i3 0 4 = some [(.int .u64 n126), (.bool b127), (.int .i64 n128), (.int .i64 n129)] ∧
 R (.agg #[(.int .u64 n126), (.bool b127), (.int .i64 n128), (.int .i64 n129)]) H125)
 else (
 bif (n10 == 7) then (
 ∃ n130, H9.cell i1 1 = some (.int .i64 n130) ∧
 ∃ n131, H9.cell i1 2 = some (.int .i64 n131) ∧
 ∃ n132, H9.cell i1 4 = some (.int .u64 n132) ∧
 ∃ n133, H9.cell i1 5 = some (.int .u64 n133) ∧
 ∃ n134, H9.cell i1 6 = some (.int .u64 n134) ∧
 CA en F.smem_Mem_Cas [(.pointer x0), (.int .i64 n130), (.int .i64 n131), (.int .u64 n132), (.int .u64 n133), (.int .u64 n134)] H9 fun v135 H136 =>
 ∃ n137, ∃ b138, v135 = (.tuple #[(.int .u64 n137), (.bool b138)]) ∧
 stc H136 i5 0 [(.int .u64 n137)] fun H139 =>
 stc H139 i5 1 [(.bool b138)] fun H140 =>
 ∃ n141, ∃ b142, ∃ n143, ∃ n144, H140.cellsAt i5 0 4 = some [(.int .u64 n141), (.bool b142), (.int .i64 n143), (.int .i64 n144)] ∧
 stc H140 i3 0 [(.int .u64 n141), (.bool b142), (.int .i64 n143), (.int .i64 n144)] fun H145 =>
 ∃ n146, ∃ b147, ∃ n148, ∃ n149, H145.cellsAt i3 0 4 = some [(.int .u64 n146), (.bool b147), (.int .i64 n148), (.int .i64 n149)] ∧
 R (.agg #[(.int .u64 n146), (.bool b147), (.int .i64 n148), (.int .i64 n149)]) H145)
 else (
 ∃ n150, ∃ b151, ∃ n152, ∃ n153, H9.cellsAt i5 0 4 = some [(.int .u64 n150), (.bool b151), (.int .i64 n152), (.int .i64 n153)] ∧
 stc H9 i3 0 [(.int .u64 n150), (.bool b151), (.int .i64 n152), (.int .i64 n153)] fun H154 =>
 ∃ n155, ∃ b156, ∃ n157, ∃ n158, H154.cellsAt i3 0 4 = some [(.int .u64 n155), (.bool b156), (.int .i64 n157), (.int .i64 n158)] ∧
 R (.agg #[(.int .u64 n155), (.bool b156), (.int .i64 n157), (.int .i64 n158)]) H154))))))))) →
    CA en F.crossbarlaw08_does [(.pointer x0), (.agg #[(.int .i64 x1_0), (.int .i64 x1_1), (.int .i64 x1_2), (.int .i64 x1_3), (.int .u64 x1_4), (.int .u64 x1_5), (.int .u64 x1_6)])] H R := by
  intro h
  refine wpFn_ok (Z := []) (fn := Go.Proofs.Try.f40) ?_ ?_ ?_
  · kernel_rfl
  · kernel_rfl
  · apply turnInto h
    kernel_rfl


/-! crossbarlaw08_should -/

theorem vc_crossbarlaw08_should (x0 : Option Addr) (x1_0 : Int) (x1_1 : Int) (x1_2 : Int) (x1_3 : Int) (x1_4 : Int) (x1_5 : Int) (x1_6 : Int) (H : Heap) (R : Value → Heap → Prop) :
    (
 nwH H (.cells true 0 [(.int .i64 x1_0), (.int .i64 x1_1), (.int .i64 x1_2), (.int .i64 x1_3), (.int .u64 x1_4), (.int .u64 x1_5), (.int .u64 x1_6)]) fun i1 H2 =>
 nwH H2 (.cells true 0 [(.int .u64 0), (.bool false), (.int .i64 0), (.int .i64 0)]) fun i3 H4 =>
 nwH H4 (.cells true 0 [(.int .u64 0), (.bool false), (.int .i64 0), (.int .i64 0)]) fun i5 H6 =>
 ∃ n7, H6.cell i1 0 = some (.int .i64 n7) ∧
 CA en F.crossbarkit_Pick [(.int .i64 n7), (.int .i64 8)] H6 fun v8 H9 =>
 ∃ n10, v8 = (.int .i64 n10) ∧
 bif (n10 == 0) then (
 ∃ n11, H9.cell i1 2 = some (.int .i64 n11) ∧
 CA en F.crossbarref08_Mem_Make [(.pointer x0), (.int .i64 n11)] H9 fun v12 H13 =>
 ∃ n14, ∃ n15, v12 = (.tuple #[(.int .i64 n14), (.int .i64 n15)]) ∧
 stc H13 i5 2 [(.int .i64 n14)] fun H16 =>
 stc H16 i5 3 [(.int .i64 n15)] fun H17 =>
 ∃ n18, ∃ b19, ∃ n20, ∃ n21, H17.cellsAt i5 0 4 = some [(.int .u64 n18), (.bool b19), (.int .i64 n20), (.int .i64 n21)] ∧
 stc H17 i3 0 [(.int .u64 n18), (.bool b19), (.int .i64 n20), (.int .i64 n21)] fun H22 =>
 ∃ n23, ∃ b24, ∃ n25, ∃ n26, H22.cellsAt i3 0 4 = some [(.int .u64 n23), (.bool b24), (.int .i64 n25), (.int .i64 n26)] ∧
 R (.agg #[(.int .u64 n23), (.bool b24), (.int .i64 n25), (.int .i64 n26)]) H22)
 else (
 bif (n10 == 1) then (
 ∃ n27, H9.cell i1 1 = some (.int .i64 n27) ∧
 CA en F.crossbarref08_Mem_Free [(.pointer x0), (.int .i64 n27)] H9 fun v28 H29 =>
 ∃ b30, v28 = (.bool b30) ∧
 stc H29 i5 1 [(.bool b30)] fun H31 =>
 ∃ n32, ∃ b33, ∃ n34, ∃ n35, H31.cellsAt i5 0 4 = some [(.int .u64 n32), (.bool b33), (.int .i64 n34), (.int .i64 n35)] ∧
 stc H31 i3 0 [(.int .u64 n32), (.bool b33), (.int .i64 n34), (.int .i64 n35)] fun H36 =>
 ∃ n37, ∃ b38, ∃ n39, ∃ n40, H36.cellsAt i3 0 4 = some [(.int .u64 n37), (.bool b38), (.int .i64 n39), (.int .i64 n40)] ∧
 R (.agg #[(.int .u64 n37), (.bool b38), (.int .i64 n39), (.int .i64 n40)]) H36)
 else (
 bif (n10 == 2) then (
 ∃ n41, H9.cell i1 1 = some (.int .i64 n41) ∧
 ∃ n42, H9.cell i1 2 = some (.int .i64 n42) ∧
 CA en F.crossbarref08_Mem_Load [(.pointer x0), (.int .i64 n41), (.int .i64 n42)] H9 fun v43 H44 =>
 ∃ n45, ∃ b46, v43 = (.tuple #[(.int .u64 n45), (.bool b46)]) ∧
 stc H44 i5 0 [(.int .u64 n45)] fun H47 =>
 stc H47 i5 1 [(.bool b46)] fun H48 =>
 ∃ n49, ∃ b50, ∃ n51, ∃ n52, H48.cellsAt i5 0 4 = some [(.int .u64 n49), (.bool b50), (.int .i64 n51), (.int .i64 n52)] ∧
 stc H48 i3 0 [(.int .u64 n49), (.bool b50), (.int .i64 n51), (.int .i64 n52)] fun H53 =>
 ∃ n54, ∃ b55, ∃ n56, ∃ n57, H53.cellsAt i3 0 4 = some [(.int .u64 n54), (.bool b55), (.int .i64 n56), (.int .i64 n57)] ∧
 R (.agg #[(.int .u64 n54), (.bool b55), (.int .i64 n56), (.int .i64 n57)]) H53)
 else (
 bif (n10 == 3) then (
 ∃ n58, H9.cell i1 1 = some (.int .i64 n58) ∧
 ∃ n59, H9.cell i1 2 = some (.int .i64 n59) ∧
 ∃ n60, H9.cell i1 6 = some (.int .u64 n60) ∧
 CA en F.crossbarref08_Mem_Store [(.pointer x0), (.int .i64 n58), (.int .i64 n59), (.int .u64 n60)] H9 fun v61 H62 =>
 ∃ b63, v61 = (.bool b63) ∧
 stc H62 i5 1 [(.bool b63)] fun H64 =>
 ∃ n65, ∃ b66, ∃ n67, ∃ n68, H64.cellsAt i5 0 4 = some [(.int .u64 n65), (.bool b66), (.int .i64 n67), (.int .i64 n68)] ∧
 stc H64 i3 0 [(.int .u64 n65), (.bool b66), (.int .i64 n67), (.int .i64 n68)] fun H69 =>
 ∃ n70, ∃ b71, ∃ n72, ∃ n73, H69.cellsAt i3 0 4 = some [(.int .u64 n70), (.bool b71), (.int .i64 n72), (.int .i64 n73)] ∧
 R (.agg #[(.int .u64 n70), (.bool b71), (.int .i64 n72), (.int .i64 n73)]) H69)
 else (
 bif (n10 == 4) then (
 ∃ n74, H9.cell i1 1 = some (.int .i64 n74) ∧
 ∃ n75, H9.cell i1 2 = some (.int .i64 n75) ∧
 ∃ n76, H9.cell i1 4 = some (.int .u64 n76) ∧
 ∃ n77, H9.cell i1 6 = some (.int .u64 n77) ∧
 CA en F.crossbarref08_Mem_Mask [(.pointer x0), (.int .i64 n74), (.int .i64 n75), (.int .u64 n76), (.int .u64 n77)] H9 fun v78 H79 =>
 ∃ b80, v78 = (.bool b80) ∧
 stc H79 i5 1 [(.bool b80)] fun H81 =>
 ∃ n82, ∃ b83, ∃ n84, ∃ n85, H81.cellsAt i5 0 4 = some [(.int .u64 n82), (.bool b83), (.int .i64 n84), (.int .i64 n85)] ∧
 stc H81 i3 0 [(.int .u64 n82), (.bool b83), (.int .i64 n84), (.int .i64 n85)] fun H86 =>
 ∃ n87, ∃ b88, ∃ n89, ∃ n90, H86.cellsAt i3 0 4 = some [(.int .u64 n87), (.bool b88), (.int .i64 n89), (.int .i64 n90)] ∧
 R (.agg #[(.int .u64 n87), (.bool b88), (.int .i64 n89), (.int .i64 n90)]) H86)
 else (
 bif (n10 == 5) then (
 ∃ n91, H9.cell i1 1 = some (.int .i64 n91) ∧
 ∃ n92, H9.cell i1 2 = some (.int .i64 n92) ∧
 ∃ n93, H9.cell i1 3 = some (.int .i64 n93) ∧
 ∃ n94, H9.cell i1 4 = some (.int .u64 n94) ∧
 ∃ n95, H9.cell i1 6 = some (.int .u64 n95) ∧
 CA en F.crossbarref08_Mem_Fetch [(.pointer x0), (.int .i64 n91), (.int .i64 n92), (.int .i64 n93), (.int .u64 n94), (.int .u64 n95)] H9 fun v96 H97 =>
 ∃ n98, ∃ b99, v96 = (.tuple #[(.int .u64 n98), (.bool b99)]) ∧
 stc H97 i5 0 [(.int .u64 n98)] fun H100 =>
 stc H100 i5 1 [(.bool b99)] fun H101 =>
 ∃ n102, ∃ b103, ∃ n104, ∃ n105, H101.cellsAt i5 0 4 = some [(.int .u64 n102), (.bool b103), (.int .i64 n104), (.int .i64 n105)] ∧
 stc H101 i3 0 [(.int .u64 n102), (.bool b103), (.int .i64 n104), (.int .i64 n105)] fun H106 =>
 ∃ n107, ∃ b108, ∃ n109, ∃ n110, H106.cellsAt i3 0 4 = some [(.int .u64 n107), (.bool b108), (.int .i64 n109), (.int .i64 n110)] ∧
 R (.agg #[(.int .u64 n107), (.bool b108), (.int .i64 n109), (.int .i64 n110)]) H106)
 else (
 bif (n10 == 6) then (
 ∃ n111, H9.cell i1 1 = some (.int .i64 n111) ∧
 ∃ n112, H9.cell i1 2 = some (.int .i64 n112) ∧
 ∃ n113, H9.cell i1 4 = some (.int .u64 n113) ∧
 ∃ n114, H9.cell i1 6 = some (.int .u64 n114) ∧
 CA en F.crossbarref08_Mem_Swap [(.pointer x0), (.int .i64 n111), (.int .i64 n112), (.int .u64 n113), (.int .u64 n114)] H9 fun v115 H116 =>
 ∃ n117, ∃ b118, v115 = (.tuple #[(.int .u64 n117), (.bool b118)]) ∧
 stc H116 i5 0 [(.int .u64 n117)] fun H119 =>
 stc H119 i5 1 [(.bool b118)] fun H120 =>
 ∃ n121, ∃ b122, ∃ n123, ∃ n124, H120.cellsAt i5 0 4 = some [(.int .u64 n121), (.bool b122), (.int .i64 n123), (.int .i64 n124)] ∧
 stc H120 i3 0 [(.int .u64 n121), (.bool b122), (.int .i64 n123), (.int .i64 n124)] fun H125 =>
 ∃ n126, ∃ b127, ∃ n128, ∃ n129, H125.cellsAt i3 0 4 = some [(.int .u64 n126), (.bool b127), (.int .i64 n128), (.int .i64 n129)] ∧
 R (.agg #[(.int .u64 n126), (.bool b127), (.int .i64 n128), (.int .i64 n129)]) H125)
 else (
 bif (n10 == 7) then (
 ∃ n130, H9.cell i1 1 = some (.int .i64 n130) ∧
 ∃ n131, H9.cell i1 2 = some (.int .i64 n131) ∧
 ∃ n132, H9.cell i1 4 = some (.int .u64 n132) ∧
 ∃ n133, H9.cell i1 5 = some (.int .u64 n133) ∧
 ∃ n134, H9.cell i1 6 = some (.int .u64 n134) ∧
 CA en F.crossbarref08_Mem_Cas [(.pointer x0), (.int .i64 n130), (.int .i64 n131), (.int .u64 n132), (.int .u64 n133), (.int .u64 n134)] H9 fun v135 H136 =>
 ∃ n137, ∃ b138, v135 = (.tuple #[(.int .u64 n137), (.bool b138)]) ∧
 stc H136 i5 0 [(.int .u64 n137)] fun H139 =>
 stc H139 i5 1 [(.bool b138)] fun H140 =>
 ∃ n141, ∃ b142, ∃ n143, ∃ n144, H140.cellsAt i5 0 4 = some [(.int .u64 n141), (.bool b142), (.int .i64 n143), (.int .i64 n144)] ∧
 stc H140 i3 0 [(.int .u64 n141), (.bool b142), (.int .i64 n143), (.int .i64 n144)] fun H145 =>
 ∃ n146, ∃ b147, ∃ n148, ∃ n149, H145.cellsAt i3 0 4 = some [(.int .u64 n146), (.bool b147), (.int .i64 n148), (.int .i64 n149)] ∧
 R (.agg #[(.int .u64 n146), (.bool b147), (.int .i64 n148), (.int .i64 n149)]) H145)
 else (
 ∃ n150, ∃ b151, ∃ n152, ∃ n153, H9.cellsAt i5 0 4 = some [(.int .u64 n150), (.bool b151), (.int .i64 n152), (.int .i64 n153)] ∧
 stc H9 i3 0 [(.int .u64 n150), (.bool b151), (.int .i64 n152), (.int .i64 n153)] fun H154 =>
 ∃ n155, ∃ b156, ∃ n157, ∃ n158, H154.cellsAt i3 0 4 = some [(.int .u64 n155), (.bool b156), (.int .i64 n157), (.int .i64 n158)] ∧
 R (.agg #[(.int .u64 n155), (.bool b156), (.int .i64 n157), (.int .i64 n158)]) H154))))))))) →
    CA en F.crossbarlaw08_should [(.pointer x0), (.agg #[(.int .i64 x1_0), (.int .i64 x1_1), (.int .i64 x1_2), (.int .i64 x1_3), (.int .u64 x1_4), (.int .u64 x1_5), (.int .u64 x1_6)])] H R := by
  intro h
  refine wpFn_ok (Z := []) (fn := Go.Proofs.Try.f46) ?_ ?_ ?_
  · kernel_rfl
  · kernel_rfl
  · apply turnInto h
    kernel_rfl


/-! crossbarlaw08_words -/
noncomputable def L_crossbarlaw08_words_0 : Code := loopAt Go.Proofs.Try.f41 0
noncomputable def L_crossbarlaw08_words_1 : Code := loopAt Go.Proofs.Try.f41 1

theorem vc_crossbarlaw08_words (x0 : Option Addr) (x1 : Int) (H : Heap) (R : Value → Heap → Prop) :
    (
 LA en L_crossbarlaw08_words_0 [(.pointer x0), (.int .i64 x1), undef, undef, (.slice none 0 0), (.slice none 0 0), (.int .i64 1), undef, undef, undef, undef, undef, undef, undef, undef, undef, undef, undef, undef, undef, undef, undef, undef, undef, undef, undef, undef, undef, undef, undef, undef, undef, undef, undef, undef, undef, undef, undef, undef, undef, undef, undef, undef] H [(X.exit 0, fun (x1 : Fr) (H2 : Heap) =>
 asSl (x1.getD 5 undef) fun a3 i4 =>
 R (.slice a3 i4 0) H2)]) →
    CA en F.crossbarlaw08_words [(.pointer x0), (.int .i64 x1)] H R := by
  intro h
  refine wpFn_ok (Z := [[(5, (.slice none 0 0))], [(7, (.slice none 0 0))]]) (fn := Go.Proofs.Try.f41) ?_ ?_ ?_
  · kernel_rfl
  · kernel_rfl
  · apply turnInto h
    kernel_rfl

theorem use_crossbarlaw08_words_0 {t0 : Option Addr} {t1 : Int} {K0 : Fr → Heap → Prop} {t5 : Option Addr} {t5l : Nat} {t6 : Int} {t7 : Value} {t8 : Value} {t9 : Value} {t10 : Value} {t11 : Value} {t12 : Value} {t13 : Value} {t14 : Value} {t15 : Value} {t16 : Value} {t17 : Value} {t18 : Value} {t19 : Value} {t20 : Value} {t21 : Value} {t22 : Value} {t23 : Value} {t24 : Value} {t25 : Value} {t26 : Value} {t27 : Value} {t28 : Value} {t29 : Value} {t30 : Value} {t31 : Value} {t32 : Value} {t33 : Value} {t34 : Value} {t35 : Value} {t36 : Value} {t37 : Value} {t38 : Value} {t39 : Value} {t40 : Value} {t41 : Value} {H : Heap} (I : Nat → Option Addr → Nat → Int → Heap → Prop) (n : Nat) (h0 : I n t5 t5l t6 H)
    (hstep : ∀ (n : Nat) (t5 : Option Addr) (t5l : Nat) (t6 : Int) (ys : Fr) (H : Heap), I n t5 t5l t6 H →
    (
 bif (decide (t6 ≤ t1)) then (
 LA en L_crossbarlaw08_words_1 [(.pointer t0), (.int .i64 t1), undef, undef, (.slice none 0 0), (.slice t5 t5l 0), (.int .i64 t6), (.slice none 0 0), (.int .i64 0), (ys.getD 9 undef), (ys.getD 10 undef), (.int .i64 t6), (.int .i64 t1), (.bool true), (ys.getD 14 undef), (ys.getD 15 undef), (ys.getD 16 undef), (ys.getD 17 undef), (ys.getD 18 undef), (ys.getD 19 undef), (ys.getD 20 undef), (ys.getD 21 undef), (ys.getD 22 undef), (ys.getD 23 undef), (ys.getD 24 undef), (ys.getD 25 undef), (ys.getD 26 undef), (ys.getD 27 undef), (ys.getD 28 undef), (ys.getD 29 undef), (ys.getD 30 undef), (ys.getD 31 undef), (ys.getD 32 undef), (ys.getD 33 undef), (ys.getD 34 undef), (ys.getD 35 undef), (ys.getD 36 undef), (ys.getD 37 undef), (ys.getD 38 undef), (ys.getD 39 undef), (ys.getD 40 undef), (ys.getD 41 undef), undef] H [(X.exit 2, fun (x1 : Fr) (H2 : Heap) =>
 asSl (x1.getD 7 undef) fun a3 i4 =>
 nwH H2 (.cells true 1 [(.slice a3 i4 0)]) fun i5 H6 =>
 ∃ l7, rowOf H6 1 (some ⟨i5, 0, none⟩) 1 = some l7 ∧
 apd H6 24 1 t5 t5l 1 l7 fun a8 i9 H10 =>
 ∃ k11, k11 < n ∧
 I k11 a8 i9 (IntKind.i64.wrap (t6 + 1)) H10)])
 else (
 K0 [(.pointer t0), (.int .i64 t1), undef, undef, (.slice none 0 0), (.slice t5 t5l 0), (.int .i64 t6), (ys.getD 7 undef), (ys.getD 8 undef), (ys.getD 9 undef), (ys.getD 10 undef), (.int .i64 t6), (.int .i64 t1), (.bool false), (ys.getD 14 undef), (ys.getD 15 undef), (ys.getD 16 undef), (ys.getD 17 undef), (ys.getD 18 undef), (ys.getD 19 undef), (ys.getD 20 undef), (ys.getD 21 undef), (ys.getD 22 undef), (ys.getD 23 undef), (ys.getD 24 undef), (ys.getD 25 undef), (ys.getD 26 undef), (ys.getD 27 undef), (ys.getD 28 undef), (ys.getD 29 undef), (ys.getD 30 undef), (ys.getD 31 undef), (ys.getD 32 undef), (ys.getD 33 undef), (ys.getD 34 undef), (ys.getD 35 undef), (ys.getD 36 undef), (ys.getD 37 undef), (ys.getD 38 undef), (ys.getD 39 undef), (ys.getD 40 undef), (ys.getD 41 undef), undef] H))) :
    LA en L_crossbarlaw08_words_0 [(.pointer t0), (.int .i64 t1), undef, undef, (.slice none 0 0), (.slice t5 t5l 0), (.int .i64 t6), t7, t8, t9, t10, t11, t12, t13, t14, t15, t16, t17, t18, t19, t20, t21, t22, t23, t24, t25, t26, t27, t28, t29, t30, t31, t32, t33, t34, t35, t36, t37, t38, t39, t40, t41, undef] H [(X.exit 0, K0)] := by
  refine LA_rule (Z := [[(7, (.slice none 0 0))]]) (fun m xs H' => asSl (xs.getD 5 undef) fun t5 t5l => AS.asInt .i64 (xs.getD 6 undef) fun t6 => I m t5 t5l t6 H') ?_ n H ?_
  · intro n H
    suffices hs : ∀ s11 : Value, ∀ s12 : Value, ∀ s13 : Value, ∀ s7 : Value, ∀ s8 : Value, ∀ s16 : Value, ∀ s17 : Value, ∀ s18 : Value, ∀ s19 : Value, ∀ s20 : Value, ∀ s21 : Value, ∀ s22 : Value, ∀ s23 : Value, ∀ s24 : Value, ∀ s28 : Value, ∀ s29 : Value, ∀ s30 : Value, ∀ s31 : Value, ∀ s27 : Value, ∀ s32 : Value, ∀ s33 : Value, ∀ s9 : Value, ∀ s10 : Value, ∀ s34 : Value, ∀ s35 : Value, ∀ s36 : Value, ∀ s37 : Value, ∀ s25 : Value, ∀ s26 : Value, ∀ s38 : Value, ∀ s39 : Value, ∀ s40 : Value, ∀ s41 : Value, ∀ s5 : Value, ∀ s14 : Value, ∀ s15 : Value, ∀ s6 : Value, ((asSl s5 fun t5 t5l => AS.asInt .i64 s6 fun t6 => I n t5 t5l t6 H) → wpCode en L_crossbarlaw08_words_0 [[(7, (.slice none 0 0))]] [(.pointer t0), (.int .i64 t1), undef, undef, (.slice none 0 0), s5, s6, s7, s8, s9, s10, s11, s12, s13, s14, s15, s16, s17, s18, s19, s20, s21, s22, s23, s24, s25, s26, s27, s28, s29, s30, s31, s32, s33, s34, s35, s36, s37, s38, s39, s40, s41, undef] H (loopQ (fun m xs H' => asSl (xs.getD 5 undef) fun t5 t5l => AS.asInt .i64 (xs.getD 6 undef) fun t6 => I m t5 t5l t6 H') n [(X.exit 0, K0)])) by
      apply turnInto hs
      kernel_rfl
    intro s11 s12 s13 s7 s8 s16 s17 s18 s19 s20 s21 s22 s23 s24 s28 s29 s30 s31 s27 s32 s33 s9 s10 s34 s35 s36 s37 s25 s26 s38 s39 s40 s41 s5 s14 s15 s6 hP
    replace hP := asSl_elim hP
    obtain ⟨t5, t5l, rfl, hP⟩ := hP
    replace hP := asInt_elim hP
    obtain ⟨t6, rfl, hP⟩ := hP
    apply turnInto (hstep n t5 t5l t6 [(.pointer t0), (.int .i64 t1), undef, undef, (.slice none 0 0), (.slice t5 t5l 0), (.int .i64 t6), s7, s8, s9, s10, s11, s12, s13, s14, s15, s16, s17, s18, s19, s20, s21, s22, s23, s24, s25, s26, s27, s28, s29, s30, s31, s32, s33, s34, s35, s36, s37, s38, s39, s40, s41, undef] H hP)
    kernel_rfl
  · apply turnInto h0
    kernel_rfl

theorem use_crossbarlaw08_words_1 {t0 : Option Addr} {t1 : Int} {t5 : Option Addr} {t5l : Nat} {t6 : Int} {t11 : Int} {t12 : Int} {t14 : Value} {t15 : Value} {t38 : Value} {t39 : Value} {t40 : Value} {t41 : Value} {K0 : Fr → Heap → Prop} {t7 : Option Addr} {t7l : Nat} {t8 : Int} {t9 : Value} {t10 : Value} {t16 : Value} {t17 : Value} {t18 : Value} {t19 : Value} {t20 : Value} {t21 : Value} {t22 : Value} {t23 : Value} {t24 : Value} {t25 : Value} {t26 : Value} {t27 : Value} {t28 : Value} {t29 : Value} {t30 : Value} {t31 : Value} {t32 : Value} {t33 : Value} {t34 : Value} {t35 : Value} {t36 : Value} {t37 : Value} {H : Heap} (I : Nat → Option Addr → Nat → Int → Heap → Prop) (n : Nat) (h0 : I n t7 t7l t8 H)
    (hstep : ∀ (n : Nat) (t7 : Option Addr) (t7l : Nat) (t8 : Int) (ys : Fr) (H : Heap), I n t7 t7l t8 H →
    (
 CA en F.smem_Mem_Size [(.pointer t0), (.int .i64 t6)] H fun v1 H2 =>
 ∃ n3, v1 = (.int .i64 n3) ∧
 bif (decide (t8 < n3)) then (
 bif (decide (t8 < 4096)) then (
 CA en F.smem_Mem_Load [(.pointer t0), (.int .i64 t6), (.int .i64 t8)] H2 fun v4 H5 =>
 ∃ n6, ∃ b7, v4 = (.tuple #[(.int .u64 n6), (.bool b7)]) ∧
 nwH H5 (.cells true 1 [(.int .u64 n6)]) fun i8 H9 =>
 ∃ l10, rowOf H9 1 (some ⟨i8, 0, none⟩) 1 = some l10 ∧
 apd H9 8 1 t7 t7l 1 l10 fun a11 i12 H13 =>
 ∃ k14, k14 < n ∧
 I k14 a11 i12 (IntKind.i64.wrap (t8 + 1)) H13)
 else (
 K0 [(.pointer t0), (.int .i64 t1), undef, undef, (.slice none 0 0), (.slice t5 t5l 0), (.int .i64 t6), (.slice t7 t7l 0), (.int .i64 t8), (ys.getD 9 undef), (ys.getD 10 undef), (.int .i64 t11), (.int .i64 t12), (.bool true), t14, t15, (.int .i64 t8), (.pointer t0), (.int .i64 t6), (.int .i64 n3), (.bool (decide (t8 < n3))), (.bool true), (.int .i64 t8), (.bool (decide (t8 < 4096))), (.bool false), (ys.getD 25 undef), (ys.getD 26 undef), (ys.getD 27 undef), (ys.getD 28 undef), (ys.getD 29 undef), (ys.getD 30 undef), (ys.getD 31 undef), (ys.getD 32 undef), (ys.getD 33 undef), (ys.getD 34 undef), (ys.getD 35 undef), (ys.getD 36 undef), (ys.getD 37 undef), t38, t39, t40, t41, undef] H2))
 else (
 K0 [(.pointer t0), (.int .i64 t1), undef, undef, (.slice none 0 0), (.slice t5 t5l 0), (.int .i64 t6), (.slice t7 t7l 0), (.int .i64 t8), (ys.getD 9 undef), (ys.getD 10 undef), (.int .i64 t11), (.int .i64 t12), (.bool true), t14, t15, (.int .i64 t8), (.pointer t0), (.int .i64 t6), (.int .i64 n3), (.bool (decide (t8 < n3))), (.bool false), undef, undef, (.bool false), (ys.getD 25 undef), (ys.getD 26 undef), (ys.getD 27 undef), (ys.getD 28 undef), (ys.getD 29 undef), (ys.getD 30 undef), (ys.getD 31 undef), (ys.getD 32 undef), (ys.getD 33 undef), (ys.getD 34 undef), (ys.getD 35 undef), (ys.getD 36 undef), (ys.getD 37 undef), t38, t39, t40, t41, undef] H2))) :
    LA en L_crossbarlaw08_words_1 [(.pointer t0), (.int .i64 t1), undef, undef, (.slice none 0 0), (.slice t5 t5l 0), (.int .i64 t6), (.slice t7 t7l 0), (.int .i64 t8), t9, t10, (.int .i64 t11), (.int .i64 t12), (.bool true), t14, t15, t16, t17, t18, t19, t20, t21, t22, t23, t24, t25, t26, t27, t28, t29, t30, t31, t32, t33, t34, t35, t36, t37, t38, t39, t40, t41, undef] H [(X.exit 2, K0)] := by
  refine LA_rule (Z := []) (fun m xs H' => asSl (xs.getD 7 undef) fun t7 t7l => AS.asInt .i64 (xs.getD 8 undef) fun t8 => I m t7 t7l t8 H') ?_ n H ?_
  · intro n H
    suffices hs : ∀ s16 : Value, ∀ s17 : Value, ∀ s18 : Value, ∀ s19 : Value, ∀ s20 : Value, ∀ s21 : Value, ∀ s22 : Value, ∀ s23 : Value, ∀ s24 : Value, ∀ s28 : Value, ∀ s29 : Value, ∀ s30 : Value, ∀ s31 : Value, ∀ s27 : Value, ∀ s32 : Value, ∀ s33 : Value, ∀ s9 : Value, ∀ s10 : Value, ∀ s34 : Value, ∀ s35 : Value, ∀ s36 : Value, ∀ s37 : Value, ∀ s7 : Value, ∀ s25 : Value, ∀ s26 : Value, ∀ s8 : Value, ((asSl s7 fun t7 t7l => AS.asInt .i64 s8 fun t8 => I n t7 t7l t8 H) → wpCode en L_crossbarlaw08_words_1 [] [(.pointer t0), (.int .i64 t1), undef, undef, (.slice none 0 0), (.slice t5 t5l 0), (.int .i64 t6), s7, s8, s9, s10, (.int .i64 t11), (.int .i64 t12), (.bool true), t14, t15, s16, s17, s18, s19, s20, s21, s22, s23, s24, s25, s26, s27, s28, s29, s30, s31, s32, s33, s34, s35, s36, s37, t38, t39, t40, t41, undef] H (loopQ (fun m xs H' => asSl (xs.getD 7 undef) fun t7 t7l => AS.asInt .i64 (xs.getD 8 undef) fun t8 => I m t7 t7l t8 H') n [(X.exit 2, K0)])) by
      apply turnInto hs
      kernel_rfl
    intro s16 s17 s18 s19 s20 s21 s22 s23 s24 s28 s29 s30 s31 s27 s32 s33 s9 s10 s34 s35 s36 s37 s7 s25 s26 s8 hP
    replace hP := asSl_elim hP
    obtain ⟨t7, t7l, rfl, hP⟩ := hP
    replace hP := asInt_elim hP
    obtain ⟨t8, rfl, hP⟩ := hP
    apply turnInto (hstep n t7 t7l t8 [(.pointer t0), (.int .i64 t1), undef, undef, (.slice none 0 0), (.slice t5 t5l 0), (.int .i64 t6), (.slice t7 t7l 0), (.int .i64 t8), s9, s10, (.int .i64 t11), (.int .i64 t12), (.bool true), t14, t15, s16, s17, s18, s19, s20, s21, s22, s23, s24, s25, s26, s27, s28, s29, s30, s31, s32, s33, s34, s35, s36, s37, t38, t39, t40, t41, undef] H hP)
    kernel_rfl
  · apply turnInto h0
    kernel_rfl


/-! crossbarlaw08_SmemLaws -/

/-! crossbarlaw08_SmemApart -/
noncomputable def L_crossbarlaw08_SmemApart_0 : Code := loopAt Go.Proofs.Try.f8 0
noncomputable def L_crossbarlaw08_SmemApart_1 : Code := loopAt Go.Proofs.Try.f8 1
noncomputable def L_crossbarlaw08_SmemApart_2 : Code := loopAt Go.Proofs.Try.f8 2

theorem vc_crossbarlaw08_SmemApart (x0 : Option Addr) (x0l : Nat) (x1_0 : Int) (x1_1 : Int) (x1_2 : Int) (x1_3 : Int) (x1_4 : Int) (x1_5 : Int) (x1_6 : Int) (H : Heap) (R : Value → Heap → Prop) :
    (
 nwH H (.cells true 0 [(.int .i64 x1_0), (.int .i64 x1_1), (.int .i64 x1_2), (.int .i64 x1_3), (.int .u64 x1_4), (.int .u64 x1_5), (.int .u64 x1_6)]) fun i1 H2 =>
 CA en F.smem_New [(.int .i64 4096)] H2 fun v3 H4 =>
 ∃ a5, v3 = (.pointer a5) ∧
 bif a5.isNone then (
 bif (!a5.isNone) then (
 CA en F.crossbarlaw08_known [] H4 fun v6 H7 =>
 ∃ b8, v6 = (.bool b8) ∧
 R (.bool b8) H7)
 else (
 R (.bool false) H4))
 else (
 bif (decide (((x0l : Nat) : Int) > 60)) then (
 bif (!a5.isNone) then (
 CA en F.crossbarlaw08_known [] H4 fun v9 H10 =>
 ∃ b11, v9 = (.bool b11) ∧
 R (.bool b11) H10)
 else (
 R (.bool false) H4))
 else (
 LA en L_crossbarlaw08_SmemApart_0 [(.slice x0 x0l 0), (.agg #[(.int .i64 x1_0), (.int .i64 x1_1), (.int .i64 x1_2), (.int .i64 x1_3), (.int .u64 x1_4), (.int .u64 x1_5), (.int .u64 x1_6)]), undef, (.pointer (some ⟨i1, 0, none⟩)), (.bool false), (.pointer a5), (.int .i64 0), (.int .i64 0), undef, undef, undef, undef, undef, undef, undef, undef, undef, undef, undef, undef, (.pointer a5), (.pointer a5), (.bool a5.isNone), (.bool false), (.slice x0 x0l 0), (.int .i64 ((x0l : Nat) : Int)), (.bool (decide (((x0l : Nat) : Int) > 60))), (.bool false), undef, undef, undef, undef, undef, undef, undef, undef, undef, undef, undef, undef, undef, undef, undef, undef, undef, undef, undef, undef, undef, undef, undef, undef, undef, undef, undef, undef, undef, undef, undef, undef, undef, undef, undef, undef, undef, undef, undef, undef, undef, undef, undef, undef, undef, undef, undef, undef, undef, undef, undef, undef, undef, undef, undef, undef, undef, undef, undef, undef, undef, undef, undef, undef, undef, undef, undef, undef, undef, undef, undef, undef, undef, undef, undef, undef, undef, undef, undef, undef, undef, undef, undef, undef, undef, undef, undef, undef, undef, undef, undef, undef, undef, undef, undef, undef, undef, undef, undef, undef, undef, undef, undef, undef, undef, undef, undef, undef, undef, undef, undef, undef, undef, undef, undef, undef, undef, undef, undef, undef, undef, undef, undef, undef, undef, undef, undef, undef, undef, undef, undef, undef, undef, undef, undef, undef, undef, undef, undef, undef, undef, undef, undef, undef, undef, undef, undef, undef, undef, undef, undef, undef, undef, undef, undef, undef, undef, undef, undef, undef, undef, undef, undef, undef, undef, undef, undef, undef, undef, undef, undef, undef, undef, undef, undef, undef, undef, undef, undef, undef, undef, undef, undef, undef, undef, undef] H4 [(X.exit 0, fun (x12 : Fr) (H13 : Heap) =>
 AS.asBool (x12.getD 4 undef) fun b14 =>
 AS.asInt .i64 (x12.getD 6 undef) fun n15 =>
 ∃ n16, H13.cell i1 0 = some (.int .i64 n16) ∧
 CA en F.crossbarkit_Pick [(.int .i64 n16), (.int .i64 8)] H13 fun v17 H18 =>
 ∃ n19, v17 = (.int .i64 n19) ∧
 ∃ J20 : List Value → Heap → Prop, (
 bif (n19 == 0) then (
 ∃ n21, H18.cell i1 2 = some (.int .i64 n21) ∧
 CA en F.crossbarkit_Pick [(.int .i64 n21), (.int .i64 41)] H18 fun v22 H23 =>
 ∃ n24, v22 = (.int .i64 n24) ∧
 stc H23 i1 2 [(.int .i64 n24)] fun H25 =>
 J20 [] H25)
 else (
 J20 [] H18)) ∧
 ∀ (ys26 : Fr) (H27 : Heap), J20 [] H27 →
 CA en F.crossbarlaw08_words [(.pointer a5), (.int .i64 n15)] H27 fun v28 H29 =>
 ∃ a30 i31, v28 = (.slice a30 i31 0) ∧
 ∃ n32, ∃ n33, ∃ n34, ∃ n35, ∃ n36, ∃ n37, ∃ n38, H29.cellsAt i1 0 7 = some [(.int .i64 n32), (.int .i64 n33), (.int .i64 n34), (.int .i64 n35), (.int .u64 n36), (.int .u64 n37), (.int .u64 n38)] ∧
 CA en F.crossbarlaw08_does [(.pointer a5), (.agg #[(.int .i64 n32), (.int .i64 n33), (.int .i64 n34), (.int .i64 n35), (.int .u64 n36), (.int .u64 n37), (.int .u64 n38)])] H29 fun v39 H40 =>
 ∃ n41, ∃ b42, ∃ n43, ∃ n44, v39 = (.agg #[(.int .u64 n41), (.bool b42), (.int .i64 n43), (.int .i64 n44)]) ∧
 nwH H40 (.cells true 0 [(.int .u64 0), (.bool false), (.int .i64 0), (.int .i64 0)]) fun i45 H46 =>
 stc H46 i45 0 [(.int .u64 n41), (.bool b42), (.int .i64 n43), (.int .i64 n44)] fun H47 =>
 CA en F.crossbarlaw08_words [(.pointer a5), (.int .i64 (IntKind.i64.wrap (n15 + 1)))] H47 fun v48 H49 =>
 ∃ a50 i51, v48 = (.slice a50 i51 0) ∧
 ∃ J52 : List Value → Heap → Prop, (
 bif (n19 == 0) then (
 ∃ n53, (H49.bump 25).cell i45 3 = some (.int .i64 n53) ∧
 bif (n53 == 0) then (
 ∃ n54, (H49.bump 25).cell i45 2 = some (.int .i64 n54) ∧
 bif (n54 != (IntKind.i64.wrap (n15 + 1))) then (
 (
 R (.bool false) (H49.bump 25)) ∧
 True)
 else (
 inB n15 i51 ∧
 asRow a50 fun i55 i56 =>
 ∃ a57 i58, (H49.bump 25).cell i55 (i56 + (n15.toNat * 1)) = some (.slice a57 i58 0) ∧
 ∃ n59, (H49.bump 25).cell i1 2 = some (.int .i64 n59) ∧
 okLen 8 n59 n59 ∧
 nwH (H49.bump 25) (.cells true 1 (reps n59.toNat [(.int .u64 0)])) fun i60 H61 =>
 CA en F.crossbarkit_SameWords [(.slice a57 i58 0), (.slice (some ⟨i60, 0, none⟩) n59.toNat 0)] H61 fun v62 H63 =>
 ∃ b64, v62 = (.bool b64) ∧
 (
 bif (!b64) then (
 R (.bool false) H63)
 else (
 J52 [(.bool b14)] H63)) ∧
 ((∃ a67 i68, (H49.bump 25).cell i55 (i56 + (n15.toNat * 1)) = some (.slice a67 i68 0) ∧
 (a57 = a67 ∧ i58 = i68 ∧ 0 = 0)) ∧ (∃ a65 i66, H61.cell i55 (i56 + (n15.toNat * 1)) = some (.slice a65 i66 0) ∧
 (a57 = a65 ∧ i58 = i66 ∧ 0 = 0)) ∧ True) ∧
 True))
 else (
 (
 J52 [(.bool b14)] (H49.bump 25)) ∧
 True))
 else (
 (
 J52 [(.bool b14)] (H49.bump 25)) ∧
 True)) ∧
 ∀ (ys69 : Fr) (H70 : Heap), ∀ b71, J52 [(.bool b71)] H70 →
 LA en L_crossbarlaw08_SmemApart_1 [(.slice x0 x0l 0), (.agg #[(.int .i64 x1_0), (.int .i64 x1_1), (.int .i64 x1_2), (.int .i64 x1_3), (.int .u64 x1_4), (.int .u64 x1_5), (.int .u64 x1_6)]), undef, (.pointer (some ⟨i1, 0, none⟩)), (.bool b71), (.pointer a5), (.int .i64 n15), (x12.getD 7 undef), (x12.getD 8 undef), (x12.getD 9 undef), (.int .i64 n19), (.slice a30 i31 0), (.pointer (some ⟨i45, 0, none⟩)), (.slice a50 i51 0), (.int .i64 1), undef, undef, undef, undef, undef, (.pointer a5), (.pointer a5), (.bool a5.isNone), (.bool false), (.slice x0 x0l 0), (.int .i64 ((x0l : Nat) : Int)), (.bool (decide (((x0l : Nat) : Int) > 60))), (.bool false), undef, undef, undef, undef, undef, (x12.getD 33 undef), (x12.getD 34 undef), (x12.getD 35 undef), (x12.getD 36 undef), (x12.getD 37 undef), (x12.getD 38 undef), (x12.getD 39 undef), (x12.getD 40 undef), (x12.getD 41 undef), (x12.getD 42 undef), (x12.getD 43 undef), (x12.getD 44 undef), (x12.getD 45 undef), (x12.getD 46 undef), (x12.getD 47 undef), (x12.getD 48 undef), (x12.getD 49 undef), (x12.getD 50 undef), (x12.getD 51 undef), (x12.getD 52 undef), (x12.getD 53 undef), (x12.getD 54 undef), (x12.getD 55 undef), (x12.getD 56 undef), (x12.getD 57 undef), (x12.getD 58 undef), (x12.getD 59 undef), (x12.getD 60 undef), (x12.getD 61 undef), (x12.getD 62 undef), (x12.getD 63 undef), (.pointer (some ⟨i1, 0, none⟩)), (.int .i64 n16), (.int .i64 n19), (ys26.getD 67 undef), (ys26.getD 68 undef), (ys26.getD 69 undef), (ys26.getD 70 undef), (ys26.getD 71 undef), (ys26.getD 72 undef), (.pointer a5), (.int .i64 n15), (.slice a30 i31 0), (.pointer a5), (.agg #[(.int .i64 n32), (.int .i64 n33), (.int .i64 n34), (.int .i64 n35), (.int .u64 n36), (.int .u64 n37), (.int .u64 n38)]), (.agg #[(.int .u64 n41), (.bool b42), (.int .i64 n43), (.int .i64 n44)]), (.pointer a5), (.int .i64 n15), (.int .i64 (IntKind.i64.wrap (n15 + 1))), (.slice a50 i51 0), (ys69.getD 83 undef), (ys69.getD 84 undef), (ys69.getD 85 undef), (ys69.getD 86 undef), (ys69.getD 87 undef), (ys69.getD 88 undef), (ys69.getD 89 undef), (ys69.getD 90 undef), (ys69.getD 91 undef), (ys69.getD 92 undef), (ys69.getD 93 undef), (ys69.getD 94 undef), (ys69.getD 95 undef), (ys69.getD 96 undef), (ys69.getD 97 undef), (ys69.getD 98 undef), (ys69.getD 99 undef), (ys69.getD 100 undef), (ys69.getD 101 undef), (ys69.getD 102 undef), (ys69.getD 103 undef), (ys69.getD 104 undef), (ys69.getD 105 undef), (ys69.getD 106 undef), (ys69.getD 107 undef), undef, undef, undef, undef, undef, undef, undef, undef, undef, undef, undef, undef, undef, undef, undef, undef, undef, undef, undef, undef, undef, undef, undef, undef, undef, undef, undef, undef, undef, undef, undef, undef, undef, undef, undef, undef, undef, undef, undef, undef, undef, undef, undef, undef, undef, undef, undef, undef, undef, undef, undef, undef, undef, undef, undef, undef, undef, undef, undef, undef, undef, undef, undef, undef, undef, undef, undef, undef, undef, undef, undef, undef, undef, undef, undef, undef, undef, undef, undef, undef, undef, undef, undef, undef, undef, undef, undef, undef, undef, undef, undef, undef, undef, undef, undef, undef, undef, undef, undef, undef, undef, undef, undef, undef, undef, undef] H70 [(X.exit 2, fun (x72 : Fr) (H73 : Heap) =>
 AS.asBool (x72.getD 4 undef) fun b74 =>
 CA en F.crossbarlaw08_known [] H73 fun v75 H76 =>
 ∃ b77, v75 = (.bool b77) ∧
 R (.bool b77) H76),
 (X.ret, fun (x78 : Fr) (H79 : Heap) =>
 AS.asBool (x78.getD 4 undef) fun b80 =>
 R (.bool b80) H79),
 (X.ret, fun (x81 : Fr) (H82 : Heap) =>
 AS.asBool (x81.getD 4 undef) fun b83 =>
 R (.bool b83) H82)]),
 (X.ret, fun (x84 : Fr) (H85 : Heap) =>
 AS.asBool (x84.getD 4 undef) fun b86 =>
 AS.asInt .i64 (x84.getD 6 undef) fun n87 =>
 R (.bool b86) H85)]))) →
    CA en F.crossbarlaw08_SmemApart [(.slice x0 x0l 0), (.agg #[(.int .i64 x1_0), (.int .i64 x1_1), (.int .i64 x1_2), (.int .i64 x1_3), (.int .u64 x1_4), (.int .u64 x1_5), (.int .u64 x1_6)])] H R := by
  intro h
  refine wpFnC_ok (C := [none, none, none, none, none, none, none, none, none, some [], none, none, none, none, some [(4, (.bool false))], none, none, none, none, none]) (Z := [[(4, (.bool false)), (6, (.int .i64 0))], [(4, (.bool false))], [(4, (.bool false))]]) (fn := Go.Proofs.Try.f8) ?_ ?_ ?_
  · kernel_rfl
  · kernel_rfl
  · apply turnInto h
    kernel_rfl

theorem use_crossbarlaw08_SmemApart_0 {t0 : Option Addr} {t0l : Nat} {t1_0 : Int} {t1_1 : Int} {t1_2 : Int} {t1_3 : Int} {t1_4 : Int} {t1_5 : Int} {t1_6 : Int} {t3 : Nat} {t5 : Option Addr} {t20 : Option Addr} {t21 : Option Addr} {t22 : Bool} {t24 : Option Addr} {t24l : Nat} {t25 : Int} {t26 : Bool} {K0 : Fr → Heap → Prop} {K1 : Fr → Heap → Prop} {t4 : Bool} {t6 : Int} {t7 : Int} {t8 : Value} {t9 : Value} {t33 : Value} {t34 : Value} {t35 : Value} {t36 : Value} {t37 : Value} {t38 : Value} {t39 : Value} {t40 : Value} {t41 : Value} {t42 : Value} {t43 : Value} {t44 : Value} {t45 : Value} {t46 : Value} {t47 : Value} {t48 : Value} {t49 : Value} {t50 : Value} {t51 : Value} {t52 : Value} {t53 : Value} {t54 : Value} {t55 : Value} {t56 : Value} {t57 : Value} {t58 : Value} {t59 : Value} {t60 : Value} {t61 : Value} {t62 : Value} {t63 : Value} {H : Heap} (I : Nat → Bool → Int → Int → Heap → Prop) (n : Nat) (h0 : I n t4 t6 t7 H)
    (hstep : ∀ (n : Nat) (t4 : Bool) (t6 : Int) (t7 : Int) (ys : Fr) (H : Heap), I n t4 t6 t7 H →
    (
 bif (decide (t7 < ((t0l : Nat) : Int))) then (
 inB t7 t0l ∧
 asRow t0 fun i1 i2 =>
 ∃ n3, ∃ n4, ∃ n5, ∃ n6, ∃ n7, ∃ n8, ∃ n9, H.cellsAt i1 (i2 + (t7.toNat * 7)) 7 = some [(.int .i64 n3), (.int .i64 n4), (.int .i64 n5), (.int .i64 n6), (.int .u64 n7), (.int .u64 n8), (.int .u64 n9)] ∧
 nwH H (.cells true 0 [(.int .i64 0), (.int .i64 0), (.int .i64 0), (.int .i64 0), (.int .u64 0), (.int .u64 0), (.int .u64 0)]) fun i10 H11 =>
 stc H11 i10 0 [(.int .i64 n3), (.int .i64 n4), (.int .i64 n5), (.int .i64 n6), (.int .u64 n7), (.int .u64 n8), (.int .u64 n9)] fun H12 =>
 ∃ J13 : List Value → Heap → Prop, (
 ∃ n14, H12.cell i10 0 = some (.int .i64 n14) ∧
 CA en F.crossbarkit_Pick [(.int .i64 n14), (.int .i64 8)] H12 fun v15 H16 =>
 ∃ n17, v15 = (.int .i64 n17) ∧
 bif (n17 == 0) then (
 ∃ n18, H16.cell i10 2 = some (.int .i64 n18) ∧
 CA en F.crossbarkit_Pick [(.int .i64 n18), (.int .i64 41)] H16 fun v19 H20 =>
 ∃ n21, v19 = (.int .i64 n21) ∧
 stc H20 i10 2 [(.int .i64 n21)] fun H22 =>
 J13 [] H22)
 else (
 J13 [] H16)) ∧
 ∀ (ys23 : Fr) (H24 : Heap), J13 [] H24 →
 ∃ n25, ∃ n26, ∃ n27, ∃ n28, ∃ n29, ∃ n30, ∃ n31, H24.cellsAt i10 0 7 = some [(.int .i64 n25), (.int .i64 n26), (.int .i64 n27), (.int .i64 n28), (.int .u64 n29), (.int .u64 n30), (.int .u64 n31)] ∧
 CA en F.crossbarlaw08_does [(.pointer t5), (.agg #[(.int .i64 n25), (.int .i64 n26), (.int .i64 n27), (.int .i64 n28), (.int .u64 n29), (.int .u64 n30), (.int .u64 n31)])] H24 fun v32 H33 =>
 ∃ n34, ∃ b35, ∃ n36, ∃ n37, v32 = (.agg #[(.int .u64 n34), (.bool b35), (.int .i64 n36), (.int .i64 n37)]) ∧
 nwH H33 (.cells true 0 [(.int .u64 0), (.bool false), (.int .i64 0), (.int .i64 0)]) fun i38 H39 =>
 stc H39 i38 0 [(.int .u64 n34), (.bool b35), (.int .i64 n36), (.int .i64 n37)] fun H40 =>
 ∃ n41, H40.cell i38 2 = some (.int .i64 n41) ∧
 bif (decide (n41 > 0)) then (
 ∃ n42, H40.cell i38 2 = some (.int .i64 n42) ∧
 bif (n42 != (IntKind.i64.wrap (t6 + 1))) then (
 K1 [(.slice t0 t0l 0), (.agg #[(.int .i64 t1_0), (.int .i64 t1_1), (.int .i64 t1_2), (.int .i64 t1_3), (.int .u64 t1_4), (.int .u64 t1_5), (.int .u64 t1_6)]), undef, (.pointer (some ⟨t3, 0, none⟩)), (.bool false), (.pointer t5), (.int .i64 t6), (.int .i64 t7), (.pointer (some ⟨i10, 0, none⟩)), (.pointer (some ⟨i38, 0, none⟩)), undef, undef, undef, undef, undef, undef, undef, undef, undef, undef, (.pointer t20), (.pointer t21), (.bool t22), (.bool false), (.slice t24 t24l 0), (.int .i64 t25), (.bool t26), (.bool false), undef, undef, undef, undef, undef, (.int .i64 t7), (.slice t0 t0l 0), (.int .i64 ((t0l : Nat) : Int)), (.bool true), (ys.getD 37 undef), (ys.getD 38 undef), (.slice t0 t0l 0), (.int .i64 t7), (.pointer (some ⟨i1, (i2 + (t7.toNat * 7)), none⟩)), (.agg #[(.int .i64 n3), (.int .i64 n4), (.int .i64 n5), (.int .i64 n6), (.int .u64 n7), (.int .u64 n8), (.int .u64 n9)]), (ys23.getD 43 undef), (ys23.getD 44 undef), (ys23.getD 45 undef), (ys23.getD 46 undef), (ys23.getD 47 undef), (ys23.getD 48 undef), (ys23.getD 49 undef), (ys23.getD 50 undef), (.pointer t5), (.agg #[(.int .i64 n25), (.int .i64 n26), (.int .i64 n27), (.int .i64 n28), (.int .u64 n29), (.int .u64 n30), (.int .u64 n31)]), (.agg #[(.int .u64 n34), (.bool b35), (.int .i64 n36), (.int .i64 n37)]), (.pointer (some ⟨i38, 2, none⟩)), (.int .i64 n41), (.bool true), (.pointer (some ⟨i38, 2, none⟩)), (.int .i64 n42), (.int .i64 t6), (.int .i64 (IntKind.i64.wrap (t6 + 1))), (.bool true), (ys.getD 62 undef), (ys.getD 63 undef), undef, undef, undef, undef, undef, undef, undef, undef, undef, undef, undef, undef, undef, undef, undef, undef, undef, undef, undef, undef, undef, undef, undef, undef, undef, undef, undef, undef, undef, undef, undef, undef, undef, undef, undef, undef, undef, undef, undef, undef, undef, undef, undef, undef, undef, undef, undef, undef, undef, undef, undef, undef, undef, undef, undef, undef, undef, undef, undef, undef, undef, undef, undef, undef, undef, undef, undef, undef, undef, undef, undef, undef, undef, undef, undef, undef, undef, undef, undef, undef, undef, undef, undef, undef, undef, undef, undef, undef, undef, undef, undef, undef, undef, undef, undef, undef, undef, undef, undef, undef, undef, undef, undef, undef, undef, undef, undef, undef, undef, undef, undef, undef, undef, undef, undef, undef, undef, undef, undef, undef, undef, undef, undef, undef, undef, undef, undef, undef, undef, undef, undef, undef, undef, undef, undef, undef, undef, undef, undef, undef, undef, undef, undef, undef, undef, undef, undef, undef, undef, undef] H40)
 else (
 ∃ n43, H40.cell i38 2 = some (.int .i64 n43) ∧
 ∃ k44, k44 < n ∧
 I k44 t4 n43 (IntKind.i64.wrap (t7 + 1)) H40))
 else (
 ∃ k45, k45 < n ∧
 I k45 t4 t6 (IntKind.i64.wrap (t7 + 1)) H40))
 else (
 K0 [(.slice t0 t0l 0), (.agg #[(.int .i64 t1_0), (.int .i64 t1_1), (.int .i64 t1_2), (.int .i64 t1_3), (.int .u64 t1_4), (.int .u64 t1_5), (.int .u64 t1_6)]), undef, (.pointer (some ⟨t3, 0, none⟩)), (.bool t4), (.pointer t5), (.int .i64 t6), (.int .i64 t7), (ys.getD 8 undef), (ys.getD 9 undef), undef, undef, undef, undef, undef, undef, undef, undef, undef, undef, (.pointer t20), (.pointer t21), (.bool t22), (.bool false), (.slice t24 t24l 0), (.int .i64 t25), (.bool t26), (.bool false), undef, undef, undef, undef, undef, (.int .i64 t7), (.slice t0 t0l 0), (.int .i64 ((t0l : Nat) : Int)), (.bool false), (ys.getD 37 undef), (ys.getD 38 undef), (ys.getD 39 undef), (ys.getD 40 undef), (ys.getD 41 undef), (ys.getD 42 undef), (ys.getD 43 undef), (ys.getD 44 undef), (ys.getD 45 undef), (ys.getD 46 undef), (ys.getD 47 undef), (ys.getD 48 undef), (ys.getD 49 undef), (ys.getD 50 undef), (ys.getD 51 undef), (ys.getD 52 undef), (ys.getD 53 undef), (ys.getD 54 undef), (ys.getD 55 undef), (ys.getD 56 undef), (ys.getD 57 undef), (ys.getD 58 undef), (ys.getD 59 undef), (ys.getD 60 undef), (ys.getD 61 undef), (ys.getD 62 undef), (ys.getD 63 undef), undef, undef, undef, undef, undef, undef, undef, undef, undef, undef, undef, undef, undef, undef, undef, undef, undef, undef, undef, undef, undef, undef, undef, undef, undef, undef, undef, undef, undef, undef, undef, undef, undef, undef, undef, undef, undef, undef, undef, undef, undef, undef, undef, undef, undef, undef, undef, undef, undef, undef, undef, undef, undef, undef, undef, undef, undef, undef, undef, undef, undef, undef, undef, undef, undef, undef, undef, undef, undef, undef, undef, undef, undef, undef, undef, undef, undef, undef, undef, undef, undef, undef, undef, undef, undef, undef, undef, undef, undef, undef, undef, undef, undef, undef, undef, undef, undef, undef, undef, undef, undef, undef, undef, undef, undef, undef, undef, undef, undef, undef, undef, undef, undef, undef, undef, undef, undef, undef, undef, undef, undef, undef, undef, undef, undef, undef, undef, undef, undef, undef, undef, undef, undef, undef, undef, undef, undef, undef, undef, undef, undef, undef, undef, undef, undef, undef, undef, undef, undef, undef] H))) :
    LA en L_crossbarlaw08_SmemApart_0 [(.slice t0 t0l 0), (.agg #[(.int .i64 t1_0), (.int .i64 t1_1), (.int .i64 t1_2), (.int .i64 t1_3), (.int .u64 t1_4), (.int .u64 t1_5), (.int .u64 t1_6)]), undef, (.pointer (some ⟨t3, 0, none⟩)), (.bool t4), (.pointer t5), (.int .i64 t6), (.int .i64 t7), t8, t9, undef, undef, undef, undef, undef, undef, undef, undef, undef, undef, (.pointer t20), (.pointer t21), (.bool t22), (.bool false), (.slice t24 t24l 0), (.int .i64 t25), (.bool t26), (.bool false), undef, undef, undef, undef, undef, t33, t34, t35, t36, t37, t38, t39, t40, t41, t42, t43, t44, t45, t46, t47, t48, t49, t50, t51, t52, t53, t54, t55, t56, t57, t58, t59, t60, t61, t62, t63, undef, undef, undef, undef, undef, undef, undef, undef, undef, undef, undef, undef, undef, undef, undef, undef, undef, undef, undef, undef, undef, undef, undef, undef, undef, undef, undef, undef, undef, undef, undef, undef, undef, undef, undef, undef, undef, undef, undef, undef, undef, undef, undef, undef, undef, undef, undef, undef, undef, undef, undef, undef, undef, undef, undef, undef, undef, undef, undef, undef, undef, undef, undef, undef, undef, undef, undef, undef, undef, undef, undef, undef, undef, undef, undef, undef, undef, undef, undef, undef, undef, undef, undef, undef, undef, undef, undef, undef, undef, undef, undef, undef, undef, undef, undef, undef, undef, undef, undef, undef, undef, undef, undef, undef, undef, undef, undef, undef, undef, undef, undef, undef, undef, undef, undef, undef, undef, undef, undef, undef, undef, undef, undef, undef, undef, undef, undef, undef, undef, undef, undef, undef, undef, undef, undef, undef, undef, undef, undef, undef, undef, undef, undef, undef, undef, undef, undef, undef, undef, undef] H [(X.exit 0, K0), (X.ret, K1)] := by
  refine LA_ruleC (C := [none, none, none, none, some [], none, none, none, none, none, none]) (Z := []) (fun m xs H' => AS.asBool (xs.getD 4 undef) fun t4 => AS.asInt .i64 (xs.getD 6 undef) fun t6 => AS.asInt .i64 (xs.getD 7 undef) fun t7 => I m t4 t6 t7 H') ?_ n H ?_
  · intro n H
    suffices hs : ∀ s33 : Value, ∀ s34 : Value, ∀ s35 : Value, ∀ s36 : Value, ∀ s39 : Value, ∀ s40 : Value, ∀ s41 : Value, ∀ s42 : Value, ∀ s8 : Value, ∀ s43 : Value, ∀ s44 : Value, ∀ s45 : Value, ∀ s46 : Value, ∀ s47 : Value, ∀ s48 : Value, ∀ s49 : Value, ∀ s50 : Value, ∀ s51 : Value, ∀ s52 : Value, ∀ s53 : Value, ∀ s9 : Value, ∀ s54 : Value, ∀ s55 : Value, ∀ s56 : Value, ∀ s57 : Value, ∀ s58 : Value, ∀ s59 : Value, ∀ s60 : Value, ∀ s61 : Value, ∀ s4 : Value, ∀ s62 : Value, ∀ s63 : Value, ∀ s6 : Value, ∀ s37 : Value, ∀ s38 : Value, ∀ s7 : Value, ((AS.asBool s4 fun t4 => AS.asInt .i64 s6 fun t6 => AS.asInt .i64 s7 fun t7 => I n t4 t6 t7 H) → wpCodeC en L_crossbarlaw08_SmemApart_0 [none, none, none, none, some [], none, none, none, none, none, none] [] [(.slice t0 t0l 0), (.agg #[(.int .i64 t1_0), (.int .i64 t1_1), (.int .i64 t1_2), (.int .i64 t1_3), (.int .u64 t1_4), (.int .u64 t1_5), (.int .u64 t1_6)]), undef, (.pointer (some ⟨t3, 0, none⟩)), s4, (.pointer t5), s6, s7, s8, s9, undef, undef, undef, undef, undef, undef, undef, undef, undef, undef, (.pointer t20), (.pointer t21), (.bool t22), (.bool false), (.slice t24 t24l 0), (.int .i64 t25), (.bool t26), (.bool false), undef, undef, undef, undef, undef, s33, s34, s35, s36, s37, s38, s39, s40, s41, s42, s43, s44, s45, s46, s47, s48, s49, s50, s51, s52, s53, s54, s55, s56, s57, s58, s59, s60, s61, s62, s63, undef, undef, undef, undef, undef, undef, undef, undef, undef, undef, undef, undef, undef, undef, undef, undef, undef, undef, undef, undef, undef, undef, undef, undef, undef, undef, undef, undef, undef, undef, undef, undef, undef, undef, undef, undef, undef, undef, undef, undef, undef, undef, undef, undef, undef, undef, undef, undef, undef, undef, undef, undef, undef, undef, undef, undef, undef, undef, undef, undef, undef, undef, undef, undef, undef, undef, undef, undef, undef, undef, undef, undef, undef, undef, undef, undef, undef, undef, undef, undef, undef, undef, undef, undef, undef, undef, undef, undef, undef, undef, undef, undef, undef, undef, undef, undef, undef, undef, undef, undef, undef, undef, undef, undef, undef, undef, undef, undef, undef, undef, undef, undef, undef, undef, undef, undef, undef, undef, undef, undef, undef, undef, undef, undef, undef, undef, undef, undef, undef, undef, undef, undef, undef, undef, undef, undef, undef, undef, undef, undef, undef, undef, undef, undef, undef, undef, undef, undef, undef, undef] H (loopQ (fun m xs H' => AS.asBool (xs.getD 4 undef) fun t4 => AS.asInt .i64 (xs.getD 6 undef) fun t6 => AS.asInt .i64 (xs.getD 7 undef) fun t7 => I m t4 t6 t7 H') n [(X.exit 0, K0), (X.ret, K1)])) by
      apply turnInto hs
      kernel_rfl
    intro s33 s34 s35 s36 s39 s40 s41 s42 s8 s43 s44 s45 s46 s47 s48 s49 s50 s51 s52 s53 s9 s54 s55 s56 s57 s58 s59 s60 s61 s4 s62 s63 s6 s37 s38 s7 hP
    replace hP := asBool_elim hP
    obtain ⟨t4, rfl, hP⟩ := hP
    replace hP := asInt_elim hP
    obtain ⟨t6, rfl, hP⟩ := hP
    replace hP := asInt_elim hP
    obtain ⟨t7, rfl, hP⟩ := hP
    apply turnInto (hstep n t4 t6 t7 [(.slice t0 t0l 0), (.agg #[(.int .i64 t1_0), (.int .i64 t1_1), (.int .i64 t1_2), (.int .i64 t1_3), (.int .u64 t1_4), (.int .u64 t1_5), (.int .u64 t1_6)]), undef, (.pointer (some ⟨t3, 0, none⟩)), (.bool t4), (.pointer t5), (.int .i64 t6), (.int .i64 t7), s8, s9, undef, undef, undef, undef, undef, undef, undef, undef, undef, undef, (.pointer t20), (.pointer t21), (.bool t22), (.bool false), (.slice t24 t24l 0), (.int .i64 t25), (.bool t26), (.bool false), undef, undef, undef, undef, undef, s33, s34, s35, s36, s37, s38, s39, s40, s41, s42, s43, s44, s45, s46, s47, s48, s49, s50, s51, s52, s53, s54, s55, s56, s57, s58, s59, s60, s61, s62, s63, undef, undef, undef, undef, undef, undef, undef, undef, undef, undef, undef, undef, undef, undef, undef, undef, undef, undef, undef, undef, undef, undef, undef, undef, undef, undef, undef, undef, undef, undef, undef, undef, undef, undef, undef, undef, undef, undef, undef, undef, undef, undef, undef, undef, undef, undef, undef, undef, undef, undef, undef, undef, undef, undef, undef, undef, undef, undef, undef, undef, undef, undef, undef, undef, undef, undef, undef, undef, undef, undef, undef, undef, undef, undef, undef, undef, undef, undef, undef, undef, undef, undef, undef, undef, undef, undef, undef, undef, undef, undef, undef, undef, undef, undef, undef, undef, undef, undef, undef, undef, undef, undef, undef, undef, undef, undef, undef, undef, undef, undef, undef, undef, undef, undef, undef, undef, undef, undef, undef, undef, undef, undef, undef, undef, undef, undef, undef, undef, undef, undef, undef, undef, undef, undef, undef, undef, undef, undef, undef, undef, undef, undef, undef, undef, undef, undef, undef, undef, undef, undef] H hP)
    kernel_rfl
  · apply turnInto h0
    kernel_rfl

theorem use_crossbarlaw08_SmemApart_1 {t0 : Option Addr} {t0l : Nat} {t1_0 : Int} {t1_1 : Int} {t1_2 : Int} {t1_3 : Int} {t1_4 : Int} {t1_5 : Int} {t1_6 : Int} {t3 : Nat} {t5 : Option Addr} {t6 : Int} {t7 : Value} {t8 : Value} {t9 : Value} {t10 : Int} {t11 : Option Addr} {t11l : Nat} {t12 : Nat} {t13 : Option Addr} {t13l : Nat} {t20 : Option Addr} {t21 : Option Addr} {t22 : Bool} {t24 : Option Addr} {t24l : Nat} {t25 : Int} {t26 : Bool} {t33 : Value} {t34 : Value} {t35 : Value} {t36 : Value} {t37 : Value} {t38 : Value} {t39 : Value} {t40 : Value} {t41 : Value} {t42 : Value} {t43 : Value} {t44 : Value} {t45 : Value} {t46 : Value} {t47 : Value} {t48 : Value} {t49 : Value} {t50 : Value} {t51 : Value} {t52 : Value} {t53 : Value} {t54 : Value} {t55 : Value} {t56 : Value} {t57 : Value} {t58 : Value} {t59 : Value} {t60 : Value} {t61 : Value} {t62 : Value} {t63 : Value} {t64 : Nat} {t65 : Int} {t66 : Int} {t67 : Value} {t68 : Value} {t69 : Value} {t70 : Value} {t71 : Value} {t72 : Value} {t73 : Option Addr} {t74 : Int} {t75 : Option Addr} {t75l : Nat} {t76 : Option Addr} {t77_0 : Int} {t77_1 : Int} {t77_2 : Int} {t77_3 : Int} {t77_4 : Int} {t77_5 : Int} {t77_6 : Int} {t78_0 : Int} {t78_1 : Bool} {t78_2 : Int} {t78_3 : Int} {t79 : Option Addr} {t80 : Int} {t81 : Int} {t82 : Option Addr} {t82l : Nat} {t83 : Value} {t84 : Value} {t85 : Value} {t86 : Value} {t87 : Value} {t88 : Value} {t89 : Value} {t90 : Value} {t91 : Value} {t92 : Value} {t93 : Value} {t94 : Value} {t95 : Value} {t96 : Value} {t97 : Value} {t98 : Value} {t99 : Value} {t100 : Value} {t101 : Value} {t102 : Value} {t103 : Value} {t104 : Value} {t105 : Value} {t106 : Value} {t107 : Value} {K0 : Fr → Heap → Prop} {K1 : Fr → Heap → Prop} {K2 : Fr → Heap → Prop} {t4 : Bool} {t14 : Int} {t15 : Value} {t16 : Value} {t17 : Value} {t18 : Value} {t19 : Value} {t108 : Value} {t109 : Value} {t110 : Value} {t111 : Value} {t112 : Value} {t113 : Value} {t114 : Value} {t115 : Value} {t116 : Value} {t117 : Value} {t118 : Value} {t119 : Value} {t120 : Value} {t121 : Value} {t122 : Value} {t123 : Value} {t124 : Value} {t125 : Value} {t126 : Value} {t127 : Value} {t128 : Value} {t129 : Value} {t130 : Value} {t131 : Value} {t132 : Value} {t133 : Value} {t134 : Value} {t135 : Value} {t136 : Value} {t137 : Value} {t138 : Value} {t139 : Value} {t140 : Value} {t141 : Value} {t142 : Value} {t143 : Value} {t144 : Value} {t145 : Value} {t146 : Value} {t147 : Value} {t148 : Value} {t149 : Value} {t150 : Value} {t151 : Value} {t152 : Value} {t153 : Value} {t154 : Value} {t155 : Value} {t156 : Value} {t157 : Value} {t158 : Value} {t159 : Value} {t160 : Value} {t161 : Value} {t162 : Value} {t163 : Value} {t164 : Value} {t165 : Value} {t166 : Value} {t167 : Value} {t168 : Value} {t169 : Value} {t170 : Value} {t171 : Value} {t172 : Value} {t173 : Value} {t174 : Value} {t175 : Value} {t176 : Value} {t177 : Value} {t178 : Value} {t179 : Value} {t180 : Value} {t181 : Value} {t182 : Value} {t183 : Value} {t184 : Value} {t185 : Value} {t186 : Value} {t187 : Value} {t188 : Value} {t189 : Value} {t190 : Value} {t191 : Value} {t192 : Value} {t193 : Value} {t194 : Value} {t195 : Value} {t196 : Value} {t197 : Value} {t198 : Value} {t199 : Value} {t200 : Value} {t201 : Value} {t202 : Value} {t203 : Value} {t204 : Value} {t205 : Value} {t206 : Value} {t207 : Value} {t208 : Value} {t209 : Value} {t210 : Value} {t211 : Value} {t212 : Value} {H : Heap} (I : Nat → Bool → Int → Heap → Prop) (n : Nat) (h0 : I n t4 t14 H)
    (hstep : ∀ (n : Nat) (t4 : Bool) (t14 : Int) (ys : Fr) (H : Heap), I n t4 t14 H →
    (
 bif (decide (t14 ≤ t6)) then (
 inB (IntKind.i64.wrap (t14 - 1)) t11l ∧
 asRow t11 fun i1 i2 =>
 ∃ a3 i4, H.cell i1 (i2 + ((IntKind.i64.wrap (t14 - 1)).toNat * 1)) = some (.slice a3 i4 0) ∧
 inB (IntKind.i64.wrap (t14 - 1)) t13l ∧
 asRow t13 fun i5 i6 =>
 ∃ a7 i8, H.cell i5 (i6 + ((IntKind.i64.wrap (t14 - 1)).toNat * 1)) = some (.slice a7 i8 0) ∧
 bif (t10 == 1) then (
 ∃ n9, H.cell t3 1 = some (.int .i64 n9) ∧
 bif (t14 == n9) then (
 bif (((i8 : Nat) : Int) != 0) then (
 K1 [(.slice t0 t0l 0), (.agg #[(.int .i64 t1_0), (.int .i64 t1_1), (.int .i64 t1_2), (.int .i64 t1_3), (.int .u64 t1_4), (.int .u64 t1_5), (.int .u64 t1_6)]), undef, (.pointer (some ⟨t3, 0, none⟩)), (.bool false), (.pointer t5), (.int .i64 t6), t7, t8, t9, (.int .i64 t10), (.slice t11 t11l 0), (.pointer (some ⟨t12, 0, none⟩)), (.slice t13 t13l 0), (.int .i64 t14), (.slice a3 i4 0), (.slice a7 i8 0), (ys.getD 17 undef), (ys.getD 18 undef), (ys.getD 19 undef), (.pointer t20), (.pointer t21), (.bool t22), (.bool false), (.slice t24 t24l 0), (.int .i64 t25), (.bool t26), (.bool false), undef, undef, undef, undef, undef, t33, t34, t35, t36, t37, t38, t39, t40, t41, t42, t43, t44, t45, t46, t47, t48, t49, t50, t51, t52, t53, t54, t55, t56, t57, t58, t59, t60, t61, t62, t63, (.pointer (some ⟨t64, 0, none⟩)), (.int .i64 t65), (.int .i64 t66), t67, t68, t69, t70, t71, t72, (.pointer t73), (.int .i64 t74), (.slice t75 t75l 0), (.pointer t76), (.agg #[(.int .i64 t77_0), (.int .i64 t77_1), (.int .i64 t77_2), (.int .i64 t77_3), (.int .u64 t77_4), (.int .u64 t77_5), (.int .u64 t77_6)]), (.agg #[(.int .u64 t78_0), (.bool t78_1), (.int .i64 t78_2), (.int .i64 t78_3)]), (.pointer t79), (.int .i64 t80), (.int .i64 t81), (.slice t82 t82l 0), t83, t84, t85, t86, t87, t88, t89, t90, t91, t92, t93, t94, t95, t96, t97, t98, t99, t100, t101, t102, t103, t104, t105, t106, t107, (.int .i64 t14), (.int .i64 t6), (.bool true), (ys.getD 111 undef), (ys.getD 112 undef), (.slice t11 t11l 0), (.int .i64 t14), (.int .i64 (IntKind.i64.wrap (t14 - 1))), (.pointer (some ⟨i1, (i2 + ((IntKind.i64.wrap (t14 - 1)).toNat * 1)), none⟩)), (.slice a3 i4 0), (.slice t13 t13l 0), (.int .i64 t14), (.int .i64 (IntKind.i64.wrap (t14 - 1))), (.pointer (some ⟨i5, (i6 + ((IntKind.i64.wrap (t14 - 1)).toNat * 1)), none⟩)), (.slice a7 i8 0), (.int .i64 t10), (.bool (t10 == 1)), (.bool true), (.int .i64 t14), (.pointer (some ⟨t3, 1, none⟩)), (.int .i64 n9), (.bool (t14 == n9)), (.bool true), (.slice a7 i8 0), (.int .i64 ((i8 : Nat) : Int)), (.bool true), (ys.getD 134 undef), (ys.getD 135 undef), (ys.getD 136 undef), (ys.getD 137 undef), (ys.getD 138 undef), (ys.getD 139 undef), (ys.getD 140 undef), (ys.getD 141 undef), (ys.getD 142 undef), (ys.getD 143 undef), (ys.getD 144 undef), (ys.getD 145 undef), (ys.getD 146 undef), (ys.getD 147 undef), (ys.getD 148 undef), (ys.getD 149 undef), (ys.getD 150 undef), (ys.getD 151 undef), (ys.getD 152 undef), (ys.getD 153 undef), (ys.getD 154 undef), (ys.getD 155 undef), (ys.getD 156 undef), (ys.getD 157 undef), (ys.getD 158 undef), (ys.getD 159 undef), (ys.getD 160 undef), (ys.getD 161 undef), (ys.getD 162 undef), (ys.getD 163 undef), (ys.getD 164 undef), (ys.getD 165 undef), (ys.getD 166 undef), (ys.getD 167 undef), (ys.getD 168 undef), (ys.getD 169 undef), (ys.getD 170 undef), (ys.getD 171 undef), (ys.getD 172 undef), (ys.getD 173 undef), (ys.getD 174 undef), (ys.getD 175 undef), (ys.getD 176 undef), (ys.getD 177 undef), (ys.getD 178 undef), (ys.getD 179 undef), (ys.getD 180 undef), (ys.getD 181 undef), (ys.getD 182 undef), (ys.getD 183 undef), (ys.getD 184 undef), (ys.getD 185 undef), (ys.getD 186 undef), (ys.getD 187 undef), (ys.getD 188 undef), (ys.getD 189 undef), (ys.getD 190 undef), (ys.getD 191 undef), (ys.getD 192 undef), (ys.getD 193 undef), (ys.getD 194 undef), (ys.getD 195 undef), (ys.getD 196 undef), (ys.getD 197 undef), (ys.getD 198 undef), (ys.getD 199 undef), (ys.getD 200 undef), (ys.getD 201 undef), (ys.getD 202 undef), (ys.getD 203 undef), (ys.getD 204 undef), (ys.getD 205 undef), (ys.getD 206 undef), (ys.getD 207 undef), (ys.getD 208 undef), (ys.getD 209 undef), (ys.getD 210 undef), (ys.getD 211 undef), (ys.getD 212 undef), undef] H)
 else (
 ∃ k10, k10 < n ∧
 I k10 t4 (IntKind.i64.wrap (t14 + 1)) H))
 else (
 bif (((i4 : Nat) : Int) != ((i8 : Nat) : Int)) then (
 K1 [(.slice t0 t0l 0), (.agg #[(.int .i64 t1_0), (.int .i64 t1_1), (.int .i64 t1_2), (.int .i64 t1_3), (.int .u64 t1_4), (.int .u64 t1_5), (.int .u64 t1_6)]), undef, (.pointer (some ⟨t3, 0, none⟩)), (.bool false), (.pointer t5), (.int .i64 t6), t7, t8, t9, (.int .i64 t10), (.slice t11 t11l 0), (.pointer (some ⟨t12, 0, none⟩)), (.slice t13 t13l 0), (.int .i64 t14), (.slice a3 i4 0), (.slice a7 i8 0), (ys.getD 17 undef), (ys.getD 18 undef), (ys.getD 19 undef), (.pointer t20), (.pointer t21), (.bool t22), (.bool false), (.slice t24 t24l 0), (.int .i64 t25), (.bool t26), (.bool false), undef, undef, undef, undef, undef, t33, t34, t35, t36, t37, t38, t39, t40, t41, t42, t43, t44, t45, t46, t47, t48, t49, t50, t51, t52, t53, t54, t55, t56, t57, t58, t59, t60, t61, t62, t63, (.pointer (some ⟨t64, 0, none⟩)), (.int .i64 t65), (.int .i64 t66), t67, t68, t69, t70, t71, t72, (.pointer t73), (.int .i64 t74), (.slice t75 t75l 0), (.pointer t76), (.agg #[(.int .i64 t77_0), (.int .i64 t77_1), (.int .i64 t77_2), (.int .i64 t77_3), (.int .u64 t77_4), (.int .u64 t77_5), (.int .u64 t77_6)]), (.agg #[(.int .u64 t78_0), (.bool t78_1), (.int .i64 t78_2), (.int .i64 t78_3)]), (.pointer t79), (.int .i64 t80), (.int .i64 t81), (.slice t82 t82l 0), t83, t84, t85, t86, t87, t88, t89, t90, t91, t92, t93, t94, t95, t96, t97, t98, t99, t100, t101, t102, t103, t104, t105, t106, t107, (.int .i64 t14), (.int .i64 t6), (.bool true), (ys.getD 111 undef), (ys.getD 112 undef), (.slice t11 t11l 0), (.int .i64 t14), (.int .i64 (IntKind.i64.wrap (t14 - 1))), (.pointer (some ⟨i1, (i2 + ((IntKind.i64.wrap (t14 - 1)).toNat * 1)), none⟩)), (.slice a3 i4 0), (.slice t13 t13l 0), (.int .i64 t14), (.int .i64 (IntKind.i64.wrap (t14 - 1))), (.pointer (some ⟨i5, (i6 + ((IntKind.i64.wrap (t14 - 1)).toNat * 1)), none⟩)), (.slice a7 i8 0), (.int .i64 t10), (.bool (t10 == 1)), (.bool true), (.int .i64 t14), (.pointer (some ⟨t3, 1, none⟩)), (.int .i64 n9), (.bool (t14 == n9)), (.bool false), (ys.getD 131 undef), (ys.getD 132 undef), (ys.getD 133 undef), (.slice a3 i4 0), (.int .i64 ((i4 : Nat) : Int)), (.slice a7 i8 0), (.int .i64 ((i8 : Nat) : Int)), (.bool true), (ys.getD 139 undef), (ys.getD 140 undef), (ys.getD 141 undef), (ys.getD 142 undef), (ys.getD 143 undef), (ys.getD 144 undef), (ys.getD 145 undef), (ys.getD 146 undef), (ys.getD 147 undef), (ys.getD 148 undef), (ys.getD 149 undef), (ys.getD 150 undef), (ys.getD 151 undef), (ys.getD 152 undef), (ys.getD 153 undef), (ys.getD 154 undef), (ys.getD 155 undef), (ys.getD 156 undef), (ys.getD 157 undef), (ys.getD 158 undef), (ys.getD 159 undef), (ys.getD 160 undef), (ys.getD 161 undef), (ys.getD 162 undef), (ys.getD 163 undef), (ys.getD 164 undef), (ys.getD 165 undef), (ys.getD 166 undef), (ys.getD 167 undef), (ys.getD 168 undef), (ys.getD 169 undef), (ys.getD 170 undef), (ys.getD 171 undef), (ys.getD 172 undef), (ys.getD 173 undef), (ys.getD 174 undef), (ys.getD 175 undef), (ys.getD 176 undef), (ys.getD 177 undef), (ys.getD 178 undef), (ys.getD 179 undef), (ys.getD 180 undef), (ys.getD 181 undef), (ys.getD 182 undef), (ys.getD 183 undef), (ys.getD 184 undef), (ys.getD 185 undef), (ys.getD 186 undef), (ys.getD 187 undef), (ys.getD 188 undef), (ys.getD 189 undef), (ys.getD 190 undef), (ys.getD 191 undef), (ys.getD 192 undef), (ys.getD 193 undef), (ys.getD 194 undef), (ys.getD 195 undef), (ys.getD 196 undef), (ys.getD 197 undef), (ys.getD 198 undef), (ys.getD 199 undef), (ys.getD 200 undef), (ys.getD 201 undef), (ys.getD 202 undef), (ys.getD 203 undef), (ys.getD 204 undef), (ys.getD 205 undef), (ys.getD 206 undef), (ys.getD 207 undef), (ys.getD 208 undef), (ys.getD 209 undef), (ys.getD 210 undef), (ys.getD 211 undef), (ys.getD 212 undef), undef] H)
 else (
 LA en L_crossbarlaw08_SmemApart_2 [(.slice t0 t0l 0), (.agg #[(.int .i64 t1_0), (.int .i64 t1_1), (.int .i64 t1_2), (.int .i64 t1_3), (.int .u64 t1_4), (.int .u64 t1_5), (.int .u64 t1_6)]), undef, (.pointer (some ⟨t3, 0, none⟩)), (.bool t4), (.pointer t5), (.int .i64 t6), t7, t8, t9, (.int .i64 t10), (.slice t11 t11l 0), (.pointer (some ⟨t12, 0, none⟩)), (.slice t13 t13l 0), (.int .i64 t14), (.slice a3 i4 0), (.slice a7 i8 0), (.int .i64 0), (ys.getD 18 undef), (ys.getD 19 undef), (.pointer t20), (.pointer t21), (.bool t22), (.bool false), (.slice t24 t24l 0), (.int .i64 t25), (.bool t26), (.bool false), undef, undef, undef, undef, undef, t33, t34, t35, t36, t37, t38, t39, t40, t41, t42, t43, t44, t45, t46, t47, t48, t49, t50, t51, t52, t53, t54, t55, t56, t57, t58, t59, t60, t61, t62, t63, (.pointer (some ⟨t64, 0, none⟩)), (.int .i64 t65), (.int .i64 t66), t67, t68, t69, t70, t71, t72, (.pointer t73), (.int .i64 t74), (.slice t75 t75l 0), (.pointer t76), (.agg #[(.int .i64 t77_0), (.int .i64 t77_1), (.int .i64 t77_2), (.int .i64 t77_3), (.int .u64 t77_4), (.int .u64 t77_5), (.int .u64 t77_6)]), (.agg #[(.int .u64 t78_0), (.bool t78_1), (.int .i64 t78_2), (.int .i64 t78_3)]), (.pointer t79), (.int .i64 t80), (.int .i64 t81), (.slice t82 t82l 0), t83, t84, t85, t86, t87, t88, t89, t90, t91, t92, t93, t94, t95, t96, t97, t98, t99, t100, t101, t102, t103, t104, t105, t106, t107, (.int .i64 t14), (.int .i64 t6), (.bool true), (ys.getD 111 undef), (ys.getD 112 undef), (.slice t11 t11l 0), (.int .i64 t14), (.int .i64 (IntKind.i64.wrap (t14 - 1))), (.pointer (some ⟨i1, (i2 + ((IntKind.i64.wrap (t14 - 1)).toNat * 1)), none⟩)), (.slice a3 i4 0), (.slice t13 t13l 0), (.int .i64 t14), (.int .i64 (IntKind.i64.wrap (t14 - 1))), (.pointer (some ⟨i5, (i6 + ((IntKind.i64.wrap (t14 - 1)).toNat * 1)), none⟩)), (.slice a7 i8 0), (.int .i64 t10), (.bool (t10 == 1)), (.bool true), (.int .i64 t14), (.pointer (some ⟨t3, 1, none⟩)), (.int .i64 n9), (.bool (t14 == n9)), (.bool false), (ys.getD 131 undef), (ys.getD 132 undef), (ys.getD 133 undef), (.slice a3 i4 0), (.int .i64 ((i4 : Nat) : Int)), (.slice a7 i8 0), (.int .i64 ((i8 : Nat) : Int)), (.bool false), (ys.getD 139 undef), (ys.getD 140 undef), (ys.getD 141 undef), (ys.getD 142 undef), (ys.getD 143 undef), (ys.getD 144 undef), (ys.getD 145 undef), (ys.getD 146 undef), (ys.getD 147 undef), (ys.getD 148 undef), (ys.getD 149 undef), (ys.getD 150 undef), (ys.getD 151 undef), (ys.getD 152 undef), (ys.getD 153 undef), (ys.getD 154 undef), (ys.getD 155 undef), (ys.getD 156 undef), (ys.getD 157 undef), (ys.getD 158 undef), (ys.getD 159 undef), (ys.getD 160 undef), (ys.getD 161 undef), (ys.getD 162 undef), (ys.getD 163 undef), (ys.getD 164 undef), (ys.getD 165 undef), (ys.getD 166 undef), (ys.getD 167 undef), (ys.getD 168 undef), (ys.getD 169 undef), (ys.getD 170 undef), (ys.getD 171 undef), (ys.getD 172 undef), (ys.getD 173 undef), (ys.getD 174 undef), (ys.getD 175 undef), (ys.getD 176 undef), (ys.getD 177 undef), (ys.getD 178 undef), (ys.getD 179 undef), (ys.getD 180 undef), (ys.getD 181 undef), (ys.getD 182 undef), (ys.getD 183 undef), (ys.getD 184 undef), (ys.getD 185 undef), (ys.getD 186 undef), (ys.getD 187 undef), (ys.getD 188 undef), (ys.getD 189 undef), (ys.getD 190 undef), (ys.getD 191 undef), (ys.getD 192 undef), (ys.getD 193 undef), (ys.getD 194 undef), (ys.getD 195 undef), (ys.getD 196 undef), (ys.getD 197 undef), (ys.getD 198 undef), (ys.getD 199 undef), (ys.getD 200 undef), (ys.getD 201 undef), (ys.getD 202 undef), (ys.getD 203 undef), (ys.getD 204 undef), (ys.getD 205 undef), (ys.getD 206 undef), (ys.getD 207 undef), (ys.getD 208 undef), (ys.getD 209 undef), (ys.getD 210 undef), (ys.getD 211 undef), (ys.getD 212 undef), undef] H [(X.exit 4, fun (x11 : Fr) (H12 : Heap) =>
 AS.asBool (x11.getD 4 undef) fun b13 =>
 ∃ k14, k14 < n ∧
 I k14 b13 (IntKind.i64.wrap (t14 + 1)) H12),
 (X.ret, fun (x15 : Fr) (H16 : Heap) =>
 AS.asBool (x15.getD 4 undef) fun b17 =>
 K1 [(.slice t0 t0l 0), (.agg #[(.int .i64 t1_0), (.int .i64 t1_1), (.int .i64 t1_2), (.int .i64 t1_3), (.int .u64 t1_4), (.int .u64 t1_5), (.int .u64 t1_6)]), undef, (.pointer (some ⟨t3, 0, none⟩)), (.bool b17), (.pointer t5), (.int .i64 t6), t7, t8, t9, (.int .i64 t10), (.slice t11 t11l 0), (.pointer (some ⟨t12, 0, none⟩)), (.slice t13 t13l 0), (.int .i64 t14), (.slice a3 i4 0), (.slice a7 i8 0), (x15.getD 17 undef), (x15.getD 18 undef), (x15.getD 19 undef), (.pointer t20), (.pointer t21), (.bool t22), (.bool false), (.slice t24 t24l 0), (.int .i64 t25), (.bool t26), (.bool false), undef, undef, undef, undef, undef, t33, t34, t35, t36, t37, t38, t39, t40, t41, t42, t43, t44, t45, t46, t47, t48, t49, t50, t51, t52, t53, t54, t55, t56, t57, t58, t59, t60, t61, t62, t63, (.pointer (some ⟨t64, 0, none⟩)), (.int .i64 t65), (.int .i64 t66), t67, t68, t69, t70, t71, t72, (.pointer t73), (.int .i64 t74), (.slice t75 t75l 0), (.pointer t76), (.agg #[(.int .i64 t77_0), (.int .i64 t77_1), (.int .i64 t77_2), (.int .i64 t77_3), (.int .u64 t77_4), (.int .u64 t77_5), (.int .u64 t77_6)]), (.agg #[(.int .u64 t78_0), (.bool t78_1), (.int .i64 t78_2), (.int .i64 t78_3)]), (.pointer t79), (.int .i64 t80), (.int .i64 t81), (.slice t82 t82l 0), t83, t84, t85, t86, t87, t88, t89, t90, t91, t92, t93, t94, t95, t96, t97, t98, t99, t100, t101, t102, t103, t104, t105, t106, t107, (.int .i64 t14), (.int .i64 t6), (.bool true), (ys.getD 111 undef), (ys.getD 112 undef), (.slice t11 t11l 0), (.int .i64 t14), (.int .i64 (IntKind.i64.wrap (t14 - 1))), (.pointer (some ⟨i1, (i2 + ((IntKind.i64.wrap (t14 - 1)).toNat * 1)), none⟩)), (.slice a3 i4 0), (.slice t13 t13l 0), (.int .i64 t14), (.int .i64 (IntKind.i64.wrap (t14 - 1))), (.pointer (some ⟨i5, (i6 + ((IntKind.i64.wrap (t14 - 1)).toNat * 1)), none⟩)), (.slice a7 i8 0), (.int .i64 t10), (.bool (t10 == 1)), (.bool true), (.int .i64 t14), (.pointer (some ⟨t3, 1, none⟩)), (.int .i64 n9), (.bool (t14 == n9)), (.bool false), (ys.getD 131 undef), (ys.getD 132 undef), (ys.getD 133 undef), (.slice a3 i4 0), (.int .i64 ((i4 : Nat) : Int)), (.slice a7 i8 0), (.int .i64 ((i8 : Nat) : Int)), (.bool false), (x15.getD 139 undef), (x15.getD 140 undef), (x15.getD 141 undef), (x15.getD 142 undef), (x15.getD 143 undef), (x15.getD 144 undef), (x15.getD 145 undef), (x15.getD 146 undef), (x15.getD 147 undef), (x15.getD 148 undef), (x15.getD 149 undef), (x15.getD 150 undef), (x15.getD 151 undef), (x15.getD 152 undef), (x15.getD 153 undef), (x15.getD 154 undef), (x15.getD 155 undef), (x15.getD 156 undef), (x15.getD 157 undef), (x15.getD 158 undef), (x15.getD 159 undef), (x15.getD 160 undef), (x15.getD 161 undef), (x15.getD 162 undef), (x15.getD 163 undef), (x15.getD 164 undef), (x15.getD 165 undef), (x15.getD 166 undef), (x15.getD 167 undef), (x15.getD 168 undef), (x15.getD 169 undef), (x15.getD 170 undef), (x15.getD 171 undef), (x15.getD 172 undef), (x15.getD 173 undef), (x15.getD 174 undef), (x15.getD 175 undef), (x15.getD 176 undef), (x15.getD 177 undef), (x15.getD 178 undef), (x15.getD 179 undef), (x15.getD 180 undef), (x15.getD 181 undef), (x15.getD 182 undef), (x15.getD 183 undef), (x15.getD 184 undef), (x15.getD 185 undef), (x15.getD 186 undef), (x15.getD 187 undef), (x15.getD 188 undef), (x15.getD 189 undef), (x15.getD 190 undef), (x15.getD 191 undef), (x15.getD 192 undef), (x15.getD 193 undef), (x15.getD 194 undef), (x15.getD 195 undef), (x15.getD 196 undef), (x15.getD 197 undef), (x15.getD 198 undef), (x15.getD 199 undef), (x15.getD 200 undef), (x15.getD 201 undef), (x15.getD 202 undef), (x15.getD 203 undef), (x15.getD 204 undef), (x15.getD 205 undef), (x15.getD 206 undef), (x15.getD 207 undef), (x15.getD 208 undef), (x15.getD 209 undef), (x15.getD 210 undef), (x15.getD 211 undef), (x15.getD 212 undef), undef] H16)])))
 else (
 bif (((i4 : Nat) : Int) != ((i8 : Nat) : Int)) then (
 K1 [(.slice t0 t0l 0), (.agg #[(.int .i64 t1_0), (.int .i64 t1_1), (.int .i64 t1_2), (.int .i64 t1_3), (.int .u64 t1_4), (.int .u64 t1_5), (.int .u64 t1_6)]), undef, (.pointer (some ⟨t3, 0, none⟩)), (.bool false), (.pointer t5), (.int .i64 t6), t7, t8, t9, (.int .i64 t10), (.slice t11 t11l 0), (.pointer (some ⟨t12, 0, none⟩)), (.slice t13 t13l 0), (.int .i64 t14), (.slice a3 i4 0), (.slice a7 i8 0), (ys.getD 17 undef), (ys.getD 18 undef), (ys.getD 19 undef), (.pointer t20), (.pointer t21), (.bool t22), (.bool false), (.slice t24 t24l 0), (.int .i64 t25), (.bool t26), (.bool false), undef, undef, undef, undef, undef, t33, t34, t35, t36, t37, t38, t39, t40, t41, t42, t43, t44, t45, t46, t47, t48, t49, t50, t51, t52, t53, t54, t55, t56, t57, t58, t59, t60, t61, t62, t63, (.pointer (some ⟨t64, 0, none⟩)), (.int .i64 t65), (.int .i64 t66), t67, t68, t69, t70, t71, t72, (.pointer t73), (.int .i64 t74), (.slice t75 t75l 0), (.pointer t76), (.agg #[(.int .i64 t77_0), (.int .i64 t77_1), (.int .i64 t77_2), (.int .i64 t77_3), (.int .u64 t77_4), (.int .u64 t77_5), (.int .u64 t77_6)]), (.agg #[(.int .u64 t78_0), (.bool t78_1), (.int .i64 t78_2), (.int .i64 t78_3)]), (.pointer t79), (.int .i64 t80), (.int .i64 t81), (.slice t82 t82l 0), t83, t84, t85, t86, t87, t88, t89, t90, t91, t92, t93, t94, t95, t96, t97, t98, t99, t100, t101, t102, t103, t104, t105, t106, t107, (.int .i64 t14), (.int .i64 t6), (.bool true), (ys.getD 111 undef), (ys.getD 112 undef), (.slice t11 t11l 0), (.int .i64 t14), (.int .i64 (IntKind.i64.wrap (t14 - 1))), (.pointer (some ⟨i1, (i2 + ((IntKind.i64.wrap (t14 - 1)).toNat * 1)), none⟩)), (.slice a3 i4 0), (.slice t13 t13l 0), (.int .i64 t14), (.int .i64 (IntKind.i64.wrap (t14 - 1))), (.pointer (some ⟨i5, (i6 + ((IntKind.i64.wrap (t14 - 1)).toNat * 1)), none⟩)), (.slice a7 i8 0), (.int .i64 t10), (.bool (t10 == 1)), (.bool false), undef, undef, undef, undef, (.bool false), (ys.getD 131 undef), (ys.getD 132 undef), (ys.getD 133 undef), (.slice a3 i4 0), (.int .i64 ((i4 : Nat) : Int)), (.slice a7 i8 0), (.int .i64 ((i8 : Nat) : Int)), (.bool true), (ys.getD 139 undef), (ys.getD 140 undef), (ys.getD 141 undef), (ys.getD 142 undef), (ys.getD 143 undef), (ys.getD 144 undef), (ys.getD 145 undef), (ys.getD 146 undef), (ys.getD 147 undef), (ys.getD 148 undef), (ys.getD 149 undef), (ys.getD 150 undef), (ys.getD 151 undef), (ys.getD 152 undef), (ys.getD 153 undef), (ys.getD 154 undef), (ys.getD 155 undef), (ys.getD 156 undef), (ys.getD 157 undef), (ys.getD 158 undef), (ys.getD 159 undef), (ys.getD 160 undef), (ys.getD 161 undef), (ys.getD 162 undef), (ys.getD 163 undef), (ys.getD 164 undef), (ys.getD 165 undef), (ys.getD 166 undef), (ys.getD 167 undef), (ys.getD 168 undef), (ys.getD 169 undef), (ys.getD 170 undef), (ys.getD 171 undef), (ys.getD 172 undef), (ys.getD 173 undef), (ys.getD 174 undef), (ys.getD 175 undef), (ys.getD 176 undef), (ys.getD 177 undef), (ys.getD 178 undef), (ys.getD 179 undef), (ys.getD 180 undef), (ys.getD 181 undef), (ys.getD 182 undef), (ys.getD 183 undef), (ys.getD 184 undef), (ys.getD 185 undef), (ys.getD 186 undef), (ys.getD 187 undef), (ys.getD 188 undef), (ys.getD 189 undef), (ys.getD 190 undef), (ys.getD 191 undef), (ys.getD 192 undef), (ys.getD 193 undef), (ys.getD 194 undef), (ys.getD 195 undef), (ys.getD 196 undef), (ys.getD 197 undef), (ys.getD 198 undef), (ys.getD 199 undef), (ys.getD 200 undef), (ys.getD 201 undef), (ys.getD 202 undef), (ys.getD 203 undef), (ys.getD 204 undef), (ys.getD 205 undef), (ys.getD 206 undef), (ys.getD 207 undef), (ys.getD 208 undef), (ys.getD 209 undef), (ys.getD 210 undef), (ys.getD 211 undef), (ys.getD 212 undef), undef] H)
 else (
 LA en L_crossbarlaw08_SmemApart_2 [(.slice t0 t0l 0), (.agg #[(.int .i64 t1_0), (.int .i64 t1_1), (.int .i64 t1_2), (.int .i64 t1_3), (.int .u64 t1_4), (.int .u64 t1_5), (.int .u64 t1_6)]), undef, (.pointer (some ⟨t3, 0, none⟩)), (.bool t4), (.pointer t5), (.int .i64 t6), t7, t8, t9, (.int .i64 t10), (.slice t11 t11l 0), (.pointer (some ⟨t12, 0, none⟩)), (.slice t13 t13l 0), (.int .i64 t14), (.slice a3 i4 0), (.slice a7 i8 0), (.int .i64 0), (ys.getD 18 undef), (ys.getD 19 undef), (.pointer t20), (.pointer t21), (.bool t22), (.bool false), (.slice t24 t24l 0), (.int .i64 t25), (.bool t26), (.bool false), undef, undef, undef, undef, undef, t33, t34, t35, t36, t37, t38, t39, t40, t41, t42, t43, t44, t45, t46, t47, t48, t49, t50, t51, t52, t53, t54, t55, t56, t57, t58, t59, t60, t61, t62, t63, (.pointer (some ⟨t64, 0, none⟩)), (.int .i64 t65), (.int .i64 t66), t67, t68, t69, t70, t71, t72, (.pointer t73), (.int .i64 t74), (.slice t75 t75l 0), (.pointer t76), (.agg #[(.int .i64 t77_0), (.int .i64 t77_1), (.int .i64 t77_2), (.int .i64 t77_3), (.int .u64 t77_4), (.int .u64 t77_5), (.int .u64 t77_6)]), (.agg #[(.int .u64 t78_0), (.bool t78_1), (.int .i64 t78_2), (.int .i64 t78_3)]), (.pointer t79), (.int .i64 t80), (.int .i64 t81), (.slice t82 t82l 0), t83, t84, t85, t86, t87, t88, t89, t90, t91, t92, t93, t94, t95, t96, t97, t98, t99, t100, t101, t102, t103, t104, t105, t106, t107, (.int .i64 t14), (.int .i64 t6), (.bool true), (ys.getD 111 undef), (ys.getD 112 undef), (.slice t11 t11l 0), (.int .i64 t14), (.int .i64 (IntKind.i64.wrap (t14 - 1))), (.pointer (some ⟨i1, (i2 + ((IntKind.i64.wrap (t14 - 1)).toNat * 1)), none⟩)), (.slice a3 i4 0), (.slice t13 t13l 0), (.int .i64 t14), (.int .i64 (IntKind.i64.wrap (t14 - 1))), (.pointer (some ⟨i5, (i6 + ((IntKind.i64.wrap (t14 - 1)).toNat * 1)), none⟩)), (.slice a7 i8 0), (.int .i64 t10), (.bool (t10 == 1)), (.bool false), undef, undef, undef, undef, (.bool false), (ys.getD 131 undef), (ys.getD 132 undef), (ys.getD 133 undef), (.slice a3 i4 0), (.int .i64 ((i4 : Nat) : Int)), (.slice a7 i8 0), (.int .i64 ((i8 : Nat) : Int)), (.bool false), (ys.getD 139 undef), (ys.getD 140 undef), (ys.getD 141 undef), (ys.getD 142 undef), (ys.getD 143 undef), (ys.getD 144 undef), (ys.getD 145 undef), (ys.getD 146 undef), (ys.getD 147 undef), (ys.getD 148 undef), (ys.getD 149 undef), (ys.getD 150 undef), (ys.getD 151 undef), (ys.getD 152 undef), (ys.getD 153 undef), (ys.getD 154 undef), (ys.getD 155 undef), (ys.getD 156 undef), (ys.getD 157 undef), (ys.getD 158 undef), (ys.getD 159 undef), (ys.getD 160 undef), (ys.getD 161 undef), (ys.getD 162 undef), (ys.getD 163 undef), (ys.getD 164 undef), (ys.getD 165 undef), (ys.getD 166 undef), (ys.getD 167 undef), (ys.getD 168 undef), (ys.getD 169 undef), (ys.getD 170 undef), (ys.getD 171 undef), (ys.getD 172 undef), (ys.getD 173 undef), (ys.getD 174 undef), (ys.getD 175 undef), (ys.getD 176 undef), (ys.getD 177 undef), (ys.getD 178 undef), (ys.getD 179 undef), (ys.getD 180 undef), (ys.getD 181 undef), (ys.getD 182 undef), (ys.getD 183 undef), (ys.getD 184 undef), (ys.getD 185 undef), (ys.getD 186 undef), (ys.getD 187 undef), (ys.getD 188 undef), (ys.getD 189 undef), (ys.getD 190 undef), (ys.getD 191 undef), (ys.getD 192 undef), (ys.getD 193 undef), (ys.getD 194 undef), (ys.getD 195 undef), (ys.getD 196 undef), (ys.getD 197 undef), (ys.getD 198 undef), (ys.getD 199 undef), (ys.getD 200 undef), (ys.getD 201 undef), (ys.getD 202 undef), (ys.getD 203 undef), (ys.getD 204 undef), (ys.getD 205 undef), (ys.getD 206 undef), (ys.getD 207 undef), (ys.getD 208 undef), (ys.getD 209 undef), (ys.getD 210 undef), (ys.getD 211 undef), (ys.getD 212 undef), undef] H [(X.exit 4, fun (x18 : Fr) (H19 : Heap) =>
 AS.asBool (x18.getD 4 undef) fun b20 =>
 ∃ k21, k21 < n ∧
 I k21 b20 (IntKind.i64.wrap (t14 + 1)) H19),
 (X.ret, fun (x22 : Fr) (H23 : Heap) =>
 AS.asBool (x22.getD 4 undef) fun b24 =>
 K1 [(.slice t0 t0l 0), (.agg #[(.int .i64 t1_0), (.int .i64 t1_1), (.int .i64 t1_2), (.int .i64 t1_3), (.int .u64 t1_4), (.int .u64 t1_5), (.int .u64 t1_6)]), undef, (.pointer (some ⟨t3, 0, none⟩)), (.bool b24), (.pointer t5), (.int .i64 t6), t7, t8, t9, (.int .i64 t10), (.slice t11 t11l 0), (.pointer (some ⟨t12, 0, none⟩)), (.slice t13 t13l 0), (.int .i64 t14), (.slice a3 i4 0), (.slice a7 i8 0), (x22.getD 17 undef), (x22.getD 18 undef), (x22.getD 19 undef), (.pointer t20), (.pointer t21), (.bool t22), (.bool false), (.slice t24 t24l 0), (.int .i64 t25), (.bool t26), (.bool false), undef, undef, undef, undef, undef, t33, t34, t35, t36, t37, t38, t39, t40, t41, t42, t43, t44, t45, t46, t47, t48, t49, t50, t51, t52, t53, t54, t55, t56, t57, t58, t59, t60, t61, t62, t63, (.pointer (some ⟨t64, 0, none⟩)), (.int .i64 t65), (.int .i64 t66), t67, t68, t69, t70, t71, t72, (.pointer t73), (.int .i64 t74), (.slice t75 t75l 0), (.pointer t76), (.agg #[(.int .i64 t77_0), (.int .i64 t77_1), (.int .i64 t77_2), (.int .i64 t77_3), (.int .u64 t77_4), (.int .u64 t77_5), (.int .u64 t77_6)]), (.agg #[(.int .u64 t78_0), (.bool t78_1), (.int .i64 t78_2), (.int .i64 t78_3)]), (.pointer t79), (.int .i64 t80), (.int .i64 t81), (.slice t82 t82l 0), t83, t84, t85, t86, t87, t88, t89, t90, t91, t92, t93, t94, t95, t96, t97, t98, t99, t100, t101, t102, t103, t104, t105, t106, t107, (.int .i64 t14), (.int .i64 t6), (.bool true), (ys.getD 111 undef), (ys.getD 112 undef), (.slice t11 t11l 0), (.int .i64 t14), (.int .i64 (IntKind.i64.wrap (t14 - 1))), (.pointer (some ⟨i1, (i2 + ((IntKind.i64.wrap (t14 - 1)).toNat * 1)), none⟩)), (.slice a3 i4 0), (.slice t13 t13l 0), (.int .i64 t14), (.int .i64 (IntKind.i64.wrap (t14 - 1))), (.pointer (some ⟨i5, (i6 + ((IntKind.i64.wrap (t14 - 1)).toNat * 1)), none⟩)), (.slice a7 i8 0), (.int .i64 t10), (.bool (t10 == 1)), (.bool false), undef, undef, undef, undef, (.bool false), (ys.getD 131 undef), (ys.getD 132 undef), (ys.getD 133 undef), (.slice a3 i4 0), (.int .i64 ((i4 : Nat) : Int)), (.slice a7 i8 0), (.int .i64 ((i8 : Nat) : Int)), (.bool false), (x22.getD 139 undef), (x22.getD 140 undef), (x22.getD 141 undef), (x22.getD 142 undef), (x22.getD 143 undef), (x22.getD 144 undef), (x22.getD 145 undef), (x22.getD 146 undef), (x22.getD 147 undef), (x22.getD 148 undef), (x22.getD 149 undef), (x22.getD 150 undef), (x22.getD 151 undef), (x22.getD 152 undef), (x22.getD 153 undef), (x22.getD 154 undef), (x22.getD 155 undef), (x22.getD 156 undef), (x22.getD 157 undef), (x22.getD 158 undef), (x22.getD 159 undef), (x22.getD 160 undef), (x22.getD 161 undef), (x22.getD 162 undef), (x22.getD 163 undef), (x22.getD 164 undef), (x22.getD 165 undef), (x22.getD 166 undef), (x22.getD 167 undef), (x22.getD 168 undef), (x22.getD 169 undef), (x22.getD 170 undef), (x22.getD 171 undef), (x22.getD 172 undef), (x22.getD 173 undef), (x22.getD 174 undef), (x22.getD 175 undef), (x22.getD 176 undef), (x22.getD 177 undef), (x22.getD 178 undef), (x22.getD 179 undef), (x22.getD 180 undef), (x22.getD 181 undef), (x22.getD 182 undef), (x22.getD 183 undef), (x22.getD 184 undef), (x22.getD 185 undef), (x22.getD 186 undef), (x22.getD 187 undef), (x22.getD 188 undef), (x22.getD 189 undef), (x22.getD 190 undef), (x22.getD 191 undef), (x22.getD 192 undef), (x22.getD 193 undef), (x22.getD 194 undef), (x22.getD 195 undef), (x22.getD 196 undef), (x22.getD 197 undef), (x22.getD 198 undef), (x22.getD 199 undef), (x22.getD 200 undef), (x22.getD 201 undef), (x22.getD 202 undef), (x22.getD 203 undef), (x22.getD 204 undef), (x22.getD 205 undef), (x22.getD 206 undef), (x22.getD 207 undef), (x22.getD 208 undef), (x22.getD 209 undef), (x22.getD 210 undef), (x22.getD 211 undef), (x22.getD 212 undef), undef] H23)])))
 else (
 K0 [(.slice t0 t0l 0), (.agg #[(.int .i64 t1_0), (.int .i64 t1_1), (.int .i64 t1_2), (.int .i64 t1_3), (.int .u64 t1_4), (.int .u64 t1_5), (.int .u64 t1_6)]), undef, (.pointer (some ⟨t3, 0, none⟩)), (.bool t4), (.pointer t5), (.int .i64 t6), t7, t8, t9, (.int .i64 t10), (.slice t11 t11l 0), (.pointer (some ⟨t12, 0, none⟩)), (.slice t13 t13l 0), (.int .i64 t14), (ys.getD 15 undef), (ys.getD 16 undef), (ys.getD 17 undef), (ys.getD 18 undef), (ys.getD 19 undef), (.pointer t20), (.pointer t21), (.bool t22), (.bool false), (.slice t24 t24l 0), (.int .i64 t25), (.bool t26), (.bool false), undef, undef, undef, undef, undef, t33, t34, t35, t36, t37, t38, t39, t40, t41, t42, t43, t44, t45, t46, t47, t48, t49, t50, t51, t52, t53, t54, t55, t56, t57, t58, t59, t60, t61, t62, t63, (.pointer (some ⟨t64, 0, none⟩)), (.int .i64 t65), (.int .i64 t66), t67, t68, t69, t70, t71, t72, (.pointer t73), (.int .i64 t74), (.slice t75 t75l 0), (.pointer t76), (.agg #[(.int .i64 t77_0), (.int .i64 t77_1), (.int .i64 t77_2), (.int .i64 t77_3), (.int .u64 t77_4), (.int .u64 t77_5), (.int .u64 t77_6)]), (.agg #[(.int .u64 t78_0), (.bool t78_1), (.int .i64 t78_2), (.int .i64 t78_3)]), (.pointer t79), (.int .i64 t80), (.int .i64 t81), (.slice t82 t82l 0), t83, t84, t85, t86, t87, t88, t89, t90, t91, t92, t93, t94, t95, t96, t97, t98, t99, t100, t101, t102, t103, t104, t105, t106, t107, (.int .i64 t14), (.int .i64 t6), (.bool false), (ys.getD 111 undef), (ys.getD 112 undef), (ys.getD 113 undef), (ys.getD 114 undef), (ys.getD 115 undef), (ys.getD 116 undef), (ys.getD 117 undef), (ys.getD 118 undef), (ys.getD 119 undef), (ys.getD 120 undef), (ys.getD 121 undef), (ys.getD 122 undef), (ys.getD 123 undef), (ys.getD 124 undef), (ys.getD 125 undef), (ys.getD 126 undef), (ys.getD 127 undef), (ys.getD 128 undef), (ys.getD 129 undef), (ys.getD 130 undef), (ys.getD 131 undef), (ys.getD 132 undef), (ys.getD 133 undef), (ys.getD 134 undef), (ys.getD 135 undef), (ys.getD 136 undef), (ys.getD 137 undef), (ys.getD 138 undef), (ys.getD 139 undef), (ys.getD 140 undef), (ys.getD 141 undef), (ys.getD 142 undef), (ys.getD 143 undef), (ys.getD 144 undef), (ys.getD 145 undef), (ys.getD 146 undef), (ys.getD 147 undef), (ys.getD 148 undef), (ys.getD 149 undef), (ys.getD 150 undef), (ys.getD 151 undef), (ys.getD 152 undef), (ys.getD 153 undef), (ys.getD 154 undef), (ys.getD 155 undef), (ys.getD 156 undef), (ys.getD 157 undef), (ys.getD 158 undef), (ys.getD 159 undef), (ys.getD 160 undef), (ys.getD 161 undef), (ys.getD 162 undef), (ys.getD 163 undef), (ys.getD 164 undef), (ys.getD 165 undef), (ys.getD 166 undef), (ys.getD 167 undef), (ys.getD 168 undef), (ys.getD 169 undef), (ys.getD 170 undef), (ys.getD 171 undef), (ys.getD 172 undef), (ys.getD 173 undef), (ys.getD 174 undef), (ys.getD 175 undef), (ys.getD 176 undef), (ys.getD 177 undef), (ys.getD 178 undef), (ys.getD 179 undef), (ys.getD 180 undef), (ys.getD 181 undef), (ys.getD 182 undef), (ys.getD 183 undef), (ys.getD 184 undef), (ys.getD 185 undef), (ys.getD 186 undef), (ys.getD 187 undef), (ys.getD 188 undef), (ys.getD 189 undef), (ys.getD 190 undef), (ys.getD 191 undef), (ys.getD 192 undef), (ys.getD 193 undef), (ys.getD 194 undef), (ys.getD 195 undef), (ys.getD 196 undef), (ys.getD 197 undef), (ys.getD 198 undef), (ys.getD 199 undef), (ys.getD 200 undef), (ys.getD 201 undef), (ys.getD 202 undef), (ys.getD 203 undef), (ys.getD 204 undef), (ys.getD 205 undef), (ys.getD 206 undef), (ys.getD 207 undef), (ys.getD 208 undef), (ys.getD 209 undef), (ys.getD 210 undef), (ys.getD 211 undef), (ys.getD 212 undef), undef] H))) :
    LA en L_crossbarlaw08_SmemApart_1 [(.slice t0 t0l 0), (.agg #[(.int .i64 t1_0), (.int .i64 t1_1), (.int .i64 t1_2), (.int .i64 t1_3), (.int .u64 t1_4), (.int .u64 t1_5), (.int .u64 t1_6)]), undef, (.pointer (some ⟨t3, 0, none⟩)), (.bool t4), (.pointer t5), (.int .i64 t6), t7, t8, t9, (.int .i64 t10), (.slice t11 t11l 0), (.pointer (some ⟨t12, 0, none⟩)), (.slice t13 t13l 0), (.int .i64 t14), t15, t16, t17, t18, t19, (.pointer t20), (.pointer t21), (.bool t22), (.bool false), (.slice t24 t24l 0), (.int .i64 t25), (.bool t26), (.bool false), undef, undef, undef, undef, undef, t33, t34, t35, t36, t37, t38, t39, t40, t41, t42, t43, t44, t45, t46, t47, t48, t49, t50, t51, t52, t53, t54, t55, t56, t57, t58, t59, t60, t61, t62, t63, (.pointer (some ⟨t64, 0, none⟩)), (.int .i64 t65), (.int .i64 t66), t67, t68, t69, t70, t71, t72, (.pointer t73), (.int .i64 t74), (.slice t75 t75l 0), (.pointer t76), (.agg #[(.int .i64 t77_0), (.int .i64 t77_1), (.int .i64 t77_2), (.int .i64 t77_3), (.int .u64 t77_4), (.int .u64 t77_5), (.int .u64 t77_6)]), (.agg #[(.int .u64 t78_0), (.bool t78_1), (.int .i64 t78_2), (.int .i64 t78_3)]), (.pointer t79), (.int .i64 t80), (.int .i64 t81), (.slice t82 t82l 0), t83, t84, t85, t86, t87, t88, t89, t90, t91, t92, t93, t94, t95, t96, t97, t98, t99, t100, t101, t102, t103, t104, t105, t106, t107, t108, t109, t110, t111, t112, t113, t114, t115, t116, t117, t118, t119, t120, t121, t122, t123, t124, t125, t126, t127, t128, t129, t130, t131, t132, t133, t134, t135, t136, t137, t138, t139, t140, t141, t142, t143, t144, t145, t146, t147, t148, t149, t150, t151, t152, t153, t154, t155, t156, t157, t158, t159, t160, t161, t162, t163, t164, t165, t166, t167, t168, t169, t170, t171, t172, t173, t174, t175, t176, t177, t178, t179, t180, t181, t182, t183, t184, t185, t186, t187, t188, t189, t190, t191, t192, t193, t194, t195, t196, t197, t198, t199, t200, t201, t202, t203, t204, t205, t206, t207, t208, t209, t210, t211, t212, undef] H [(X.exit 2, K0), (X.ret, K1), (X.ret, K2)] := by
  refine LA_rule (Z := [[(4, (.bool false))]]) (fun m xs H' => AS.asBool (xs.getD 4 undef) fun t4 => AS.asInt .i64 (xs.getD 14 undef) fun t14 => I m t4 t14 H') ?_ n H ?_
  · intro n H
    suffices hs : ∀ s108 : Value, ∀ s109 : Value, ∀ s110 : Value, ∀ s113 : Value, ∀ s114 : Value, ∀ s115 : Value, ∀ s116 : Value, ∀ s117 : Value, ∀ s15 : Value, ∀ s118 : Value, ∀ s119 : Value, ∀ s120 : Value, ∀ s121 : Value, ∀ s122 : Value, ∀ s16 : Value, ∀ s123 : Value, ∀ s124 : Value, ∀ s125 : Value, ∀ s126 : Value, ∀ s127 : Value, ∀ s128 : Value, ∀ s129 : Value, ∀ s130 : Value, ∀ s131 : Value, ∀ s132 : Value, ∀ s133 : Value, ∀ s4 : Value, ∀ s134 : Value, ∀ s135 : Value, ∀ s136 : Value, ∀ s137 : Value, ∀ s138 : Value, ∀ s17 : Value, ∀ s139 : Value, ∀ s140 : Value, ∀ s141 : Value, ∀ s142 : Value, ∀ s145 : Value, ∀ s146 : Value, ∀ s18 : Value, ∀ s147 : Value, ∀ s148 : Value, ∀ s149 : Value, ∀ s150 : Value, ∀ s151 : Value, ∀ s152 : Value, ∀ s153 : Value, ∀ s154 : Value, ∀ s155 : Value, ∀ s156 : Value, ∀ s157 : Value, ∀ s158 : Value, ∀ s159 : Value, ∀ s160 : Value, ∀ s161 : Value, ∀ s162 : Value, ∀ s19 : Value, ∀ s163 : Value, ∀ s164 : Value, ∀ s165 : Value, ∀ s166 : Value, ∀ s167 : Value, ∀ s168 : Value, ∀ s169 : Value, ∀ s170 : Value, ∀ s171 : Value, ∀ s172 : Value, ∀ s173 : Value, ∀ s174 : Value, ∀ s175 : Value, ∀ s176 : Value, ∀ s177 : Value, ∀ s178 : Value, ∀ s179 : Value, ∀ s180 : Value, ∀ s181 : Value, ∀ s182 : Value, ∀ s183 : Value, ∀ s184 : Value, ∀ s185 : Value, ∀ s186 : Value, ∀ s187 : Value, ∀ s188 : Value, ∀ s189 : Value, ∀ s190 : Value, ∀ s191 : Value, ∀ s192 : Value, ∀ s193 : Value, ∀ s194 : Value, ∀ s195 : Value, ∀ s196 : Value, ∀ s197 : Value, ∀ s198 : Value, ∀ s199 : Value, ∀ s200 : Value, ∀ s201 : Value, ∀ s202 : Value, ∀ s203 : Value, ∀ s204 : Value, ∀ s205 : Value, ∀ s206 : Value, ∀ s207 : Value, ∀ s208 : Value, ∀ s209 : Value, ∀ s210 : Value, ∀ s211 : Value, ∀ s212 : Value, ∀ s143 : Value, ∀ s144 : Value, ∀ s111 : Value, ∀ s112 : Value, ∀ s14 : Value, ((AS.asBool s4 fun t4 => AS.asInt .i64 s14 fun t14 => I n t4 t14 H) → wpCode en L_crossbarlaw08_SmemApart_1 [[(4, (.bool false))]] [(.slice t0 t0l 0), (.agg #[(.int .i64 t1_0), (.int .i64 t1_1), (.int .i64 t1_2), (.int .i64 t1_3), (.int .u64 t1_4), (.int .u64 t1_5), (.int .u64 t1_6)]), undef, (.pointer (some ⟨t3, 0, none⟩)), s4, (.pointer t5), (.int .i64 t6), t7, t8, t9, (.int .i64 t10), (.slice t11 t11l 0), (.pointer (some ⟨t12, 0, none⟩)), (.slice t13 t13l 0), s14, s15, s16, s17, s18, s19, (.pointer t20), (.pointer t21), (.bool t22), (.bool false), (.slice t24 t24l 0), (.int .i64 t25), (.bool t26), (.bool false), undef, undef, undef, undef, undef, t33, t34, t35, t36, t37, t38, t39, t40, t41, t42, t43, t44, t45, t46, t47, t48, t49, t50, t51, t52, t53, t54, t55, t56, t57, t58, t59, t60, t61, t62, t63, (.pointer (some ⟨t64, 0, none⟩)), (.int .i64 t65), (.int .i64 t66), t67, t68, t69, t70, t71, t72, (.pointer t73), (.int .i64 t74), (.slice t75 t75l 0), (.pointer t76), (.agg #[(.int .i64 t77_0), (.int .i64 t77_1), (.int .i64 t77_2), (.int .i64 t77_3), (.int .u64 t77_4), (.int .u64 t77_5), (.int .u64 t77_6)]), (.agg #[(.int .u64 t78_0), (.bool t78_1), (.int .i64 t78_2), (.int .i64 t78_3)]), (.pointer t79), (.int .i64 t80), (.int .i64 t81), (.slice t82 t82l 0), t83, t84, t85, t86, t87, t88, t89, t90, t91, t92, t93, t94, t95, t96, t97, t98, t99, t100, t101, t102, t103, t104, t105, t106, t107, s108, s109, s110, s111, s112, s113, s114, s115, s116, s117, s118, s119, s120, s121, s122, s123, s124, s125, s126, s127, s128, s129, s130, s131, s132, s133, s134, s135, s136, s137, s138, s139, s140, s141, s142, s143, s144, s145, s146, s147, s148, s149, s150, s151, s152, s153, s154, s155, s156, s157, s158, s159, s160, s161, s162, s163, s164, s165, s166, s167, s168, s169, s170, s171, s172, s173, s174, s175, s176, s177, s178, s179, s180, s181, s182, s183, s184, s185, s186, s187, s188, s189, s190, s191, s192, s193, s194, s195, s196, s197, s198, s199, s200, s201, s202, s203, s204, s205, s206, s207, s208, s209, s210, s211, s212, undef] H (loopQ (fun m xs H' => AS.asBool (xs.getD 4 undef) fun t4 => AS.asInt .i64 (xs.getD 14 undef) fun t14 => I m t4 t14 H') n [(X.exit 2, K0), (X.ret, K1), (X.ret, K2)])) by
      apply turnInto hs
      kernel_rfl
    intro s108 s109 s110 s113 s114 s115 s116 s117 s15 s118 s119 s120 s121 s122 s16 s123 s124 s125 s126 s127 s128 s129 s130 s131 s132 s133 s4 s134 s135 s136 s137 s138 s17 s139 s140 s141 s142 s145 s146 s18 s147 s148 s149 s150 s151 s152 s153 s154 s155 s156 s157 s158 s159 s160 s161 s162 s19 s163 s164 s165 s166 s167 s168 s169 s170 s171 s172 s173 s174 s175 s176 s177 s178 s179 s180 s181 s182 s183 s184 s185 s186 s187 s188 s189 s190 s191 s192 s193 s194 s195 s196 s197 s198 s199 s200 s201 s202 s203 s204 s205 s206 s207 s208 s209 s210 s211 s212 s143 s144 s111 s112 s14 hP
    replace hP := asBool_elim hP
    obtain ⟨t4, rfl, hP⟩ := hP
    replace hP := asInt_elim hP
    obtain ⟨t14, rfl, hP⟩ := hP
    apply turnInto (hstep n t4 t14 [(.slice t0 t0l 0), (.agg #[(.int .i64 t1_0), (.int .i64 t1_1), (.int .i64 t1_2), (.int .i64 t1_3), (.int .u64 t1_4), (.int .u64 t1_5), (.int .u64 t1_6)]), undef, (.pointer (some ⟨t3, 0, none⟩)), (.bool t4), (.pointer t5), (.int .i64 t6), t7, t8, t9, (.int .i64 t10), (.slice t11 t11l 0), (.pointer (some ⟨t12, 0, none⟩)), (.slice t13 t13l 0), (.int .i64 t14), s15, s16, s17, s18, s19, (.pointer t20), (.pointer t21), (.bool t22), (.bool false), (.slice t24 t24l 0), (.int .i64 t25), (.bool t26), (.bool false), undef, undef, undef, undef, undef, t33, t34, t35, t36, t37, t38, t39, t40, t41, t42, t43, t44, t45, t46, t47, t48, t49, t50, t51, t52, t53, t54, t55, t56, t57, t58, t59, t60, t61, t62, t63, (.pointer (some ⟨t64, 0, none⟩)), (.int .i64 t65), (.int .i64 t66), t67, t68, t69, t70, t71, t72, (.pointer t73), (.int .i64 t74), (.slice t75 t75l 0), (.pointer t76), (.agg #[(.int .i64 t77_0), (.int .i64 t77_1), (.int .i64 t77_2), (.int .i64 t77_3), (.int .u64 t77_4), (.int .u64 t77_5), (.int .u64 t77_6)]), (.agg #[(.int .u64 t78_0), (.bool t78_1), (.int .i64 t78_2), (.int .i64 t78_3)]), (.pointer t79), (.int .i64 t80), (.int .i64 t81), (.slice t82 t82l 0), t83, t84, t85, t86, t87, t88, t89, t90, t91, t92, t93, t94, t95, t96, t97, t98, t99, t100, t101, t102, t103, t104, t105, t106, t107, s108, s109, s110, s111, s112, s113, s114, s115, s116, s117, s118, s119, s120, s121, s122, s123, s124, s125, s126, s127, s128, s129, s130, s131, s132, s133, s134, s135, s136, s137, s138, s139, s140, s141, s142, s143, s144, s145, s146, s147, s148, s149, s150, s151, s152, s153, s154, s155, s156, s157, s158, s159, s160, s161, s162, s163, s164, s165, s166, s167, s168, s169, s170, s171, s172, s173, s174, s175, s176, s177, s178, s179, s180, s181, s182, s183, s184, s185, s186, s187, s188, s189, s190, s191, s192, s193, s194, s195, s196, s197, s198, s199, s200, s201, s202, s203, s204, s205, s206, s207, s208, s209, s210, s211, s212, undef] H hP)
    kernel_rfl
  · apply turnInto h0
    kernel_rfl

/-! crossbarlaw08_SmemPlays -/
noncomputable def L_crossbarlaw08_SmemPlays_0 : Code := loopAt Go.Proofs.Try.f10 0

theorem vc_crossbarlaw08_SmemPlays (x0 : Int) (x1 : Option Addr) (x1l : Nat) (H : Heap) (R : Value → Heap → Prop) :
    (
 CA en F.smem_New [(.int .i64 x0)] H fun v1 H2 =>
 ∃ a3, v1 = (.pointer a3) ∧
 bif a3.isNone then (
 bif (!a3.isNone) then (
 CA en F.crossbarlaw08_known [] H2 fun v4 H5 =>
 ∃ b6, v4 = (.bool b6) ∧
 R (.bool b6) H5)
 else (
 R (.bool false) H2))
 else (
 bif (decide (((x1l : Nat) : Int) > 300)) then (
 bif (!a3.isNone) then (
 CA en F.crossbarlaw08_known [] H2 fun v7 H8 =>
 ∃ b9, v7 = (.bool b9) ∧
 R (.bool b9) H8)
 else (
 R (.bool false) H2))
 else (
 CA en F.crossbarref08_New [(.int .i64 x0)] H2 fun v10 H11 =>
 ∃ a12, v10 = (.pointer a12) ∧
 LA en L_crossbarlaw08_SmemPlays_0 [(.int .i64 x0), (.slice x1 x1l 0), undef, undef, (.bool false), (.pointer a3), (.pointer a12), (.int .i64 0), (.int .i64 x0), (.pointer a3), (.pointer a3), (.bool a3.isNone), (.bool false), (.slice x1 x1l 0), (.int .i64 ((x1l : Nat) : Int)), (.bool (decide (((x1l : Nat) : Int) > 300))), (.bool false), undef, undef, undef, undef, undef, (.int .i64 x0), (.pointer a12), undef, undef, undef, undef, undef, undef, undef, undef, undef, undef, undef, undef, undef, undef, undef, undef, undef, undef, undef, undef, undef, undef, undef, undef, undef, undef, undef, undef, undef, undef, undef, undef, undef, undef, undef, undef, undef, undef, undef, undef, undef, undef, undef, undef, undef, undef, undef, undef, undef, undef, undef, undef, undef, undef, undef, undef, undef, undef, undef, undef, undef, undef, undef, undef, undef] H11 [(X.exit 0, fun (x13 : Fr) (H14 : Heap) =>
 AS.asBool (x13.getD 4 undef) fun b15 =>
 CA en F.crossbarlaw08_known [] H14 fun v16 H17 =>
 ∃ b18, v16 = (.bool b18) ∧
 R (.bool b18) H17),
 (X.ret, fun (x19 : Fr) (H20 : Heap) =>
 AS.asBool (x19.getD 4 undef) fun b21 =>
 R (.bool b21) H20)]))) →
    CA en F.crossbarlaw08_SmemPlays [(.int .i64 x0), (.slice x1 x1l 0)] H R := by
  intro h
  refine wpFn_ok (Z := [[(4, (.bool false))]]) (fn := Go.Proofs.Try.f10) ?_ ?_ ?_
  · kernel_rfl
  · kernel_rfl
  · apply turnInto h
    kernel_rfl

theorem use_crossbarlaw08_SmemPlays_0 {t0 : Int} {t1 : Option Addr} {t1l : Nat} {t5 : Option Addr} {t6 : Option Addr} {t8 : Int} {t9 : Option Addr} {t10 : Option Addr} {t11 : Bool} {t13 : Option Addr} {t13l : Nat} {t14 : Int} {t15 : Bool} {t22 : Int} {t23 : Option Addr} {K0 : Fr → Heap → Prop} {K1 : Fr → Heap → Prop} {t4 : Bool} {t7 : Int} {t24 : Value} {t25 : Value} {t26 : Value} {t27 : Value} {t28 : Value} {t29 : Value} {t30 : Value} {t31 : Value} {t32 : Value} {t33 : Value} {t34 : Value} {t35 : Value} {t36 : Value} {t37 : Value} {t38 : Value} {t39 : Value} {t40 : Value} {t41 : Value} {t42 : Value} {t43 : Value} {t44 : Value} {t45 : Value} {t46 : Value} {t47 : Value} {t48 : Value} {t49 : Value} {t50 : Value} {t51 : Value} {t52 : Value} {t53 : Value} {t54 : Value} {t55 : Value} {t56 : Value} {t57 : Value} {t58 : Value} {t59 : Value} {t60 : Value} {t61 : Value} {t62 : Value} {t63 : Value} {t64 : Value} {t65 : Value} {t66 : Value} {t67 : Value} {t68 : Value} {t69 : Value} {t70 : Value} {t71 : Value} {t72 : Value} {t73 : Value} {t74 : Value} {t75 : Value} {t76 : Value} {t77 : Value} {t78 : Value} {t79 : Value} {t80 : Value} {t81 : Value} {t82 : Value} {t83 : Value} {t84 : Value} {t85 : Value} {t86 : Value} {t87 : Value} {H : Heap} (I : Nat → Bool → Int → Heap → Prop) (n : Nat) (h0 : I n t4 t7 H)
    (hstep : ∀ (n : Nat) (t4 : Bool) (t7 : Int) (ys : Fr) (H : Heap), I n t4 t7 H →
    (
 bif (decide (t7 < ((t1l : Nat) : Int))) then (
 inB t7 t1l ∧
 asRow t1 fun i1 i2 =>
 ∃ n3, ∃ n4, ∃ n5, ∃ n6, ∃ n7, ∃ n8, ∃ n9, (H.bump 58).cellsAt i1 (i2 + (t7.toNat * 7)) 7 = some [(.int .i64 n3), (.int .i64 n4), (.int .i64 n5), (.int .i64 n6), (.int .u64 n7), (.int .u64 n8), (.int .u64 n9)] ∧
 CA en F.crossbarlaw08_does [(.pointer t5), (.agg #[(.int .i64 n3), (.int .i64 n4), (.int .i64 n5), (.int .i64 n6), (.int .u64 n7), (.int .u64 n8), (.int .u64 n9)])] (H.bump 58) fun v10 H11 =>
 ∃ n12, ∃ b13, ∃ n14, ∃ n15, v10 = (.agg #[(.int .u64 n12), (.bool b13), (.int .i64 n14), (.int .i64 n15)]) ∧
 inB t7 t1l ∧
 asRow t1 fun i16 i17 =>
 ∃ n18, ∃ n19, ∃ n20, ∃ n21, ∃ n22, ∃ n23, ∃ n24, H11.cellsAt i16 (i17 + (t7.toNat * 7)) 7 = some [(.int .i64 n18), (.int .i64 n19), (.int .i64 n20), (.int .i64 n21), (.int .u64 n22), (.int .u64 n23), (.int .u64 n24)] ∧
 CA en F.crossbarlaw08_should [(.pointer t6), (.agg #[(.int .i64 n18), (.int .i64 n19), (.int .i64 n20), (.int .i64 n21), (.int .u64 n22), (.int .u64 n23), (.int .u64 n24)])] H11 fun v25 H26 =>
 ∃ n27, ∃ b28, ∃ n29, ∃ n30, v25 = (.agg #[(.int .u64 n27), (.bool b28), (.int .i64 n29), (.int .i64 n30)]) ∧
 bif (!((n12 == n27) && ((b13 == b28) && ((n14 == n29) && (n15 == n30))))) then (
 (
 K1 [(.int .i64 t0), (.slice t1 t1l 0), undef, undef, (.bool false), (.pointer t5), (.pointer t6), (.int .i64 t7), (.int .i64 t8), (.pointer t9), (.pointer t10), (.bool t11), (.bool false), (.slice t13 t13l 0), (.int .i64 t14), (.bool t15), (.bool false), undef, undef, undef, undef, undef, (.int .i64 t22), (.pointer t23), (.int .i64 t7), (.slice t1 t1l 0), (.int .i64 ((t1l : Nat) : Int)), (.bool true), (ys.getD 28 undef), (ys.getD 29 undef), (.pointer t5), (.slice t1 t1l 0), (.int .i64 t7), (.pointer (some ⟨i1, (i2 + (t7.toNat * 7)), none⟩)), (.agg #[(.int .i64 n3), (.int .i64 n4), (.int .i64 n5), (.int .i64 n6), (.int .u64 n7), (.int .u64 n8), (.int .u64 n9)]), (.agg #[(.int .u64 n12), (.bool b13), (.int .i64 n14), (.int .i64 n15)]), (.pointer t6), (.slice t1 t1l 0), (.int .i64 t7), (.pointer (some ⟨i16, (i17 + (t7.toNat * 7)), none⟩)), (.agg #[(.int .i64 n18), (.int .i64 n19), (.int .i64 n20), (.int .i64 n21), (.int .u64 n22), (.int .u64 n23), (.int .u64 n24)]), (.agg #[(.int .u64 n27), (.bool b28), (.int .i64 n29), (.int .i64 n30)]), (.bool (!((n12 == n27) && ((b13 == b28) && ((n14 == n29) && (n15 == n30)))))), (.bool true), undef, undef, undef, undef, undef, (.bool true), (.bool true), undef, undef, undef, undef, undef, (.bool true), (.bool true), undef, undef, undef, undef, undef, (.bool true), (.bool true), undef, undef, undef, undef, undef, (.bool true), (.bool true), undef, undef, undef, undef, undef, undef, undef, undef, undef, undef, undef, undef, undef, undef, undef, (.bool true), undef] H26) ∧
 ((∃ n38, ∃ n39, ∃ n40, ∃ n41, ∃ n42, ∃ n43, ∃ n44, (H.bump 58).cellsAt i16 (i17 + (t7.toNat * 7)) 7 = some [(.int .i64 n38), (.int .i64 n39), (.int .i64 n40), (.int .i64 n41), (.int .u64 n42), (.int .u64 n43), (.int .u64 n44)] ∧
 sameN 8 (.agg #[(.int .i64 n18), (.int .i64 n19), (.int .i64 n20), (.int .i64 n21), (.int .u64 n22), (.int .u64 n23), (.int .u64 n24)]) (.agg #[(.int .i64 n38), (.int .i64 n39), (.int .i64 n40), (.int .i64 n41), (.int .u64 n42), (.int .u64 n43), (.int .u64 n44)]) = true) ∧ (∃ n31, ∃ n32, ∃ n33, ∃ n34, ∃ n35, ∃ n36, ∃ n37, H11.cellsAt i16 (i17 + (t7.toNat * 7)) 7 = some [(.int .i64 n31), (.int .i64 n32), (.int .i64 n33), (.int .i64 n34), (.int .u64 n35), (.int .u64 n36), (.int .u64 n37)] ∧
 sameN 8 (.agg #[(.int .i64 n18), (.int .i64 n19), (.int .i64 n20), (.int .i64 n21), (.int .u64 n22), (.int .u64 n23), (.int .u64 n24)]) (.agg #[(.int .i64 n31), (.int .i64 n32), (.int .i64 n33), (.int .i64 n34), (.int .u64 n35), (.int .u64 n36), (.int .u64 n37)]) = true) ∧ True) ∧
 True)
 else (
 CA en F.smem_Mem_Room [(.pointer t5)] H26 fun v45 H46 =>
 ∃ n47, v45 = (.int .i64 n47) ∧
 CA en F.crossbarref08_Mem_Room [(.pointer t6)] H46 fun v48 H49 =>
 ∃ n50, v48 = (.int .i64 n50) ∧
 bif (n47 != n50) then (
 (
 K1 [(.int .i64 t0), (.slice t1 t1l 0), undef, undef, (.bool false), (.pointer t5), (.pointer t6), (.int .i64 t7), (.int .i64 t8), (.pointer t9), (.pointer t10), (.bool t11), (.bool false), (.slice t13 t13l 0), (.int .i64 t14), (.bool t15), (.bool false), undef, undef, undef, undef, undef, (.int .i64 t22), (.pointer t23), (.int .i64 t7), (.slice t1 t1l 0), (.int .i64 ((t1l : Nat) : Int)), (.bool true), (ys.getD 28 undef), (ys.getD 29 undef), (.pointer t5), (.slice t1 t1l 0), (.int .i64 t7), (.pointer (some ⟨i1, (i2 + (t7.toNat * 7)), none⟩)), (.agg #[(.int .i64 n3), (.int .i64 n4), (.int .i64 n5), (.int .i64 n6), (.int .u64 n7), (.int .u64 n8), (.int .u64 n9)]), (.agg #[(.int .u64 n12), (.bool b13), (.int .i64 n14), (.int .i64 n15)]), (.pointer t6), (.slice t1 t1l 0), (.int .i64 t7), (.pointer (some ⟨i16, (i17 + (t7.toNat * 7)), none⟩)), (.agg #[(.int .i64 n18), (.int .i64 n19), (.int .i64 n20), (.int .i64 n21), (.int .u64 n22), (.int .u64 n23), (.int .u64 n24)]), (.agg #[(.int .u64 n27), (.bool b28), (.int .i64 n29), (.int .i64 n30)]), (.bool (!((n12 == n27) && ((b13 == b28) && ((n14 == n29) && (n15 == n30)))))), (.bool false), (.pointer t5), (.int .i64 n47), (.pointer t6), (.int .i64 n50), (.bool (n47 != n50)), (.bool (n47 != n50)), (.bool true), undef, undef, undef, undef, undef, (.bool true), (.bool true), undef, undef, undef, undef, undef, (.bool true), (.bool true), undef, undef, undef, undef, undef, (.bool true), (.bool true), undef, undef, undef, undef, undef, undef, undef, undef, undef, undef, undef, undef, undef, undef, undef, (.bool true), undef] H49) ∧
 ((∃ n58, ∃ n59, ∃ n60, ∃ n61, ∃ n62, ∃ n63, ∃ n64, (H.bump 58).cellsAt i16 (i17 + (t7.toNat * 7)) 7 = some [(.int .i64 n58), (.int .i64 n59), (.int .i64 n60), (.int .i64 n61), (.int .u64 n62), (.int .u64 n63), (.int .u64 n64)] ∧
 sameN 8 (.agg #[(.int .i64 n18), (.int .i64 n19), (.int .i64 n20), (.int .i64 n21), (.int .u64 n22), (.int .u64 n23), (.int .u64 n24)]) (.agg #[(.int .i64 n58), (.int .i64 n59), (.int .i64 n60), (.int .i64 n61), (.int .u64 n62), (.int .u64 n63), (.int .u64 n64)]) = true) ∧ (∃ n51, ∃ n52, ∃ n53, ∃ n54, ∃ n55, ∃ n56, ∃ n57, H11.cellsAt i16 (i17 + (t7.toNat * 7)) 7 = some [(.int .i64 n51), (.int .i64 n52), (.int .i64 n53), (.int .i64 n54), (.int .u64 n55), (.int .u64 n56), (.int .u64 n57)] ∧
 sameN 8 (.agg #[(.int .i64 n18), (.int .i64 n19), (.int .i64 n20), (.int .i64 n21), (.int .u64 n22), (.int .u64 n23), (.int .u64 n24)]) (.agg #[(.int .i64 n51), (.int .i64 n52), (.int .i64 n53), (.int .i64 n54), (.int .u64 n55), (.int .u64 n56), (.int .u64 n57)]) = true) ∧ True) ∧
 True)
 else (
 CA en F.smem_Mem_Live [(.pointer t5)] H49 fun v65 H66 =>
 ∃ n67, v65 = (.int .i64 n67) ∧
 CA en F.crossbarref08_Mem_Live [(.pointer t6)] H66 fun v68 H69 =>
 ∃ n70, v68 = (.int .i64 n70) ∧
 bif (n67 != n70) then (
 (
 K1 [(.int .i64 t0), (.slice t1 t1l 0), undef, undef, (.bool false), (.pointer t5), (.pointer t6), (.int .i64 t7), (.int .i64 t8), (.pointer t9), (.pointer t10), (.bool t11), (.bool false), (.slice t13 t13l 0), (.int .i64 t14), (.bool t15), (.bool false), undef, undef, undef, undef, undef, (.int .i64 t22), (.pointer t23), (.int .i64 t7), (.slice t1 t1l 0), (.int .i64 ((t1l : Nat) : Int)), (.bool true), (ys.getD 28 undef), (ys.getD 29 undef), (.pointer t5), (.slice t1 t1l 0), (.int .i64 t7), (.pointer (some ⟨i1, (i2 + (t7.toNat * 7)), none⟩)), (.agg #[(.int .i64 n3), (.int .i64 n4), (.int .i64 n5), (.int .i64 n6), (.int .u64 n7), (.int .u64 n8), (.int .u64 n9)]), (.agg #[(.int .u64 n12), (.bool b13), (.int .i64 n14), (.int .i64 n15)]), (.pointer t6), (.slice t1 t1l 0), (.int .i64 t7), (.pointer (some ⟨i16, (i17 + (t7.toNat * 7)), none⟩)), (.agg #[(.int .i64 n18), (.int .i64 n19), (.int .i64 n20), (.int .i64 n21), (.int .u64 n22), (.int .u64 n23), (.int .u64 n24)]), (.agg #[(.int .u64 n27), (.bool b28), (.int .i64 n29), (.int .i64 n30)]), (.bool (!((n12 == n27) && ((b13 == b28) && ((n14 == n29) && (n15 == n30)))))), (.bool false), (.pointer t5), (.int .i64 n47), (.pointer t6), (.int .i64 n50), (.bool (n47 != n50)), (.bool (n47 != n50)), (.bool false), (.pointer t5), (.int .i64 n67), (.pointer t6), (.int .i64 n70), (.bool (n67 != n70)), (.bool (n67 != n70)), (.bool true), undef, undef, undef, undef, undef, (.bool true), (.bool true), undef, undef, undef, undef, undef, (.bool true), (.bool true), undef, undef, undef, undef, undef, undef, undef, undef, undef, undef, undef, undef, undef, undef, undef, (.bool true), undef] H69) ∧
 ((∃ n78, ∃ n79, ∃ n80, ∃ n81, ∃ n82, ∃ n83, ∃ n84, (H.bump 58).cellsAt i16 (i17 + (t7.toNat * 7)) 7 = some [(.int .i64 n78), (.int .i64 n79), (.int .i64 n80), (.int .i64 n81), (.int .u64 n82), (.int .u64 n83), (.int .u64 n84)] ∧
 sameN 8 (.agg #[(.int .i64 n18), (.int .i64 n19), (.int .i64 n20), (.int .i64 n21), (.int .u64 n22), (.int .u64 n23), (.int .u64 n24)]) (.agg #[(.int .i64 n78), (.int .i64 n79), (.int .i64 n80), (.int .i64 n81), (.int .u64 n82), (.int .u64 n83), (.int .u64 n84)]) = true) ∧ (∃ n71, ∃ n72, ∃ n73, ∃ n74, ∃ n75, ∃ n76, ∃ n77, H11.cellsAt i16 (i17 + (t7.toNat * 7)) 7 = some [(.int .i64 n71), (.int .i64 n72), (.int .i64 n73), (.int .i64 n74), (.int .u64 n75), (.int .u64 n76), (.int .u64 n77)] ∧
 sameN 8 (.agg #[(.int .i64 n18), (.int .i64 n19), (.int .i64 n20), (.int .i64 n21), (.int .u64 n22), (.int .u64 n23), (.int .u64 n24)]) (.agg #[(.int .i64 n71), (.int .i64 n72), (.int .i64 n73), (.int .i64 n74), (.int .u64 n75), (.int .u64 n76), (.int .u64 n77)]) = true) ∧ True) ∧
 True)
 else (
 CA en F.smem_Mem_Count [(.pointer t5)] H69 fun v85 H86 =>
 ∃ n87, v85 = (.int .i64 n87) ∧
 CA en F.crossbarref08_Mem_Count [(.pointer t6)] H86 fun v88 H89 =>
 ∃ n90, v88 = (.int .i64 n90) ∧
 bif (n87 != n90) then (
 (
 K1 [(.int .i64 t0), (.slice t1 t1l 0), undef, undef, (.bool false), (.pointer t5), (.pointer t6), (.int .i64 t7), (.int .i64 t8), (.pointer t9), (.pointer t10), (.bool t11), (.bool false), (.slice t13 t13l 0), (.int .i64 t14), (.bool t15), (.bool false), undef, undef, undef, undef, undef, (.int .i64 t22), (.pointer t23), (.int .i64 t7), (.slice t1 t1l 0), (.int .i64 ((t1l : Nat) : Int)), (.bool true), (ys.getD 28 undef), (ys.getD 29 undef), (.pointer t5), (.slice t1 t1l 0), (.int .i64 t7), (.pointer (some ⟨i1, (i2 + (t7.toNat * 7)), none⟩)), (.agg #[(.int .i64 n3), (.int .i64 n4), (.int .i64 n5), (.int .i64 n6), (.int .u64 n7), (.int .u64 n8), (.int .u64 n9)]), (.agg #[(.int .u64 n12), (.bool b13), (.int .i64 n14), (.int .i64 n15)]), (.pointer t6), (.slice t1 t1l 0), (.int .i64 t7), (.pointer (some ⟨i16, (i17 + (t7.toNat * 7)), none⟩)), (.agg #[(.int .i64 n18), (.int .i64 n19), (.int .i64 n20), (.int .i64 n21), (.int .u64 n22), (.int .u64 n23), (.int .u64 n24)]), (.agg #[(.int .u64 n27), (.bool b28), (.int .i64 n29), (.int .i64 n30)]), (.bool (!((n12 == n27) && ((b13 == b28) && ((n14 == n29) && (n15 == n30)))))), (.bool false), (.pointer t5), (.int .i64 n47), (.pointer t6), (.int .i64 n50), (.bool (n47 != n50)), (.bool (n47 != n50)), (.bool false), (.pointer t5), (.int .i64 n67), (.pointer t6), (.int .i64 n70), (.bool (n67 != n70)), (.bool (n67 != n70)), (.bool false), (.pointer t5), (.int .i64 n87), (.pointer t6), (.int .i64 n90), (.bool (n87 != n90)), (.bool (n87 != n90)), (.bool true), undef, undef, undef, undef, undef, (.bool true), (.bool true), undef, undef, undef, undef, undef, undef, undef, undef, undef, undef, undef, undef, undef, undef, undef, (.bool true), undef] H89) ∧
 ((∃ n98, ∃ n99, ∃ n100, ∃ n101, ∃ n102, ∃ n103, ∃ n104, (H.bump 58).cellsAt i16 (i17 + (t7.toNat * 7)) 7 = some [(.int .i64 n98), (.int .i64 n99), (.int .i64 n100), (.int .i64 n101), (.int .u64 n102), (.int .u64 n103), (.int .u64 n104)] ∧
 sameN 8 (.agg #[(.int .i64 n18), (.int .i64 n19), (.int .i64 n20), (.int .i64 n21), (.int .u64 n22), (.int .u64 n23), (.int .u64 n24)]) (.agg #[(.int .i64 n98), (.int .i64 n99), (.int .i64 n100), (.int .i64 n101), (.int .u64 n102), (.int .u64 n103), (.int .u64 n104)]) = true) ∧ (∃ n91, ∃ n92, ∃ n93, ∃ n94, ∃ n95, ∃ n96, ∃ n97, H11.cellsAt i16 (i17 + (t7.toNat * 7)) 7 = some [(.int .i64 n91), (.int .i64 n92), (.int .i64 n93), (.int .i64 n94), (.int .u64 n95), (.int .u64 n96), (.int .u64 n97)] ∧
 sameN 8 (.agg #[(.int .i64 n18), (.int .i64 n19), (.int .i64 n20), (.int .i64 n21), (.int .u64 n22), (.int .u64 n23), (.int .u64 n24)]) (.agg #[(.int .i64 n91), (.int .i64 n92), (.int .i64 n93), (.int .i64 n94), (.int .u64 n95), (.int .u64 n96), (.int .u64 n97)]) = true) ∧ True) ∧
 True)
 else (
 CA en F.smem_Mem_Bad [(.pointer t5)] H89 fun v105 H106 =>
 ∃ n107, v105 = (.int .i64 n107) ∧
 CA en F.crossbarref08_Mem_Bad [(.pointer t6)] H106 fun v108 H109 =>
 ∃ n110, v108 = (.int .i64 n110) ∧
 bif (n107 != n110) then (
 (
 K1 [(.int .i64 t0), (.slice t1 t1l 0), undef, undef, (.bool false), (.pointer t5), (.pointer t6), (.int .i64 t7), (.int .i64 t8), (.pointer t9), (.pointer t10), (.bool t11), (.bool false), (.slice t13 t13l 0), (.int .i64 t14), (.bool t15), (.bool false), undef, undef, undef, undef, undef, (.int .i64 t22), (.pointer t23), (.int .i64 t7), (.slice t1 t1l 0), (.int .i64 ((t1l : Nat) : Int)), (.bool true), (ys.getD 28 undef), (ys.getD 29 undef), (.pointer t5), (.slice t1 t1l 0), (.int .i64 t7), (.pointer (some ⟨i1, (i2 + (t7.toNat * 7)), none⟩)), (.agg #[(.int .i64 n3), (.int .i64 n4), (.int .i64 n5), (.int .i64 n6), (.int .u64 n7), (.int .u64 n8), (.int .u64 n9)]), (.agg #[(.int .u64 n12), (.bool b13), (.int .i64 n14), (.int .i64 n15)]), (.pointer t6), (.slice t1 t1l 0), (.int .i64 t7), (.pointer (some ⟨i16, (i17 + (t7.toNat * 7)), none⟩)), (.agg #[(.int .i64 n18), (.int .i64 n19), (.int .i64 n20), (.int .i64 n21), (.int .u64 n22), (.int .u64 n23), (.int .u64 n24)]), (.agg #[(.int .u64 n27), (.bool b28), (.int .i64 n29), (.int .i64 n30)]), (.bool (!((n12 == n27) && ((b13 == b28) && ((n14 == n29) && (n15 == n30)))))), (.bool false), (.pointer t5), (.int .i64 n47), (.pointer t6), (.int .i64 n50), (.bool (n47 != n50)), (.bool (n47 != n50)), (.bool false), (.pointer t5), (.int .i64 n67), (.pointer t6), (.int .i64 n70), (.bool (n67 != n70)), (.bool (n67 != n70)), (.bool false), (.pointer t5), (.int .i64 n87), (.pointer t6), (.int .i64 n90), (.bool (n87 != n90)), (.bool (n87 != n90)), (.bool false), (.pointer t5), (.int .i64 n107), (.pointer t6), (.int .i64 n110), (.bool (n107 != n110)), (.bool (n107 != n110)), (.bool true), undef, undef, undef, undef, undef, undef, undef, undef, undef, undef, undef, undef, undef, undef, undef, (.bool true), undef] H109) ∧
 ((∃ n118, ∃ n119, ∃ n120, ∃ n121, ∃ n122, ∃ n123, ∃ n124, (H.bump 58).cellsAt i16 (i17 + (t7.toNat * 7)) 7 = some [(.int .i64 n118), (.int .i64 n119), (.int .i64 n120), (.int .i64 n121), (.int .u64 n122), (.int .u64 n123), (.int .u64 n124)] ∧
 sameN 8 (.agg #[(.int .i64 n18), (.int .i64 n19), (.int .i64 n20), (.int .i64 n21), (.int .u64 n22), (.int .u64 n23), (.int .u64 n24)]) (.agg #[(.int .i64 n118), (.int .i64 n119), (.int .i64 n120), (.int .i64 n121), (.int .u64 n122), (.int .u64 n123), (.int .u64 n124)]) = true) ∧ (∃ n111, ∃ n112, ∃ n113, ∃ n114, ∃ n115, ∃ n116, ∃ n117, H11.cellsAt i16 (i17 + (t7.toNat * 7)) 7 = some [(.int .i64 n111), (.int .i64 n112), (.int .i64 n113), (.int .i64 n114), (.int .u64 n115), (.int .u64 n116), (.int .u64 n117)] ∧
 sameN 8 (.agg #[(.int .i64 n18), (.int .i64 n19), (.int .i64 n20), (.int .i64 n21), (.int .u64 n22), (.int .u64 n23), (.int .u64 n24)]) (.agg #[(.int .i64 n111), (.int .i64 n112), (.int .i64 n113), (.int .i64 n114), (.int .u64 n115), (.int .u64 n116), (.int .u64 n117)]) = true) ∧ True) ∧
 True)
 else (
 inB t7 t1l ∧
 asRow t1 fun i125 i126 =>
 ∃ n127, H109.cell i125 ((i126 + (t7.toNat * 7)) + 1) = some (.int .i64 n127) ∧
 CA en F.smem_Mem_Size [(.pointer t5), (.int .i64 n127)] H109 fun v128 H129 =>
 ∃ n130, v128 = (.int .i64 n130) ∧
 inB t7 t1l ∧
 asRow t1 fun i131 i132 =>
 ∃ n133, H129.cell i131 ((i132 + (t7.toNat * 7)) + 1) = some (.int .i64 n133) ∧
 CA en F.crossbarref08_Mem_Size [(.pointer t6), (.int .i64 n133)] H129 fun v134 H135 =>
 ∃ n136, v134 = (.int .i64 n136) ∧
 (
 bif (n130 != n136) then (
 K1 [(.int .i64 t0), (.slice t1 t1l 0), undef, undef, (.bool false), (.pointer t5), (.pointer t6), (.int .i64 t7), (.int .i64 t8), (.pointer t9), (.pointer t10), (.bool t11), (.bool false), (.slice t13 t13l 0), (.int .i64 t14), (.bool t15), (.bool false), undef, undef, undef, undef, undef, (.int .i64 t22), (.pointer t23), (.int .i64 t7), (.slice t1 t1l 0), (.int .i64 ((t1l : Nat) : Int)), (.bool true), (ys.getD 28 undef), (ys.getD 29 undef), (.pointer t5), (.slice t1 t1l 0), (.int .i64 t7), (.pointer (some ⟨i1, (i2 + (t7.toNat * 7)), none⟩)), (.agg #[(.int .i64 n3), (.int .i64 n4), (.int .i64 n5), (.int .i64 n6), (.int .u64 n7), (.int .u64 n8), (.int .u64 n9)]), (.agg #[(.int .u64 n12), (.bool b13), (.int .i64 n14), (.int .i64 n15)]), (.pointer t6), (.slice t1 t1l 0), (.int .i64 t7), (.pointer (some ⟨i16, (i17 + (t7.toNat * 7)), none⟩)), (.agg #[(.int .i64 n18), (.int .i64 n19), (.int .i64 n20), (.int .i64 n21), (.int .u64 n22), (.int .u64 n23), (.int .u64 n24)]), (.agg #[(.int .u64 n27), (.bool b28), (.int .i64 n29), (.int .i64 n30)]), (.bool (!((n12 == n27) && ((b13 == b28) && ((n14 == n29) && (n15 == n30)))))), (.bool false), (.pointer t5), (.int .i64 n47), (.pointer t6), (.int .i64 n50), (.bool (n47 != n50)), (.bool (n47 != n50)), (.bool false), (.pointer t5), (.int .i64 n67), (.pointer t6), (.int .i64 n70), (.bool (n67 != n70)), (.bool (n67 != n70)), (.bool false), (.pointer t5), (.int .i64 n87), (.pointer t6), (.int .i64 n90), (.bool (n87 != n90)), (.bool (n87 != n90)), (.bool false), (.pointer t5), (.int .i64 n107), (.pointer t6), (.int .i64 n110), (.bool (n107 != n110)), (.bool (n107 != n110)), (.bool false), (.pointer t5), (.slice t1 t1l 0), (.int .i64 t7), (.pointer (some ⟨i125, (i126 + (t7.toNat * 7)), none⟩)), (.pointer (some ⟨i125, ((i126 + (t7.toNat * 7)) + 1), none⟩)), (.int .i64 n127), (.int .i64 n130), (.pointer t6), (.slice t1 t1l 0), (.int .i64 t7), (.pointer (some ⟨i131, (i132 + (t7.toNat * 7)), none⟩)), (.pointer (some ⟨i131, ((i132 + (t7.toNat * 7)) + 1), none⟩)), (.int .i64 n133), (.int .i64 n136), (.bool (n130 != n136)), (.bool true), undef] H135)
 else (
 ∃ k153, k153 < n ∧
 I k153 t4 (IntKind.i64.wrap (t7 + 1)) H135)) ∧
 ((∃ n138, H109.cell i131 ((i132 + (t7.toNat * 7)) + 1) = some (.int .i64 n138) ∧
 n133 = n138) ∧ (∃ n137, H129.cell i131 ((i132 + (t7.toNat * 7)) + 1) = some (.int .i64 n137) ∧
 n133 = n137) ∧ True) ∧
 ((∃ n146, ∃ n147, ∃ n148, ∃ n149, ∃ n150, ∃ n151, ∃ n152, (H.bump 58).cellsAt i16 (i17 + (t7.toNat * 7)) 7 = some [(.int .i64 n146), (.int .i64 n147), (.int .i64 n148), (.int .i64 n149), (.int .u64 n150), (.int .u64 n151), (.int .u64 n152)] ∧
 sameN 8 (.agg #[(.int .i64 n18), (.int .i64 n19), (.int .i64 n20), (.int .i64 n21), (.int .u64 n22), (.int .u64 n23), (.int .u64 n24)]) (.agg #[(.int .i64 n146), (.int .i64 n147), (.int .i64 n148), (.int .i64 n149), (.int .u64 n150), (.int .u64 n151), (.int .u64 n152)]) = true) ∧ (∃ n139, ∃ n140, ∃ n141, ∃ n142, ∃ n143, ∃ n144, ∃ n145, H11.cellsAt i16 (i17 + (t7.toNat * 7)) 7 = some [(.int .i64 n139), (.int .i64 n140), (.int .i64 n141), (.int .i64 n142), (.int .u64 n143), (.int .u64 n144), (.int .u64 n145)] ∧
 sameN 8 (.agg #[(.int .i64 n18), (.int .i64 n19), (.int .i64 n20), (.int .i64 n21), (.int .u64 n22), (.int .u64 n23), (.int .u64 n24)]) (.agg #[(.int .i64 n139), (.int .i64 n140), (.int .i64 n141), (.int .i64 n142), (.int .u64 n143), (.int .u64 n144), (.int .u64 n145)]) = true) ∧ True) ∧
 True))))))
 else (
 K0 [(.int .i64 t0), (.slice t1 t1l 0), undef, undef, (.bool t4), (.pointer t5), (.pointer t6), (.int .i64 t7), (.int .i64 t8), (.pointer t9), (.pointer t10), (.bool t11), (.bool false), (.slice t13 t13l 0), (.int .i64 t14), (.bool t15), (.bool false), undef, undef, undef, undef, undef, (.int .i64 t22), (.pointer t23), (.int .i64 t7), (.slice t1 t1l 0), (.int .i64 ((t1l : Nat) : Int)), (.bool false), (ys.getD 28 undef), (ys.getD 29 undef), (ys.getD 30 undef), (ys.getD 31 undef), (ys.getD 32 undef), (ys.getD 33 undef), (ys.getD 34 undef), (ys.getD 35 undef), (ys.getD 36 undef), (ys.getD 37 undef), (ys.getD 38 undef), (ys.getD 39 undef), (ys.getD 40 undef), (ys.getD 41 undef), (ys.getD 42 undef), (ys.getD 43 undef), (ys.getD 44 undef), (ys.getD 45 undef), (ys.getD 46 undef), (ys.getD 47 undef), (ys.getD 48 undef), (ys.getD 49 undef), (ys.getD 50 undef), (ys.getD 51 undef), (ys.getD 52 undef), (ys.getD 53 undef), (ys.getD 54 undef), (ys.getD 55 undef), (ys.getD 56 undef), (ys.getD 57 undef), (ys.getD 58 undef), (ys.getD 59 undef), (ys.getD 60 undef), (ys.getD 61 undef), (ys.getD 62 undef), (ys.getD 63 undef), (ys.getD 64 undef), (ys.getD 65 undef), (ys.getD 66 undef), (ys.getD 67 undef), (ys.getD 68 undef), (ys.getD 69 undef), (ys.getD 70 undef), (ys.getD 71 undef), (ys.getD 72 undef), (ys.getD 73 undef), (ys.getD 74 undef), (ys.getD 75 undef), (ys.getD 76 undef), (ys.getD 77 undef), (ys.getD 78 undef), (ys.getD 79 undef), (ys.getD 80 undef), (ys.getD 81 undef), (ys.getD 82 undef), (ys.getD 83 undef), (ys.getD 84 undef), (ys.getD 85 undef), (ys.getD 86 undef), (ys.getD 87 undef), undef] H))) :
    LA en L_crossbarlaw08_SmemPlays_0 [(.int .i64 t0), (.slice t1 t1l 0), undef, undef, (.bool t4), (.pointer t5), (.pointer t6), (.int .i64 t7), (.int .i64 t8), (.pointer t9), (.pointer t10), (.bool t11), (.bool false), (.slice t13 t13l 0), (.int .i64 t14), (.bool t15), (.bool false), undef, undef, undef, undef, undef, (.int .i64 t22), (.pointer t23), t24, t25, t26, t27, t28, t29, t30, t31, t32, t33, t34, t35, t36, t37, t38, t39, t40, t41, t42, t43, t44, t45, t46, t47, t48, t49, t50, t51, t52, t53, t54, t55, t56, t57, t58, t59, t60, t61, t62, t63, t64, t65, t66, t67, t68, t69, t70, t71, t72, t73, t74, t75, t76, t77, t78, t79, t80, t81, t82, t83, t84, t85, t86, t87, undef] H [(X.exit 0, K0), (X.ret, K1)] := by
  refine LA_rule (Z := []) (fun m xs H' => AS.asBool (xs.getD 4 undef) fun t4 => AS.asInt .i64 (xs.getD 7 undef) fun t7 => I m t4 t7 H') ?_ n H ?_
  · intro n H
    suffices hs : ∀ s24 : Value, ∀ s25 : Value, ∀ s26 : Value, ∀ s27 : Value, ∀ s30 : Value, ∀ s31 : Value, ∀ s32 : Value, ∀ s33 : Value, ∀ s34 : Value, ∀ s35 : Value, ∀ s36 : Value, ∀ s37 : Value, ∀ s38 : Value, ∀ s39 : Value, ∀ s40 : Value, ∀ s41 : Value, ∀ s42 : Value, ∀ s43 : Value, ∀ s44 : Value, ∀ s45 : Value, ∀ s46 : Value, ∀ s47 : Value, ∀ s48 : Value, ∀ s49 : Value, ∀ s50 : Value, ∀ s51 : Value, ∀ s52 : Value, ∀ s53 : Value, ∀ s54 : Value, ∀ s55 : Value, ∀ s56 : Value, ∀ s57 : Value, ∀ s58 : Value, ∀ s59 : Value, ∀ s60 : Value, ∀ s61 : Value, ∀ s62 : Value, ∀ s63 : Value, ∀ s64 : Value, ∀ s65 : Value, ∀ s66 : Value, ∀ s67 : Value, ∀ s68 : Value, ∀ s69 : Value, ∀ s70 : Value, ∀ s71 : Value, ∀ s72 : Value, ∀ s73 : Value, ∀ s74 : Value, ∀ s75 : Value, ∀ s76 : Value, ∀ s77 : Value, ∀ s78 : Value, ∀ s79 : Value, ∀ s80 : Value, ∀ s81 : Value, ∀ s82 : Value, ∀ s83 : Value, ∀ s84 : Value, ∀ s85 : Value, ∀ s86 : Value, ∀ s87 : Value, ∀ s4 : Value, ∀ s28 : Value, ∀ s29 : Value, ∀ s7 : Value, ((AS.asBool s4 fun t4 => AS.asInt .i64 s7 fun t7 => I n t4 t7 H) → wpCode en L_crossbarlaw08_SmemPlays_0 [] [(.int .i64 t0), (.slice t1 t1l 0), undef, undef, s4, (.pointer t5), (.pointer t6), s7, (.int .i64 t8), (.pointer t9), (.pointer t10), (.bool t11), (.bool false), (.slice t13 t13l 0), (.int .i64 t14), (.bool t15), (.bool false), undef, undef, undef, undef, undef, (.int .i64 t22), (.pointer t23), s24, s25, s26, s27, s28, s29, s30, s31, s32, s33, s34, s35, s36, s37, s38, s39, s40, s41, s42, s43, s44, s45, s46, s47, s48, s49, s50, s51, s52, s53, s54, s55, s56, s57, s58, s59, s60, s61, s62, s63, s64, s65, s66, s67, s68, s69, s70, s71, s72, s73, s74, s75, s76, s77, s78, s79, s80, s81, s82, s83, s84, s85, s86, s87, undef] H (loopQ (fun m xs H' => AS.asBool (xs.getD 4 undef) fun t4 => AS.asInt .i64 (xs.getD 7 undef) fun t7 => I m t4 t7 H') n [(X.exit 0, K0), (X.ret, K1)])) by
      apply turnInto hs
      kernel_rfl
    intro s24 s25 s26 s27 s30 s31 s32 s33 s34 s35 s36 s37 s38 s39 s40 s41 s42 s43 s44 s45 s46 s47 s48 s49 s50 s51 s52 s53 s54 s55 s56 s57 s58 s59 s60 s61 s62 s63 s64 s65 s66 s67 s68 s69 s70 s71 s72 s73 s74 s75 s76 s77 s78 s79 s80 s81 s82 s83 s84 s85 s86 s87 s4 s28 s29 s7 hP
    replace hP := asBool_elim hP
    obtain ⟨t4, rfl, hP⟩ := hP
    replace hP := asInt_elim hP
    obtain ⟨t7, rfl, hP⟩ := hP
    apply turnInto (hstep n t4 t7 [(.int .i64 t0), (.slice t1 t1l 0), undef, undef, (.bool t4), (.pointer t5), (.pointer t6), (.int .i64 t7), (.int .i64 t8), (.pointer t9), (.pointer t10), (.bool t11), (.bool false), (.slice t13 t13l 0), (.int .i64 t14), (.bool t15), (.bool false), undef, undef, undef, undef, undef, (.int .i64 t22), (.pointer t23), s24, s25, s26, s27, s28, s29, s30, s31, s32, s33, s34, s35, s36, s37, s38, s39, s40, s41, s42, s43, s44, s45, s46, s47, s48, s49, s50, s51, s52, s53, s54, s55, s56, s57, s58, s59, s60, s61, s62, s63, s64, s65, s66, s67, s68, s69, s70, s71, s72, s73, s74, s75, s76, s77, s78, s79, s80, s81, s82, s83, s84, s85, s86, s87, undef] H hP)
    kernel_rfl
  · apply turnInto h0
    kernel_rfl


/-! crossbarlaw08_SmemWhole -/
noncomputable def L_crossbarlaw08_SmemWhole_0 : Code := loopAt Go.Proofs.Try.f11 0
noncomputable def L_crossbarlaw08_SmemWhole_1 : Code := loopAt Go.Proofs.Try.f11 1

theorem vc_crossbarlaw08_SmemWhole (x0 : Int) (x1 : Option Addr) (x1l : Nat) (H : Heap) (R : Value → Heap → Prop) :
    (
 CA en F.smem_New [(.int .i64 x0)] H fun v1 H2 =>
 ∃ a3, v1 = (.pointer a3) ∧
 bif a3.isNone then (
 bif (!a3.isNone) then (
 CA en F.crossbarlaw08_known [] H2 fun v4 H5 =>
 ∃ b6, v4 = (.bool b6) ∧
 R (.bool b6) H5)
 else (
 R (.bool false) H2))
 else (
 bif (decide (((x1l : Nat) : Int) > 300)) then (
 bif (!a3.isNone) then (
 CA en F.crossbarlaw08_known [] H2 fun v7 H8 =>
 ∃ b9, v7 = (.bool b9) ∧
 R (.bool b9) H8)
 else (
 R (.bool false) H2))
 else (
 CA en F.crossbarkit_Cut [(.int .i64 x0), (.int .i64 0), (.int .i64 65536)] H2 fun v10 H11 =>
 ∃ n12, v10 = (.int .i64 n12) ∧
 LA en L_crossbarlaw08_SmemWhole_0 [(.int .i64 x0), (.slice x1 x1l 0), undef, undef, (.bool false), (.pointer a3), (.int .i64 0), (.int .i64 n12), (.int .i64 0), undef, undef, undef, undef, undef, undef, undef, undef, undef, (.int .i64 x0), (.pointer a3), (.pointer a3), (.bool a3.isNone), (.bool false), (.slice x1 x1l 0), (.int .i64 ((x1l : Nat) : Int)), (.bool (decide (((x1l : Nat) : Int) > 300))), (.bool false), undef, undef, undef, undef, undef, (.int .i64 x0), (.int .i64 n12), undef, undef, undef, undef, undef, undef, undef, undef, undef, undef, undef, undef, undef, undef, undef, undef, undef, undef, undef, undef, undef, undef, undef, undef, undef, undef, undef, undef, undef, undef, undef, undef, undef, undef, undef, undef, undef, undef, undef, undef, undef, undef, undef, undef, undef, undef, undef, undef, undef, undef, undef, undef, undef, undef, undef, undef, undef, undef, undef, undef, undef, undef, undef, undef, undef, undef, undef, undef, undef, undef, undef, undef, undef, undef, undef, undef, undef, undef, undef, undef, undef, undef, undef, undef, undef, undef, undef, undef] H11 [(X.exit 0, fun (x13 : Fr) (H14 : Heap) =>
 AS.asBool (x13.getD 4 undef) fun b15 =>
 CA en F.crossbarlaw08_known [] H14 fun v16 H17 =>
 ∃ b18, v16 = (.bool b18) ∧
 R (.bool b18) H17),
 (X.ret, fun (x19 : Fr) (H20 : Heap) =>
 AS.asBool (x19.getD 4 undef) fun b21 =>
 R (.bool b21) H20)]))) →
    CA en F.crossbarlaw08_SmemWhole [(.int .i64 x0), (.slice x1 x1l 0)] H R := by
  intro h
  refine wpFn_ok (Z := [[(4, (.bool false))], [(13, (.int .i64 0)), (14, (.int .i64 0))]]) (fn := Go.Proofs.Try.f11) ?_ ?_ ?_
  · kernel_rfl
  · kernel_rfl
  · apply turnInto h
    kernel_rfl

theorem use_crossbarlaw08_SmemWhole_0 {t0 : Int} {t1 : Option Addr} {t1l : Nat} {t5 : Option Addr} {t7 : Int} {t18 : Int} {t19 : Option Addr} {t20 : Option Addr} {t21 : Bool} {t23 : Option Addr} {t23l : Nat} {t24 : Int} {t25 : Bool} {t32 : Int} {t33 : Int} {K0 : Fr → Heap → Prop} {K1 : Fr → Heap → Prop} {t4 : Bool} {t6 : Int} {t8 : Int} {t9 : Value} {t10 : Value} {t11 : Value} {t12 : Value} {t13 : Value} {t14 : Value} {t15 : Value} {t16 : Value} {t17 : Value} {t34 : Value} {t35 : Value} {t36 : Value} {t37 : Value} {t38 : Value} {t39 : Value} {t40 : Value} {t41 : Value} {t42 : Value} {t43 : Value} {t44 : Value} {t45 : Value} {t46 : Value} {t47 : Value} {t48 : Value} {t49 : Value} {t50 : Value} {t51 : Value} {t52 : Value} {t53 : Value} {t54 : Value} {t55 : Value} {t56 : Value} {t57 : Value} {t58 : Value} {t59 : Value} {t60 : Value} {t61 : Value} {t62 : Value} {t63 : Value} {t64 : Value} {t65 : Value} {t66 : Value} {t67 : Value} {t68 : Value} {t69 : Value} {t70 : Value} {t71 : Value} {t72 : Value} {t73 : Value} {t74 : Value} {t75 : Value} {t76 : Value} {t77 : Value} {t78 : Value} {t79 : Value} {t80 : Value} {t81 : Value} {t82 : Value} {t83 : Value} {t84 : Value} {t85 : Value} {t86 : Value} {t87 : Value} {t88 : Value} {t89 : Value} {t90 : Value} {t91 : Value} {t92 : Value} {t93 : Value} {t94 : Value} {t95 : Value} {t96 : Value} {t97 : Value} {t98 : Value} {t99 : Value} {t100 : Value} {t101 : Value} {t102 : Value} {t103 : Value} {t104 : Value} {t105 : Value} {t106 : Value} {t107 : Value} {t108 : Value} {t109 : Value} {t110 : Value} {t111 : Value} {t112 : Value} {t113 : Value} {t114 : Value} {t115 : Value} {t116 : Value} {t117 : Value} {t118 : Value} {t119 : Value} {t120 : Value} {H : Heap} (I : Nat → Bool → Int → Int → Heap → Prop) (n : Nat) (h0 : I n t4 t6 t8 H)
    (hstep : ∀ (n : Nat) (t4 : Bool) (t6 : Int) (t8 : Int) (ys : Fr) (H : Heap), I n t4 t6 t8 H →
    (
 bif (decide (t8 < ((t1l : Nat) : Int))) then (
 CA en F.smem_Mem_Count [(.pointer t5)] H fun v1 H2 =>
 ∃ n3, v1 = (.int .i64 n3) ∧
 CA en F.smem_Mem_Bad [(.pointer t5)] H2 fun v4 H5 =>
 ∃ n6, v4 = (.int .i64 n6) ∧
 inB t8 t1l ∧
 asRow t1 fun i7 i8 =>
 ∃ n9, ∃ n10, ∃ n11, ∃ n12, ∃ n13, ∃ n14, ∃ n15, H5.cellsAt i7 (i8 + (t8.toNat * 7)) 7 = some [(.int .i64 n9), (.int .i64 n10), (.int .i64 n11), (.int .i64 n12), (.int .u64 n13), (.int .u64 n14), (.int .u64 n15)] ∧
 CA en F.crossbarlaw08_does [(.pointer t5), (.agg #[(.int .i64 n9), (.int .i64 n10), (.int .i64 n11), (.int .i64 n12), (.int .u64 n13), (.int .u64 n14), (.int .u64 n15)])] H5 fun v16 H17 =>
 ∃ n18, ∃ b19, ∃ n20, ∃ n21, v16 = (.agg #[(.int .u64 n18), (.bool b19), (.int .i64 n20), (.int .i64 n21)]) ∧
 nwH H17 (.cells true 0 [(.int .u64 0), (.bool false), (.int .i64 0), (.int .i64 0)]) fun i22 H23 =>
 stc H23 i22 0 [(.int .u64 n18), (.bool b19), (.int .i64 n20), (.int .i64 n21)] fun H24 =>
 inB t8 t1l ∧
 asRow t1 fun i25 i26 =>
 ∃ n27, H24.cell i25 (i26 + (t8.toNat * 7)) = some (.int .i64 n27) ∧
 CA en F.crossbarkit_Pick [(.int .i64 n27), (.int .i64 8)] H24 fun v28 H29 =>
 ∃ n30, v28 = (.int .i64 n30) ∧
 ∃ n31, H29.cell i22 2 = some (.int .i64 n31) ∧
 CA en F.smem_Mem_Room [(.pointer t5)] H29 fun v32 H33 =>
 ∃ n34, v32 = (.int .i64 n34) ∧
 LA en L_crossbarlaw08_SmemWhole_1 [(.int .i64 t0), (.slice t1 t1l 0), undef, undef, (.bool t4), (.pointer t5), (.int .i64 (if n31 > t6 then n31 else t6)), (.int .i64 t7), (.int .i64 t8), (.int .i64 n3), (.int .i64 n6), (.pointer (some ⟨i22, 0, none⟩)), (.int .i64 n30), (.int .i64 n34), (.int .i64 0), (.int .i64 1), (ys.getD 16 undef), (ys.getD 17 undef), (.int .i64 t18), (.pointer t19), (.pointer t20), (.bool t21), (.bool false), (.slice t23 t23l 0), (.int .i64 t24), (.bool t25), (.bool false), undef, undef, undef, undef, undef, (.int .i64 t32), (.int .i64 t33), (.int .i64 t8), (.slice t1 t1l 0), (.int .i64 ((t1l : Nat) : Int)), (.bool true), (ys.getD 38 undef), (ys.getD 39 undef), (.pointer t5), (.int .i64 n3), (.pointer t5), (.int .i64 n6), (.pointer t5), (.slice t1 t1l 0), (.int .i64 t8), (.pointer (some ⟨i7, (i8 + (t8.toNat * 7)), none⟩)), (.agg #[(.int .i64 n9), (.int .i64 n10), (.int .i64 n11), (.int .i64 n12), (.int .u64 n13), (.int .u64 n14), (.int .u64 n15)]), (.agg #[(.int .u64 n18), (.bool b19), (.int .i64 n20), (.int .i64 n21)]), (.slice t1 t1l 0), (.int .i64 t8), (.pointer (some ⟨i25, (i26 + (t8.toNat * 7)), none⟩)), (.pointer (some ⟨i25, (i26 + (t8.toNat * 7)), none⟩)), (.int .i64 n27), (.int .i64 n30), (.int .i64 t6), (.pointer (some ⟨i22, 2, none⟩)), (.int .i64 n31), (.int .i64 (if n31 > t6 then n31 else t6)), (.pointer t5), (.int .i64 n34), (ys.getD 62 undef), (ys.getD 63 undef), (ys.getD 64 undef), (ys.getD 65 undef), (ys.getD 66 undef), (ys.getD 67 undef), (ys.getD 68 undef), (ys.getD 69 undef), (ys.getD 70 undef), (ys.getD 71 undef), (ys.getD 72 undef), (ys.getD 73 undef), (ys.getD 74 undef), (ys.getD 75 undef), (ys.getD 76 undef), (ys.getD 77 undef), (ys.getD 78 undef), (ys.getD 79 undef), (ys.getD 80 undef), (ys.getD 81 undef), (ys.getD 82 undef), (ys.getD 83 undef), (ys.getD 84 undef), (ys.getD 85 undef), (ys.getD 86 undef), (ys.getD 87 undef), (ys.getD 88 undef), (ys.getD 89 undef), (ys.getD 90 undef), (ys.getD 91 undef), (ys.getD 92 undef), (ys.getD 93 undef), (ys.getD 94 undef), (ys.getD 95 undef), (ys.getD 96 undef), (ys.getD 97 undef), (ys.getD 98 undef), (ys.getD 99 undef), (ys.getD 100 undef), (ys.getD 101 undef), (ys.getD 102 undef), (ys.getD 103 undef), (ys.getD 104 undef), (ys.getD 105 undef), (ys.getD 106 undef), (ys.getD 107 undef), (ys.getD 108 undef), (ys.getD 109 undef), (ys.getD 110 undef), (ys.getD 111 undef), (ys.getD 112 undef), (ys.getD 113 undef), (ys.getD 114 undef), (ys.getD 115 undef), (ys.getD 116 undef), (ys.getD 117 undef), (ys.getD 118 undef), (ys.getD 119 undef), (ys.getD 120 undef), undef] H33 [(X.exit 2, fun (x35 : Fr) (H36 : Heap) =>
 AS.asInt .i64 (x35.getD 13 undef) fun n37 =>
 AS.asInt .i64 (x35.getD 14 undef) fun n38 =>
 ∃ J39 : List Value → Heap → Prop, (
 bif (decide (n30 > 1)) then (
 J39 [(.int .i64 1)] H36)
 else (
 J39 [(.int .i64 0)] H36)) ∧
 ∀ (ys40 : Fr) (H41 : Heap), ∀ n42, J39 [(.int .i64 n42)] H41 →
 ∃ J43 : List Value → Heap → Prop, (
 bif (decide (n30 > 1)) then (
 ∃ b44, H41.cell i22 1 = some (.bool b44) ∧
 bif (!b44) then (
 J43 [(.int .i64 1)] H41)
 else (
 J43 [(.int .i64 0)] H41))
 else (
 J43 [(.int .i64 0)] H41)) ∧
 ∀ (ys45 : Fr) (H46 : Heap), ∀ n47, J43 [(.int .i64 n47)] H46 →
 bif (n37 != t7) then (
 K1 [(.int .i64 t0), (.slice t1 t1l 0), undef, undef, (.bool false), (.pointer t5), (.int .i64 (if n31 > t6 then n31 else t6)), (.int .i64 t7), (.int .i64 t8), (.int .i64 n3), (.int .i64 n6), (.pointer (some ⟨i22, 0, none⟩)), (.int .i64 n30), (.int .i64 n37), (.int .i64 n38), (x35.getD 15 undef), (.int .i64 n42), (.int .i64 n47), (.int .i64 t18), (.pointer t19), (.pointer t20), (.bool t21), (.bool false), (.slice t23 t23l 0), (.int .i64 t24), (.bool t25), (.bool false), undef, undef, undef, undef, undef, (.int .i64 t32), (.int .i64 t33), (.int .i64 t8), (.slice t1 t1l 0), (.int .i64 ((t1l : Nat) : Int)), (.bool true), (ys.getD 38 undef), (ys.getD 39 undef), (.pointer t5), (.int .i64 n3), (.pointer t5), (.int .i64 n6), (.pointer t5), (.slice t1 t1l 0), (.int .i64 t8), (.pointer (some ⟨i7, (i8 + (t8.toNat * 7)), none⟩)), (.agg #[(.int .i64 n9), (.int .i64 n10), (.int .i64 n11), (.int .i64 n12), (.int .u64 n13), (.int .u64 n14), (.int .u64 n15)]), (.agg #[(.int .u64 n18), (.bool b19), (.int .i64 n20), (.int .i64 n21)]), (.slice t1 t1l 0), (.int .i64 t8), (.pointer (some ⟨i25, (i26 + (t8.toNat * 7)), none⟩)), (.pointer (some ⟨i25, (i26 + (t8.toNat * 7)), none⟩)), (.int .i64 n27), (.int .i64 n30), (.int .i64 t6), (.pointer (some ⟨i22, 2, none⟩)), (.int .i64 n31), (.int .i64 (if n31 > t6 then n31 else t6)), (.pointer t5), (.int .i64 n34), (x35.getD 62 undef), (x35.getD 63 undef), (x35.getD 64 undef), (x35.getD 65 undef), (x35.getD 66 undef), (x35.getD 67 undef), (x35.getD 68 undef), (x35.getD 69 undef), (x35.getD 70 undef), (x35.getD 71 undef), (x35.getD 72 undef), (x35.getD 73 undef), (x35.getD 74 undef), (x35.getD 75 undef), (x35.getD 76 undef), (x35.getD 77 undef), (ys40.getD 78 undef), (ys40.getD 79 undef), (ys45.getD 80 undef), (ys45.getD 81 undef), (ys45.getD 82 undef), (ys45.getD 83 undef), (ys45.getD 84 undef), (ys45.getD 85 undef), (ys45.getD 86 undef), (.int .i64 n37), (.int .i64 t7), (.bool (n37 != t7)), (.bool true), undef, undef, undef, undef, (.bool true), (.bool true), undef, undef, undef, undef, undef, undef, (.bool true), (.bool true), undef, undef, undef, undef, undef, undef, (.bool true), (.bool true), undef, undef, undef, undef, undef, undef, undef, (.bool true), undef] H46)
 else (
 CA en F.smem_Mem_Live [(.pointer t5)] H46 fun v48 H49 =>
 ∃ n50, v48 = (.int .i64 n50) ∧
 bif (n38 != n50) then (
 K1 [(.int .i64 t0), (.slice t1 t1l 0), undef, undef, (.bool false), (.pointer t5), (.int .i64 (if n31 > t6 then n31 else t6)), (.int .i64 t7), (.int .i64 t8), (.int .i64 n3), (.int .i64 n6), (.pointer (some ⟨i22, 0, none⟩)), (.int .i64 n30), (.int .i64 n37), (.int .i64 n38), (x35.getD 15 undef), (.int .i64 n42), (.int .i64 n47), (.int .i64 t18), (.pointer t19), (.pointer t20), (.bool t21), (.bool false), (.slice t23 t23l 0), (.int .i64 t24), (.bool t25), (.bool false), undef, undef, undef, undef, undef, (.int .i64 t32), (.int .i64 t33), (.int .i64 t8), (.slice t1 t1l 0), (.int .i64 ((t1l : Nat) : Int)), (.bool true), (ys.getD 38 undef), (ys.getD 39 undef), (.pointer t5), (.int .i64 n3), (.pointer t5), (.int .i64 n6), (.pointer t5), (.slice t1 t1l 0), (.int .i64 t8), (.pointer (some ⟨i7, (i8 + (t8.toNat * 7)), none⟩)), (.agg #[(.int .i64 n9), (.int .i64 n10), (.int .i64 n11), (.int .i64 n12), (.int .u64 n13), (.int .u64 n14), (.int .u64 n15)]), (.agg #[(.int .u64 n18), (.bool b19), (.int .i64 n20), (.int .i64 n21)]), (.slice t1 t1l 0), (.int .i64 t8), (.pointer (some ⟨i25, (i26 + (t8.toNat * 7)), none⟩)), (.pointer (some ⟨i25, (i26 + (t8.toNat * 7)), none⟩)), (.int .i64 n27), (.int .i64 n30), (.int .i64 t6), (.pointer (some ⟨i22, 2, none⟩)), (.int .i64 n31), (.int .i64 (if n31 > t6 then n31 else t6)), (.pointer t5), (.int .i64 n34), (x35.getD 62 undef), (x35.getD 63 undef), (x35.getD 64 undef), (x35.getD 65 undef), (x35.getD 66 undef), (x35.getD 67 undef), (x35.getD 68 undef), (x35.getD 69 undef), (x35.getD 70 undef), (x35.getD 71 undef), (x35.getD 72 undef), (x35.getD 73 undef), (x35.getD 74 undef), (x35.getD 75 undef), (x35.getD 76 undef), (x35.getD 77 undef), (ys40.getD 78 undef), (ys40.getD 79 undef), (ys45.getD 80 undef), (ys45.getD 81 undef), (ys45.getD 82 undef), (ys45.getD 83 undef), (ys45.getD 84 undef), (ys45.getD 85 undef), (ys45.getD 86 undef), (.int .i64 n37), (.int .i64 t7), (.bool (n37 != t7)), (.bool false), (.int .i64 n38), (.pointer t5), (.int .i64 n50), (.bool (n38 != n50)), (.bool (n38 != n50)), (.bool true), undef, undef, undef, undef, undef, undef, (.bool true), (.bool true), undef, undef, undef, undef, undef, undef, (.bool true), (.bool true), undef, undef, undef, undef, undef, undef, undef, (.bool true), undef] H49)
 else (
 CA en F.smem_Mem_Count [(.pointer t5)] H49 fun v51 H52 =>
 ∃ n53, v51 = (.int .i64 n53) ∧
 bif (n53 != (IntKind.i64.wrap (n3 + n42))) then (
 K1 [(.int .i64 t0), (.slice t1 t1l 0), undef, undef, (.bool false), (.pointer t5), (.int .i64 (if n31 > t6 then n31 else t6)), (.int .i64 t7), (.int .i64 t8), (.int .i64 n3), (.int .i64 n6), (.pointer (some ⟨i22, 0, none⟩)), (.int .i64 n30), (.int .i64 n37), (.int .i64 n38), (x35.getD 15 undef), (.int .i64 n42), (.int .i64 n47), (.int .i64 t18), (.pointer t19), (.pointer t20), (.bool t21), (.bool false), (.slice t23 t23l 0), (.int .i64 t24), (.bool t25), (.bool false), undef, undef, undef, undef, undef, (.int .i64 t32), (.int .i64 t33), (.int .i64 t8), (.slice t1 t1l 0), (.int .i64 ((t1l : Nat) : Int)), (.bool true), (ys.getD 38 undef), (ys.getD 39 undef), (.pointer t5), (.int .i64 n3), (.pointer t5), (.int .i64 n6), (.pointer t5), (.slice t1 t1l 0), (.int .i64 t8), (.pointer (some ⟨i7, (i8 + (t8.toNat * 7)), none⟩)), (.agg #[(.int .i64 n9), (.int .i64 n10), (.int .i64 n11), (.int .i64 n12), (.int .u64 n13), (.int .u64 n14), (.int .u64 n15)]), (.agg #[(.int .u64 n18), (.bool b19), (.int .i64 n20), (.int .i64 n21)]), (.slice t1 t1l 0), (.int .i64 t8), (.pointer (some ⟨i25, (i26 + (t8.toNat * 7)), none⟩)), (.pointer (some ⟨i25, (i26 + (t8.toNat * 7)), none⟩)), (.int .i64 n27), (.int .i64 n30), (.int .i64 t6), (.pointer (some ⟨i22, 2, none⟩)), (.int .i64 n31), (.int .i64 (if n31 > t6 then n31 else t6)), (.pointer t5), (.int .i64 n34), (x35.getD 62 undef), (x35.getD 63 undef), (x35.getD 64 undef), (x35.getD 65 undef), (x35.getD 66 undef), (x35.getD 67 undef), (x35.getD 68 undef), (x35.getD 69 undef), (x35.getD 70 undef), (x35.getD 71 undef), (x35.getD 72 undef), (x35.getD 73 undef), (x35.getD 74 undef), (x35.getD 75 undef), (x35.getD 76 undef), (x35.getD 77 undef), (ys40.getD 78 undef), (ys40.getD 79 undef), (ys45.getD 80 undef), (ys45.getD 81 undef), (ys45.getD 82 undef), (ys45.getD 83 undef), (ys45.getD 84 undef), (ys45.getD 85 undef), (ys45.getD 86 undef), (.int .i64 n37), (.int .i64 t7), (.bool (n37 != t7)), (.bool false), (.int .i64 n38), (.pointer t5), (.int .i64 n50), (.bool (n38 != n50)), (.bool (n38 != n50)), (.bool false), (.pointer t5), (.int .i64 n53), (.int .i64 n3), (.int .i64 n42), (.int .i64 (IntKind.i64.wrap (n3 + n42))), (.bool (n53 != (IntKind.i64.wrap (n3 + n42)))), (.bool (n53 != (IntKind.i64.wrap (n3 + n42)))), (.bool true), undef, undef, undef, undef, undef, undef, (.bool true), (.bool true), undef, undef, undef, undef, undef, undef, undef, (.bool true), undef] H52)
 else (
 CA en F.smem_Mem_Bad [(.pointer t5)] H52 fun v54 H55 =>
 ∃ n56, v54 = (.int .i64 n56) ∧
 bif (n56 != (IntKind.i64.wrap (n6 + n47))) then (
 K1 [(.int .i64 t0), (.slice t1 t1l 0), undef, undef, (.bool false), (.pointer t5), (.int .i64 (if n31 > t6 then n31 else t6)), (.int .i64 t7), (.int .i64 t8), (.int .i64 n3), (.int .i64 n6), (.pointer (some ⟨i22, 0, none⟩)), (.int .i64 n30), (.int .i64 n37), (.int .i64 n38), (x35.getD 15 undef), (.int .i64 n42), (.int .i64 n47), (.int .i64 t18), (.pointer t19), (.pointer t20), (.bool t21), (.bool false), (.slice t23 t23l 0), (.int .i64 t24), (.bool t25), (.bool false), undef, undef, undef, undef, undef, (.int .i64 t32), (.int .i64 t33), (.int .i64 t8), (.slice t1 t1l 0), (.int .i64 ((t1l : Nat) : Int)), (.bool true), (ys.getD 38 undef), (ys.getD 39 undef), (.pointer t5), (.int .i64 n3), (.pointer t5), (.int .i64 n6), (.pointer t5), (.slice t1 t1l 0), (.int .i64 t8), (.pointer (some ⟨i7, (i8 + (t8.toNat * 7)), none⟩)), (.agg #[(.int .i64 n9), (.int .i64 n10), (.int .i64 n11), (.int .i64 n12), (.int .u64 n13), (.int .u64 n14), (.int .u64 n15)]), (.agg #[(.int .u64 n18), (.bool b19), (.int .i64 n20), (.int .i64 n21)]), (.slice t1 t1l 0), (.int .i64 t8), (.pointer (some ⟨i25, (i26 + (t8.toNat * 7)), none⟩)), (.pointer (some ⟨i25, (i26 + (t8.toNat * 7)), none⟩)), (.int .i64 n27), (.int .i64 n30), (.int .i64 t6), (.pointer (some ⟨i22, 2, none⟩)), (.int .i64 n31), (.int .i64 (if n31 > t6 then n31 else t6)), (.pointer t5), (.int .i64 n34), (x35.getD 62 undef), (x35.getD 63 undef), (x35.getD 64 undef), (x35.getD 65 undef), (x35.getD 66 undef), (x35.getD 67 undef), (x35.getD 68 undef), (x35.getD 69 undef), (x35.getD 70 undef), (x35.getD 71 undef), (x35.getD 72 undef), (x35.getD 73 undef), (x35.getD 74 undef), (x35.getD 75 undef), (x35.getD 76 undef), (x35.getD 77 undef), (ys40.getD 78 undef), (ys40.getD 79 undef), (ys45.getD 80 undef), (ys45.getD 81 undef), (ys45.getD 82 undef), (ys45.getD 83 undef), (ys45.getD 84 undef), (ys45.getD 85 undef), (ys45.getD 86 undef), (.int .i64 n37), (.int .i64 t7), (.bool (n37 != t7)), (.bool false), (.int .i64 n38), (.pointer t5), (.int .i64 n50), (.bool (n38 != n50)), (.bool (n38 != n50)), (.bool false), (.pointer t5), (.int .i64 n53), (.int .i64 n3), (.int .i64 n42), (.int .i64 (IntKind.i64.wrap (n3 + n42))), (.bool (n53 != (IntKind.i64.wrap (n3 + n42)))), (.bool (n53 != (IntKind.i64.wrap (n3 + n42)))), (.bool false), (.pointer t5), (.int .i64 n56), (.int .i64 n6), (.int .i64 n47), (.int .i64 (IntKind.i64.wrap (n6 + n47))), (.bool (n56 != (IntKind.i64.wrap (n6 + n47)))), (.bool (n56 != (IntKind.i64.wrap (n6 + n47)))), (.bool true), undef, undef, undef, undef, undef, undef, undef, (.bool true), undef] H55)
 else (
 bif (n47 == 1) then (
 ∃ n57, H55.cell i22 0 = some (.int .u64 n57) ∧
 bif (n57 != 0) then (
 K1 [(.int .i64 t0), (.slice t1 t1l 0), undef, undef, (.bool false), (.pointer t5), (.int .i64 (if n31 > t6 then n31 else t6)), (.int .i64 t7), (.int .i64 t8), (.int .i64 n3), (.int .i64 n6), (.pointer (some ⟨i22, 0, none⟩)), (.int .i64 n30), (.int .i64 n37), (.int .i64 n38), (x35.getD 15 undef), (.int .i64 n42), (.int .i64 n47), (.int .i64 t18), (.pointer t19), (.pointer t20), (.bool t21), (.bool false), (.slice t23 t23l 0), (.int .i64 t24), (.bool t25), (.bool false), undef, undef, undef, undef, undef, (.int .i64 t32), (.int .i64 t33), (.int .i64 t8), (.slice t1 t1l 0), (.int .i64 ((t1l : Nat) : Int)), (.bool true), (ys.getD 38 undef), (ys.getD 39 undef), (.pointer t5), (.int .i64 n3), (.pointer t5), (.int .i64 n6), (.pointer t5), (.slice t1 t1l 0), (.int .i64 t8), (.pointer (some ⟨i7, (i8 + (t8.toNat * 7)), none⟩)), (.agg #[(.int .i64 n9), (.int .i64 n10), (.int .i64 n11), (.int .i64 n12), (.int .u64 n13), (.int .u64 n14), (.int .u64 n15)]), (.agg #[(.int .u64 n18), (.bool b19), (.int .i64 n20), (.int .i64 n21)]), (.slice t1 t1l 0), (.int .i64 t8), (.pointer (some ⟨i25, (i26 + (t8.toNat * 7)), none⟩)), (.pointer (some ⟨i25, (i26 + (t8.toNat * 7)), none⟩)), (.int .i64 n27), (.int .i64 n30), (.int .i64 t6), (.pointer (some ⟨i22, 2, none⟩)), (.int .i64 n31), (.int .i64 (if n31 > t6 then n31 else t6)), (.pointer t5), (.int .i64 n34), (x35.getD 62 undef), (x35.getD 63 undef), (x35.getD 64 undef), (x35.getD 65 undef), (x35.getD 66 undef), (x35.getD 67 undef), (x35.getD 68 undef), (x35.getD 69 undef), (x35.getD 70 undef), (x35.getD 71 undef), (x35.getD 72 undef), (x35.getD 73 undef), (x35.getD 74 undef), (x35.getD 75 undef), (x35.getD 76 undef), (x35.getD 77 undef), (ys40.getD 78 undef), (ys40.getD 79 undef), (ys45.getD 80 undef), (ys45.getD 81 undef), (ys45.getD 82 undef), (ys45.getD 83 undef), (ys45.getD 84 undef), (ys45.getD 85 undef), (ys45.getD 86 undef), (.int .i64 n37), (.int .i64 t7), (.bool (n37 != t7)), (.bool false), (.int .i64 n38), (.pointer t5), (.int .i64 n50), (.bool (n38 != n50)), (.bool (n38 != n50)), (.bool false), (.pointer t5), (.int .i64 n53), (.int .i64 n3), (.int .i64 n42), (.int .i64 (IntKind.i64.wrap (n3 + n42))), (.bool (n53 != (IntKind.i64.wrap (n3 + n42)))), (.bool (n53 != (IntKind.i64.wrap (n3 + n42)))), (.bool false), (.pointer t5), (.int .i64 n56), (.int .i64 n6), (.int .i64 n47), (.int .i64 (IntKind.i64.wrap (n6 + n47))), (.bool (n56 != (IntKind.i64.wrap (n6 + n47)))), (.bool (n56 != (IntKind.i64.wrap (n6 + n47)))), (.bool false), (.int .i64 n47), (.bool (n47 == 1)), (.bool true), (.pointer (some ⟨i22, 0, none⟩)), (.int .u64 n57), (.bool (n57 != 0)), (.bool (n57 != 0)), (.bool true), undef] H55)
 else (
 ∃ k58, k58 < n ∧
 I k58 t4 (if n31 > t6 then n31 else t6) (IntKind.i64.wrap (t8 + 1)) H55))
 else (
 ∃ k59, k59 < n ∧
 I k59 t4 (if n31 > t6 then n31 else t6) (IntKind.i64.wrap (t8 + 1)) H55))))))])
 else (
 K0 [(.int .i64 t0), (.slice t1 t1l 0), undef, undef, (.bool t4), (.pointer t5), (.int .i64 t6), (.int .i64 t7), (.int .i64 t8), (ys.getD 9 undef), (ys.getD 10 undef), (ys.getD 11 undef), (ys.getD 12 undef), (ys.getD 13 undef), (ys.getD 14 undef), (ys.getD 15 undef), (ys.getD 16 undef), (ys.getD 17 undef), (.int .i64 t18), (.pointer t19), (.pointer t20), (.bool t21), (.bool false), (.slice t23 t23l 0), (.int .i64 t24), (.bool t25), (.bool false), undef, undef, undef, undef, undef, (.int .i64 t32), (.int .i64 t33), (.int .i64 t8), (.slice t1 t1l 0), (.int .i64 ((t1l : Nat) : Int)), (.bool false), (ys.getD 38 undef), (ys.getD 39 undef), (ys.getD 40 undef), (ys.getD 41 undef), (ys.getD 42 undef), (ys.getD 43 undef), (ys.getD 44 undef), (ys.getD 45 undef), (ys.getD 46 undef), (ys.getD 47 undef), (ys.getD 48 undef), (ys.getD 49 undef), (ys.getD 50 undef), (ys.getD 51 undef), (ys.getD 52 undef), (ys.getD 53 undef), (ys.getD 54 undef), (ys.getD 55 undef), (ys.getD 56 undef), (ys.getD 57 undef), (ys.getD 58 undef), (ys.getD 59 undef), (ys.getD 60 undef), (ys.getD 61 undef), (ys.getD 62 undef), (ys.getD 63 undef), (ys.getD 64 undef), (ys.getD 65 undef), (ys.getD 66 undef), (ys.getD 67 undef), (ys.getD 68 undef), (ys.getD 69 undef), (ys.getD 70 undef), (ys.getD 71 undef), (ys.getD 72 undef), (ys.getD 73 undef), (ys.getD 74 undef), (ys.getD 75 undef), (ys.getD 76 undef), (ys.getD 77 undef), (ys.getD 78 undef), (ys.getD 79 undef), (ys.getD 80 undef), (ys.getD 81 undef), (ys.getD 82 undef), (ys.getD 83 undef), (ys.getD 84 undef), (ys.getD 85 undef), (ys.getD 86 undef), (ys.getD 87 undef), (ys.getD 88 undef), (ys.getD 89 undef), (ys.getD 90 undef), (ys.getD 91 undef), (ys.getD 92 undef), (ys.getD 93 undef), (ys.getD 94 undef), (ys.getD 95 undef), (ys.getD 96 undef), (ys.getD 97 undef), (ys.getD 98 undef), (ys.getD 99 undef), (ys.getD 100 undef), (ys.getD 101 undef), (ys.getD 102 undef), (ys.getD 103 undef), (ys.getD 104 undef), (ys.getD 105 undef), (ys.getD 106 undef), (ys.getD 107 undef), (ys.getD 108 undef), (ys.getD 109 undef), (ys.getD 110 undef), (ys.getD 111 undef), (ys.getD 112 undef), (ys.getD 113 undef), (ys.getD 114 undef), (ys.getD 115 undef), (ys.getD 116 undef), (ys.getD 117 undef), (ys.getD 118 undef), (ys.getD 119 undef), (ys.getD 120 undef), undef] H))) :
    LA en L_crossbarlaw08_SmemWhole_0 [(.int .i64 t0), (.slice t1 t1l 0), undef, undef, (.bool t4), (.pointer t5), (.int .i64 t6), (.int .i64 t7), (.int .i64 t8), t9, t10, t11, t12, t13, t14, t15, t16, t17, (.int .i64 t18), (.pointer t19), (.pointer t20), (.bool t21), (.bool false), (.slice t23 t23l 0), (.int .i64 t24), (.bool t25), (.bool false), undef, undef, undef, undef, undef, (.int .i64 t32), (.int .i64 t33), t34, t35, t36, t37, t38, t39, t40, t41, t42, t43, t44, t45, t46, t47, t48, t49, t50, t51, t52, t53, t54, t55, t56, t57, t58, t59, t60, t61, t62, t63, t64, t65, t66, t67, t68, t69, t70, t71, t72, t73, t74, t75, t76, t77, t78, t79, t80, t81, t82, t83, t84, t85, t86, t87, t88, t89, t90, t91, t92, t93, t94, t95, t96, t97, t98, t99, t100, t101, t102, t103, t104, t105, t106, t107, t108, t109, t110, t111, t112, t113, t114, t115, t116, t117, t118, t119, t120, undef] H [(X.exit 0, K0), (X.ret, K1)] := by
  refine LA_ruleC (C := [none, none, none, none, none, none, none, none, none, none, none, none, none, some [(16, (.int .i64 0))], none, none, some [(17, (.int .i64 0))], none, none, none]) (Z := [[(13, (.int .i64 0)), (14, (.int .i64 0))]]) (fun m xs H' => AS.asBool (xs.getD 4 undef) fun t4 => AS.asInt .i64 (xs.getD 6 undef) fun t6 => AS.asInt .i64 (xs.getD 8 undef) fun t8 => I m t4 t6 t8 H') ?_ n H ?_
  · intro n H
    suffices hs : ∀ s34 : Value, ∀ s35 : Value, ∀ s36 : Value, ∀ s37 : Value, ∀ s40 : Value, ∀ s41 : Value, ∀ s9 : Value, ∀ s42 : Value, ∀ s43 : Value, ∀ s10 : Value, ∀ s44 : Value, ∀ s45 : Value, ∀ s46 : Value, ∀ s47 : Value, ∀ s48 : Value, ∀ s49 : Value, ∀ s11 : Value, ∀ s50 : Value, ∀ s51 : Value, ∀ s52 : Value, ∀ s53 : Value, ∀ s54 : Value, ∀ s55 : Value, ∀ s12 : Value, ∀ s56 : Value, ∀ s57 : Value, ∀ s58 : Value, ∀ s59 : Value, ∀ s6 : Value, ∀ s60 : Value, ∀ s61 : Value, ∀ s13 : Value, ∀ s14 : Value, ∀ s15 : Value, ∀ s62 : Value, ∀ s63 : Value, ∀ s64 : Value, ∀ s67 : Value, ∀ s68 : Value, ∀ s69 : Value, ∀ s70 : Value, ∀ s71 : Value, ∀ s72 : Value, ∀ s73 : Value, ∀ s74 : Value, ∀ s75 : Value, ∀ s76 : Value, ∀ s77 : Value, ∀ s65 : Value, ∀ s66 : Value, ∀ s16 : Value, ∀ s78 : Value, ∀ s79 : Value, ∀ s17 : Value, ∀ s80 : Value, ∀ s81 : Value, ∀ s82 : Value, ∀ s83 : Value, ∀ s84 : Value, ∀ s85 : Value, ∀ s86 : Value, ∀ s87 : Value, ∀ s88 : Value, ∀ s89 : Value, ∀ s90 : Value, ∀ s91 : Value, ∀ s92 : Value, ∀ s93 : Value, ∀ s94 : Value, ∀ s95 : Value, ∀ s96 : Value, ∀ s97 : Value, ∀ s98 : Value, ∀ s99 : Value, ∀ s100 : Value, ∀ s101 : Value, ∀ s102 : Value, ∀ s103 : Value, ∀ s104 : Value, ∀ s105 : Value, ∀ s106 : Value, ∀ s107 : Value, ∀ s108 : Value, ∀ s109 : Value, ∀ s110 : Value, ∀ s111 : Value, ∀ s112 : Value, ∀ s113 : Value, ∀ s114 : Value, ∀ s115 : Value, ∀ s116 : Value, ∀ s117 : Value, ∀ s118 : Value, ∀ s119 : Value, ∀ s120 : Value, ∀ s4 : Value, ∀ s38 : Value, ∀ s39 : Value, ∀ s8 : Value, ((AS.asBool s4 fun t4 => AS.asInt .i64 s6 fun t6 => AS.asInt .i64 s8 fun t8 => I n t4 t6 t8 H) → wpCodeC en L_crossbarlaw08_SmemWhole_0 [none, none, none, none, none, none, none, none, none, none, none, none, none, some [(16, (.int .i64 0))], none, none, some [(17, (.int .i64 0))], none, none, none] [[(13, (.int .i64 0)), (14, (.int .i64 0))]] [(.int .i64 t0), (.slice t1 t1l 0), undef, undef, s4, (.pointer t5), s6, (.int .i64 t7), s8, s9, s10, s11, s12, s13, s14, s15, s16, s17, (.int .i64 t18), (.pointer t19), (.pointer t20), (.bool t21), (.bool false), (.slice t23 t23l 0), (.int .i64 t24), (.bool t25), (.bool false), undef, undef, undef, undef, undef, (.int .i64 t32), (.int .i64 t33), s34, s35, s36, s37, s38, s39, s40, s41, s42, s43, s44, s45, s46, s47, s48, s49, s50, s51, s52, s53, s54, s55, s56, s57, s58, s59, s60, s61, s62, s63, s64, s65, s66, s67, s68, s69, s70, s71, s72, s73, s74, s75, s76, s77, s78, s79, s80, s81, s82, s83, s84, s85, s86, s87, s88, s89, s90, s91, s92, s93, s94, s95, s96, s97, s98, s99, s100, s101, s102, s103, s104, s105, s106, s107, s108, s109, s110, s111, s112, s113, s114, s115, s116, s117, s118, s119, s120, undef] H (loopQ (fun m xs H' => AS.asBool (xs.getD 4 undef) fun t4 => AS.asInt .i64 (xs.getD 6 undef) fun t6 => AS.asInt .i64 (xs.getD 8 undef) fun t8 => I m t4 t6 t8 H') n [(X.exit 0, K0), (X.ret, K1)])) by
      apply turnInto hs
      kernel_rfl
    intro s34 s35 s36 s37 s40 s41 s9 s42 s43 s10 s44 s45 s46 s47 s48 s49 s11 s50 s51 s52 s53 s54 s55 s12 s56 s57 s58 s59 s6 s60 s61 s13 s14 s15 s62 s63 s64 s67 s68 s69 s70 s71 s72 s73 s74 s75 s76 s77 s65 s66 s16 s78 s79 s17 s80 s81 s82 s83 s84 s85 s86 s87 s88 s89 s90 s91 s92 s93 s94 s95 s96 s97 s98 s99 s100 s101 s102 s103 s104 s105 s106 s107 s108 s109 s110 s111 s112 s113 s114 s115 s116 s117 s118 s119 s120 s4 s38 s39 s8 hP
    replace hP := asBool_elim hP
    obtain ⟨t4, rfl, hP⟩ := hP
    replace hP := asInt_elim hP
    obtain ⟨t6, rfl, hP⟩ := hP
    replace hP := asInt_elim hP
    obtain ⟨t8, rfl, hP⟩ := hP
    apply turnInto (hstep n t4 t6 t8 [(.int .i64 t0), (.slice t1 t1l 0), undef, undef, (.bool t4), (.pointer t5), (.int .i64 t6), (.int .i64 t7), (.int .i64 t8), s9, s10, s11, s12, s13, s14, s15, s16, s17, (.int .i64 t18), (.pointer t19), (.pointer t20), (.bool t21), (.bool false), (.slice t23 t23l 0), (.int .i64 t24), (.bool t25), (.bool false), undef, undef, undef, undef, undef, (.int .i64 t32), (.int .i64 t33), s34, s35, s36, s37, s38, s39, s40, s41, s42, s43, s44, s45, s46, s47, s48, s49, s50, s51, s52, s53, s54, s55, s56, s57, s58, s59, s60, s61, s62, s63, s64, s65, s66, s67, s68, s69, s70, s71, s72, s73, s74, s75, s76, s77, s78, s79, s80, s81, s82, s83, s84, s85, s86, s87, s88, s89, s90, s91, s92, s93, s94, s95, s96, s97, s98, s99, s100, s101, s102, s103, s104, s105, s106, s107, s108, s109, s110, s111, s112, s113, s114, s115, s116, s117, s118, s119, s120, undef] H hP)
    kernel_rfl
  · apply turnInto h0
    kernel_rfl

theorem use_crossbarlaw08_SmemWhole_1 {t0 : Int} {t1 : Option Addr} {t1l : Nat} {t4 : Bool} {t5 : Option Addr} {t6 : Int} {t7 : Int} {t8 : Int} {t9 : Int} {t10 : Int} {t11 : Nat} {t12 : Int} {t16 : Value} {t17 : Value} {t18 : Int} {t19 : Option Addr} {t20 : Option Addr} {t21 : Bool} {t23 : Option Addr} {t23l : Nat} {t24 : Int} {t25 : Bool} {t32 : Int} {t33 : Int} {t34 : Int} {t35 : Option Addr} {t35l : Nat} {t36 : Int} {t38 : Value} {t39 : Value} {t40 : Option Addr} {t41 : Int} {t42 : Option Addr} {t43 : Int} {t44 : Option Addr} {t45 : Option Addr} {t45l : Nat} {t46 : Int} {t47 : Nat} {t47o : Nat} {t48_0 : Int} {t48_1 : Int} {t48_2 : Int} {t48_3 : Int} {t48_4 : Int} {t48_5 : Int} {t48_6 : Int} {t49_0 : Int} {t49_1 : Bool} {t49_2 : Int} {t49_3 : Int} {t50 : Option Addr} {t50l : Nat} {t51 : Int} {t52 : Nat} {t52o : Nat} {t53 : Nat} {t53o : Nat} {t54 : Int} {t55 : Int} {t56 : Int} {t57 : Nat} {t58 : Int} {t59 : Int} {t60 : Option Addr} {t61 : Int} {t78 : Value} {t79 : Value} {t80 : Value} {t81 : Value} {t82 : Value} {t83 : Value} {t84 : Value} {t85 : Value} {t86 : Value} {t87 : Value} {t88 : Value} {t89 : Value} {t90 : Value} {t91 : Value} {t92 : Value} {t93 : Value} {t94 : Value} {t95 : Value} {t96 : Value} {t97 : Value} {t98 : Value} {t99 : Value} {t100 : Value} {t101 : Value} {t102 : Value} {t103 : Value} {t104 : Value} {t105 : Value} {t106 : Value} {t107 : Value} {t108 : Value} {t109 : Value} {t110 : Value} {t111 : Value} {t112 : Value} {t113 : Value} {t114 : Value} {t115 : Value} {t116 : Value} {t117 : Value} {t118 : Value} {t119 : Value} {t120 : Value} {K0 : Fr → Heap → Prop} {t13 : Int} {t14 : Int} {t15 : Int} {t62 : Value} {t63 : Value} {t64 : Value} {t65 : Value} {t66 : Value} {t67 : Value} {t68 : Value} {t69 : Value} {t70 : Value} {t71 : Value} {t72 : Value} {t73 : Value} {t74 : Value} {t75 : Value} {t76 : Value} {t77 : Value} {H : Heap} (I : Nat → Int → Int → Int → Heap → Prop) (n : Nat) (h0 : I n t13 t14 t15 H)
    (hstep : ∀ (n : Nat) (t13 : Int) (t14 : Int) (t15 : Int) (ys : Fr) (H : Heap), I n t13 t14 t15 H →
    (
 bif (decide (t15 ≤ t6)) then (
 CA en F.smem_Mem_Size [(.pointer t5), (.int .i64 t15)] H fun v1 H2 =>
 ∃ n3, v1 = (.int .i64 n3) ∧
 CA en F.smem_Mem_Size [(.pointer t5), (.int .i64 t15)] H2 fun v4 H5 =>
 ∃ n6, v4 = (.int .i64 n6) ∧
 bif (decide (n6 > 0)) then (
 ∃ k7, k7 < n ∧
 I k7 (IntKind.i64.wrap (t13 + n3)) (IntKind.i64.wrap (t14 + 1)) (IntKind.i64.wrap (t15 + 1)) H5)
 else (
 ∃ k8, k8 < n ∧
 I k8 (IntKind.i64.wrap (t13 + n3)) t14 (IntKind.i64.wrap (t15 + 1)) H5))
 else (
 K0 [(.int .i64 t0), (.slice t1 t1l 0), undef, undef, (.bool t4), (.pointer t5), (.int .i64 t6), (.int .i64 t7), (.int .i64 t8), (.int .i64 t9), (.int .i64 t10), (.pointer (some ⟨t11, 0, none⟩)), (.int .i64 t12), (.int .i64 t13), (.int .i64 t14), (.int .i64 t15), t16, t17, (.int .i64 t18), (.pointer t19), (.pointer t20), (.bool t21), (.bool false), (.slice t23 t23l 0), (.int .i64 t24), (.bool t25), (.bool false), undef, undef, undef, undef, undef, (.int .i64 t32), (.int .i64 t33), (.int .i64 t34), (.slice t35 t35l 0), (.int .i64 t36), (.bool true), t38, t39, (.pointer t40), (.int .i64 t41), (.pointer t42), (.int .i64 t43), (.pointer t44), (.slice t45 t45l 0), (.int .i64 t46), (.pointer (some ⟨t47, t47o, none⟩)), (.agg #[(.int .i64 t48_0), (.int .i64 t48_1), (.int .i64 t48_2), (.int .i64 t48_3), (.int .u64 t48_4), (.int .u64 t48_5), (.int .u64 t48_6)]), (.agg #[(.int .u64 t49_0), (.bool t49_1), (.int .i64 t49_2), (.int .i64 t49_3)]), (.slice t50 t50l 0), (.int .i64 t51), (.pointer (some ⟨t52, t52o, none⟩)), (.pointer (some ⟨t53, t53o, none⟩)), (.int .i64 t54), (.int .i64 t55), (.int .i64 t56), (.pointer (some ⟨t57, 2, none⟩)), (.int .i64 t58), (.int .i64 t59), (.pointer t60), (.int .i64 t61), (.int .i64 t15), (.int .i64 t6), (.bool false), (ys.getD 65 undef), (ys.getD 66 undef), (ys.getD 67 undef), (ys.getD 68 undef), (ys.getD 69 undef), (ys.getD 70 undef), (ys.getD 71 undef), (ys.getD 72 undef), (ys.getD 73 undef), (ys.getD 74 undef), (ys.getD 75 undef), (ys.getD 76 undef), (ys.getD 77 undef), t78, t79, t80, t81, t82, t83, t84, t85, t86, t87, t88, t89, t90, t91, t92, t93, t94, t95, t96, t97, t98, t99, t100, t101, t102, t103, t104, t105, t106, t107, t108, t109, t110, t111, t112, t113, t114, t115, t116, t117, t118, t119, t120, undef] H))) :
    LA en L_crossbarlaw08_SmemWhole_1 [(.int .i64 t0), (.slice t1 t1l 0), undef, undef, (.bool t4), (.pointer t5), (.int .i64 t6), (.int .i64 t7), (.int .i64 t8), (.int .i64 t9), (.int .i64 t10), (.pointer (some ⟨t11, 0, none⟩)), (.int .i64 t12), (.int .i64 t13), (.int .i64 t14), (.int .i64 t15), t16, t17, (.int .i64 t18), (.pointer t19), (.pointer t20), (.bool t21), (.bool false), (.slice t23 t23l 0), (.int .i64 t24), (.bool t25), (.bool false), undef, undef, undef, undef, undef, (.int .i64 t32), (.int .i64 t33), (.int .i64 t34), (.slice t35 t35l 0), (.int .i64 t36), (.bool true), t38, t39, (.pointer t40), (.int .i64 t41), (.pointer t42), (.int .i64 t43), (.pointer t44), (.slice t45 t45l 0), (.int .i64 t46), (.pointer (some ⟨t47, t47o, none⟩)), (.agg #[(.int .i64 t48_0), (.int .i64 t48_1), (.int .i64 t48_2), (.int .i64 t48_3), (.int .u64 t48_4), (.int .u64 t48_5), (.int .u64 t48_6)]), (.agg #[(.int .u64 t49_0), (.bool t49_1), (.int .i64 t49_2), (.int .i64 t49_3)]), (.slice t50 t50l 0), (.int .i64 t51), (.pointer (some ⟨t52, t52o, none⟩)), (.pointer (some ⟨t53, t53o, none⟩)), (.int .i64 t54), (.int .i64 t55), (.int .i64 t56), (.pointer (some ⟨t57, 2, none⟩)), (.int .i64 t58), (.int .i64 t59), (.pointer t60), (.int .i64 t61), t62, t63, t64, t65, t66, t67, t68, t69, t70, t71, t72, t73, t74, t75, t76, t77, t78, t79, t80, t81, t82, t83, t84, t85, t86, t87, t88, t89, t90, t91, t92, t93, t94, t95, t96, t97, t98, t99, t100, t101, t102, t103, t104, t105, t106, t107, t108, t109, t110, t111, t112, t113, t114, t115, t116, t117, t118, t119, t120, undef] H [(X.exit 2, K0)] := by
  refine LA_rule (Z := []) (fun m xs H' => AS.asInt .i64 (xs.getD 13 undef) fun t13 => AS.asInt .i64 (xs.getD 14 undef) fun t14 => AS.asInt .i64 (xs.getD 15 undef) fun t15 => I m t13 t14 t15 H') ?_ n H ?_
  · intro n H
    suffices hs : ∀ s62 : Value, ∀ s63 : Value, ∀ s64 : Value, ∀ s67 : Value, ∀ s68 : Value, ∀ s69 : Value, ∀ s70 : Value, ∀ s71 : Value, ∀ s13 : Value, ∀ s72 : Value, ∀ s73 : Value, ∀ s74 : Value, ∀ s75 : Value, ∀ s76 : Value, ∀ s77 : Value, ∀ s14 : Value, ∀ s65 : Value, ∀ s66 : Value, ∀ s15 : Value, ((AS.asInt .i64 s13 fun t13 => AS.asInt .i64 s14 fun t14 => AS.asInt .i64 s15 fun t15 => I n t13 t14 t15 H) → wpCode en L_crossbarlaw08_SmemWhole_1 [] [(.int .i64 t0), (.slice t1 t1l 0), undef, undef, (.bool t4), (.pointer t5), (.int .i64 t6), (.int .i64 t7), (.int .i64 t8), (.int .i64 t9), (.int .i64 t10), (.pointer (some ⟨t11, 0, none⟩)), (.int .i64 t12), s13, s14, s15, t16, t17, (.int .i64 t18), (.pointer t19), (.pointer t20), (.bool t21), (.bool false), (.slice t23 t23l 0), (.int .i64 t24), (.bool t25), (.bool false), undef, undef, undef, undef, undef, (.int .i64 t32), (.int .i64 t33), (.int .i64 t34), (.slice t35 t35l 0), (.int .i64 t36), (.bool true), t38, t39, (.pointer t40), (.int .i64 t41), (.pointer t42), (.int .i64 t43), (.pointer t44), (.slice t45 t45l 0), (.int .i64 t46), (.pointer (some ⟨t47, t47o, none⟩)), (.agg #[(.int .i64 t48_0), (.int .i64 t48_1), (.int .i64 t48_2), (.int .i64 t48_3), (.int .u64 t48_4), (.int .u64 t48_5), (.int .u64 t48_6)]), (.agg #[(.int .u64 t49_0), (.bool t49_1), (.int .i64 t49_2), (.int .i64 t49_3)]), (.slice t50 t50l 0), (.int .i64 t51), (.pointer (some ⟨t52, t52o, none⟩)), (.pointer (some ⟨t53, t53o, none⟩)), (.int .i64 t54), (.int .i64 t55), (.int .i64 t56), (.pointer (some ⟨t57, 2, none⟩)), (.int .i64 t58), (.int .i64 t59), (.pointer t60), (.int .i64 t61), s62, s63, s64, s65, s66, s67, s68, s69, s70, s71, s72, s73, s74, s75, s76, s77, t78, t79, t80, t81, t82, t83, t84, t85, t86, t87, t88, t89, t90, t91, t92, t93, t94, t95, t96, t97, t98, t99, t100, t101, t102, t103, t104, t105, t106, t107, t108, t109, t110, t111, t112, t113, t114, t115, t116, t117, t118, t119, t120, undef] H (loopQ (fun m xs H' => AS.asInt .i64 (xs.getD 13 undef) fun t13 => AS.asInt .i64 (xs.getD 14 undef) fun t14 => AS.asInt .i64 (xs.getD 15 undef) fun t15 => I m t13 t14 t15 H') n [(X.exit 2, K0)])) by
      apply turnInto hs
      kernel_rfl
    intro s62 s63 s64 s67 s68 s69 s70 s71 s13 s72 s73 s74 s75 s76 s77 s14 s65 s66 s15 hP
    replace hP := asInt_elim hP
    obtain ⟨t13, rfl, hP⟩ := hP
    replace hP := asInt_elim hP
    obtain ⟨t14, rfl, hP⟩ := hP
    replace hP := asInt_elim hP
    obtain ⟨t15, rfl, hP⟩ := hP
    apply turnInto (hstep n t13 t14 t15 [(.int .i64 t0), (.slice t1 t1l 0), undef, undef, (.bool t4), (.pointer t5), (.int .i64 t6), (.int .i64 t7), (.int .i64 t8), (.int .i64 t9), (.int .i64 t10), (.pointer (some ⟨t11, 0, none⟩)), (.int .i64 t12), (.int .i64 t13), (.int .i64 t14), (.int .i64 t15), t16, t17, (.int .i64 t18), (.pointer t19), (.pointer t20), (.bool t21), (.bool false), (.slice t23 t23l 0), (.int .i64 t24), (.bool t25), (.bool false), undef, undef, undef, undef, undef, (.int .i64 t32), (.int .i64 t33), (.int .i64 t34), (.slice t35 t35l 0), (.int .i64 t36), (.bool true), t38, t39, (.pointer t40), (.int .i64 t41), (.pointer t42), (.int .i64 t43), (.pointer t44), (.slice t45 t45l 0), (.int .i64 t46), (.pointer (some ⟨t47, t47o, none⟩)), (.agg #[(.int .i64 t48_0), (.int .i64 t48_1), (.int .i64 t48_2), (.int .i64 t48_3), (.int .u64 t48_4), (.int .u64 t48_5), (.int .u64 t48_6)]), (.agg #[(.int .u64 t49_0), (.bool t49_1), (.int .i64 t49_2), (.int .i64 t49_3)]), (.slice t50 t50l 0), (.int .i64 t51), (.pointer (some ⟨t52, t52o, none⟩)), (.pointer (some ⟨t53, t53o, none⟩)), (.int .i64 t54), (.int .i64 t55), (.int .i64 t56), (.pointer (some ⟨t57, 2, none⟩)), (.int .i64 t58), (.int .i64 t59), (.pointer t60), (.int .i64 t61), s62, s63, s64, s65, s66, s67, s68, s69, s70, s71, s72, s73, s74, s75, s76, s77, t78, t79, t80, t81, t82, t83, t84, t85, t86, t87, t88, t89, t90, t91, t92, t93, t94, t95, t96, t97, t98, t99, t100, t101, t102, t103, t104, t105, t106, t107, t108, t109, t110, t111, t112, t113, t114, t115, t116, t117, t118, t119, t120, undef] H hP)
    kernel_rfl
  · apply turnInto h0
    kernel_rfl

end Go.Proofs.Ytdkbgjhlpoibdaa
