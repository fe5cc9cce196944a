/-
  What functions of this seat's program need (printed by a program, checked by the kernel).
-/
import Derived.Test.YtdkbgjhlpoibdaaNames
import Derived.Test.YtdkbgjhlpoibdaaAs41
namespace Go.Proofs.Ytdkbgjhlpoibdaa
open Go Go.AS Go.RowKit
set_option linter.unusedVariables false
set_option maxRecDepth 100000

/-! crossbarref08_New -/

theorem vc_crossbarref08_New (x0 : Int) (H : Heap) (R : Value → Heap → Prop) :
    (
 nwH H (.cells true 0 [(.slice none 0 0), (.int .i64 (if (if 65536 < x0 then 65536 else x0) > 0 then (if 65536 < x0 then 65536 else x0) else 0)), (.int .i64 0), (.int .i64 0)]) fun i1 H2 =>
 R (.pointer (some ⟨i1, 0, none⟩)) H2) →
    CA en F.crossbarref08_New [(.int .i64 x0)] H R := by
  intro h
  refine wpFn_ok (Z := []) (fn := Go.Proofs.Try.f45) ?_ ?_ ?_
  · kernel_rfl
  · kernel_rfl
  · apply turnInto h
    kernel_rfl


/-! crossbarref08_Mem_Room -/

theorem vc_crossbarref08_Mem_Room (x0 : Option Addr) (H : Heap) (R : Value → Heap → Prop) :
    (
 AS.asAddr (.pointer x0) fun i1 i2 =>
 ∃ n3, H.cell i1 (i2 + 1) = some (.int .i64 n3) ∧
 R (.int .i64 n3) H) →
    CA en F.crossbarref08_Mem_Room [(.pointer x0)] H R := by
  intro h
  refine wpFn_ok (Z := []) (fn := Go.Proofs.Try.f47) ?_ ?_ ?_
  · kernel_rfl
  · kernel_rfl
  · apply turnInto h
    kernel_rfl


/-! crossbarref08_Mem_Live -/
noncomputable def L_crossbarref08_Mem_Live_0 : Code := loopAt Go.Proofs.Try.f48 0

theorem vc_crossbarref08_Mem_Live (x0 : Option Addr) (H : Heap) (R : Value → Heap → Prop) :
    (
 LA en L_crossbarref08_Mem_Live_0 [(.pointer x0), undef, (.int .i64 0), (.int .i64 0), (.int .i64 0), undef, undef, undef, undef, undef, undef, undef, undef, undef, undef, undef, undef, undef, undef, undef, undef, undef, undef, undef, undef] H [(X.exit 0, fun (x1 : Fr) (H2 : Heap) =>
 AS.asInt .i64 (x1.getD 3 undef) fun n3 =>
 R (.int .i64 n3) H2)]) →
    CA en F.crossbarref08_Mem_Live [(.pointer x0)] H R := by
  intro h
  refine wpFn_ok (Z := [[(3, (.int .i64 0))]]) (fn := Go.Proofs.Try.f48) ?_ ?_ ?_
  · kernel_rfl
  · kernel_rfl
  · apply turnInto h
    kernel_rfl

theorem use_crossbarref08_Mem_Live_0 {t0 : Option Addr} {K0 : Fr → Heap → Prop} {t3 : Int} {t4 : Int} {t5 : Value} {t6 : Value} {t7 : Value} {t8 : Value} {t9 : Value} {t10 : Value} {t11 : Value} {t12 : Value} {t13 : Value} {t14 : Value} {t15 : Value} {t16 : Value} {t17 : Value} {t18 : Value} {t19 : Value} {t20 : Value} {t21 : Value} {t22 : Value} {t23 : Value} {H : Heap} (I : Nat → Int → Int → Heap → Prop) (n : Nat) (h0 : I n t3 t4 H)
    (hstep : ∀ (n : Nat) (t3 : Int) (t4 : Int) (ys : Fr) (H : Heap), I n t3 t4 H →
    (
 AS.asAddr (.pointer t0) fun i1 i2 =>
 ∃ a3 i4, H.cell i1 i2 = some (.slice a3 i4 0) ∧
 bif (decide (t4 < ((i4 : Nat) : Int))) then (
 AS.asAddr (.pointer t0) fun i5 i6 =>
 ∃ a7 i8, H.cell i5 i6 = some (.slice a7 i8 0) ∧
 inB t4 i8 ∧
 asRow a7 fun i9 i10 =>
 ∃ b11, H.cell i9 (i10 + (t4.toNat * 2)) = some (.bool b11) ∧
 bif b11 then (
 ∃ k12, k12 < n ∧
 I k12 (IntKind.i64.wrap (t3 + 1)) (IntKind.i64.wrap (t4 + 1)) H)
 else (
 ∃ k13, k13 < n ∧
 I k13 t3 (IntKind.i64.wrap (t4 + 1)) H))
 else (
 K0 [(.pointer t0), undef, (.int .i64 0), (.int .i64 t3), (.int .i64 t4), (.int .i64 t4), (.pointer t0), (.pointer (some ⟨i1, i2, none⟩)), (.pointer (some ⟨i1, i2, none⟩)), (.slice a3 i4 0), (.int .i64 ((i4 : Nat) : Int)), (.bool false), (ys.getD 12 undef), (ys.getD 13 undef), (ys.getD 14 undef), (ys.getD 15 undef), (ys.getD 16 undef), (ys.getD 17 undef), (ys.getD 18 undef), (ys.getD 19 undef), (ys.getD 20 undef), (ys.getD 21 undef), (ys.getD 22 undef), (ys.getD 23 undef), undef] H))) :
    LA en L_crossbarref08_Mem_Live_0 [(.pointer t0), undef, (.int .i64 0), (.int .i64 t3), (.int .i64 t4), t5, t6, t7, t8, t9, t10, t11, t12, t13, t14, t15, t16, t17, t18, t19, t20, t21, t22, t23, undef] H [(X.exit 0, K0)] := by
  refine LA_rule (Z := []) (fun m xs H' => AS.asInt .i64 (xs.getD 3 undef) fun t3 => AS.asInt .i64 (xs.getD 4 undef) fun t4 => I m t3 t4 H') ?_ n H ?_
  · intro n H
    suffices hs : ∀ s5 : Value, ∀ s6 : Value, ∀ s7 : Value, ∀ s8 : Value, ∀ s9 : Value, ∀ s10 : Value, ∀ s11 : Value, ∀ s14 : Value, ∀ s15 : Value, ∀ s16 : Value, ∀ s17 : Value, ∀ s18 : Value, ∀ s19 : Value, ∀ s20 : Value, ∀ s21 : Value, ∀ s22 : Value, ∀ s23 : Value, ∀ s3 : Value, ∀ s12 : Value, ∀ s13 : Value, ∀ s4 : Value, ((AS.asInt .i64 s3 fun t3 => AS.asInt .i64 s4 fun t4 => I n t3 t4 H) → wpCode en L_crossbarref08_Mem_Live_0 [] [(.pointer t0), undef, (.int .i64 0), s3, s4, s5, s6, s7, s8, s9, s10, s11, s12, s13, s14, s15, s16, s17, s18, s19, s20, s21, s22, s23, undef] H (loopQ (fun m xs H' => AS.asInt .i64 (xs.getD 3 undef) fun t3 => AS.asInt .i64 (xs.getD 4 undef) fun t4 => I m t3 t4 H') n [(X.exit 0, K0)])) by
      apply turnInto hs
      kernel_rfl
    intro s5 s6 s7 s8 s9 s10 s11 s14 s15 s16 s17 s18 s19 s20 s21 s22 s23 s3 s12 s13 s4 hP
    replace hP := asInt_elim hP
    obtain ⟨t3, rfl, hP⟩ := hP
    replace hP := asInt_elim hP
    obtain ⟨t4, rfl, hP⟩ := hP
    apply turnInto (hstep n t3 t4 [(.pointer t0), undef, (.int .i64 0), (.int .i64 t3), (.int .i64 t4), s5, s6, s7, s8, s9, s10, s11, s12, s13, s14, s15, s16, s17, s18, s19, s20, s21, s22, s23, undef] H hP)
    kernel_rfl
  · apply turnInto h0
    kernel_rfl


/-! crossbarref08_Mem_Count -/

theorem vc_crossbarref08_Mem_Count (x0 : Option Addr) (H : Heap) (R : Value → Heap → Prop) :
    (
 AS.asAddr (.pointer x0) fun i1 i2 =>
 ∃ n3, H.cell i1 (i2 + 2) = some (.int .i64 n3) ∧
 R (.int .i64 n3) H) →
    CA en F.crossbarref08_Mem_Count [(.pointer x0)] H R := by
  intro h
  refine wpFn_ok (Z := []) (fn := Go.Proofs.Try.f49) ?_ ?_ ?_
  · kernel_rfl
  · kernel_rfl
  · apply turnInto h
    kernel_rfl


/-! crossbarref08_Mem_Bad -/

theorem vc_crossbarref08_Mem_Bad (x0 : Option Addr) (H : Heap) (R : Value → Heap → Prop) :
    (
 AS.asAddr (.pointer x0) fun i1 i2 =>
 ∃ n3, H.cell i1 (i2 + 3) = some (.int .i64 n3) ∧
 R (.int .i64 n3) H) →
    CA en F.crossbarref08_Mem_Bad [(.pointer x0)] H R := by
  intro h
  refine wpFn_ok (Z := []) (fn := Go.Proofs.Try.f50) ?_ ?_ ?_
  · kernel_rfl
  · kernel_rfl
  · apply turnInto h
    kernel_rfl


/-! crossbarref08_Mem_Size -/

theorem vc_crossbarref08_Mem_Size (x0 : Option Addr) (x1 : Int) (H : Heap) (R : Value → Heap → Prop) :
    (
 CA en F.crossbarref08_Mem_live [(.pointer x0), (.int .i64 x1)] H fun v1 H2 =>
 ∃ b3, v1 = (.bool b3) ∧
 bif (!b3) then (
 R (.int .i64 0) H2)
 else (
 AS.asAddr (.pointer x0) fun i4 i5 =>
 ∃ a6 i7, H2.cell i4 i5 = some (.slice a6 i7 0) ∧
 inB (IntKind.i64.wrap (x1 - 1)) i7 ∧
 asRow a6 fun i8 i9 =>
 ∃ a10 i11, H2.cell i8 ((i9 + ((IntKind.i64.wrap (x1 - 1)).toNat * 2)) + 1) = some (.slice a10 i11 0) ∧
 R (.int .i64 ((i11 : Nat) : Int)) H2)) →
    CA en F.crossbarref08_Mem_Size [(.pointer x0), (.int .i64 x1)] H R := by
  intro h
  refine wpFn_ok (Z := []) (fn := Go.Proofs.Try.f51) ?_ ?_ ?_
  · kernel_rfl
  · kernel_rfl
  · apply turnInto h
    kernel_rfl


/-! crossbarref08_Mem_Make -/

theorem vc_crossbarref08_Mem_Make (x0 : Option Addr) (x1 : Int) (H : Heap) (R : Value → Heap → Prop) :
    (
 bif (decide (x1 < 1)) then (
 R (.tuple #[(.int .i64 0), (.int .i64 1)]) H)
 else (
 bif (decide (x1 > 65536)) then (
 R (.tuple #[(.int .i64 0), (.int .i64 1)]) H)
 else (
 AS.asAddr (.pointer x0) fun i1 i2 =>
 ∃ n3, H.cell i1 (i2 + 1) = some (.int .i64 n3) ∧
 bif (decide (x1 > n3)) then (
 R (.tuple #[(.int .i64 0), (.int .i64 5)]) H)
 else (
 AS.asAddr (.pointer x0) fun i4 i5 =>
 ∃ n6, H.cell i4 (i5 + 1) = some (.int .i64 n6) ∧
 AS.asAddr (.pointer x0) fun i7 i8 =>
 stc H i7 (i8 + 1) [(.int .i64 (IntKind.i64.wrap (n6 - x1)))] fun H9 =>
 AS.asAddr (.pointer x0) fun i10 i11 =>
 ∃ a12 i13, (H9.bump 13).cell i10 i11 = some (.slice a12 i13 0) ∧
 okLen 8 x1 x1 ∧
 nwH (H9.bump 13) (.cells true 1 (reps x1.toNat [(.int .u64 0)])) fun i14 H15 =>
 nwH H15 (.cells true 2 [(.bool true), (.slice (some ⟨i14, 0, none⟩) x1.toNat 0)]) fun i16 H17 =>
 ∃ l18, rowOf H17 2 (some ⟨i16, 0, none⟩) 1 = some l18 ∧
 apd H17 32 2 a12 i13 1 l18 fun a19 i20 H21 =>
 AS.asAddr (.pointer x0) fun i22 i23 =>
 stc H21 i22 i23 [(.slice a19 i20 0)] fun H24 =>
 (
 AS.asAddr (.pointer x0) fun i31 i32 =>
 ∃ a33 i34, H24.cell i31 i32 = some (.slice a33 i34 0) ∧
 R (.tuple #[(.int .i64 ((i34 : Nat) : Int)), (.int .i64 0)]) H24) ∧
 ((∃ a29 i30, (H9.bump 13).cell i10 i11 = some (.slice a29 i30 0) ∧
 (a12 = a29 ∧ i13 = i30 ∧ 0 = 0)) ∧ (∃ a27 i28, H15.cell i10 i11 = some (.slice a27 i28 0) ∧
 (a12 = a27 ∧ i13 = i28 ∧ 0 = 0)) ∧ (∃ a25 i26, H17.cell i10 i11 = some (.slice a25 i26 0) ∧
 (a12 = a25 ∧ i13 = i26 ∧ 0 = 0)) ∧ True) ∧
 True)))) →
    CA en F.crossbarref08_Mem_Make [(.pointer x0), (.int .i64 x1)] H R := by
  intro h
  refine wpFn_ok (Z := []) (fn := Go.Proofs.Try.f67) ?_ ?_ ?_
  · kernel_rfl
  · kernel_rfl
  · apply turnInto h
    kernel_rfl


/-! crossbarref08_Mem_Free -/

theorem vc_crossbarref08_Mem_Free (x0 : Option Addr) (x1 : Int) (H : Heap) (R : Value → Heap → Prop) :
    (
 CA en F.crossbarref08_Mem_live [(.pointer x0), (.int .i64 x1)] H fun v1 H2 =>
 ∃ b3, v1 = (.bool b3) ∧
 bif (!b3) then (
 R (.bool false) H2)
 else (
 AS.asAddr (.pointer x0) fun i4 i5 =>
 ∃ a6 i7, H2.cell i4 i5 = some (.slice a6 i7 0) ∧
 inB (IntKind.i64.wrap (x1 - 1)) i7 ∧
 asRow a6 fun i8 i9 =>
 stc H2 i8 (i9 + ((IntKind.i64.wrap (x1 - 1)).toNat * 2)) [(.bool false)] fun H10 =>
 AS.asAddr (.pointer x0) fun i11 i12 =>
 ∃ n13, (H10.bump 19).cell i11 (i12 + 1) = some (.int .i64 n13) ∧
 AS.asAddr (.pointer x0) fun i14 i15 =>
 ∃ a16 i17, (H10.bump 19).cell i14 i15 = some (.slice a16 i17 0) ∧
 inB (IntKind.i64.wrap (x1 - 1)) i17 ∧
 asRow a16 fun i18 i19 =>
 ∃ a20 i21, (H10.bump 19).cell i18 ((i19 + ((IntKind.i64.wrap (x1 - 1)).toNat * 2)) + 1) = some (.slice a20 i21 0) ∧
 AS.asAddr (.pointer x0) fun i22 i23 =>
 stc (H10.bump 19) i22 (i23 + 1) [(.int .i64 (IntKind.i64.wrap (n13 + ((i21 : Nat) : Int))))] fun H24 =>
 (
 R (.bool true) H24) ∧
 True)) →
    CA en F.crossbarref08_Mem_Free [(.pointer x0), (.int .i64 x1)] H R := by
  intro h
  refine wpFn_ok (Z := []) (fn := Go.Proofs.Try.f68) ?_ ?_ ?_
  · kernel_rfl
  · kernel_rfl
  · apply turnInto h
    kernel_rfl


/-! crossbarref08_Mem_Load -/

theorem vc_crossbarref08_Mem_Load (x0 : Option Addr) (x1 : Int) (x2 : Int) (H : Heap) (R : Value → Heap → Prop) :
    (
 CA en F.crossbarref08_Mem_good [(.pointer x0), (.int .i64 x1), (.int .i64 x2)] H fun v1 H2 =>
 ∃ b3, v1 = (.bool b3) ∧
 bif (!b3) then (
 R (.tuple #[(.int .u64 0), (.bool false)]) H2)
 else (
 AS.asAddr (.pointer x0) fun i4 i5 =>
 ∃ a6 i7, H2.cell i4 i5 = some (.slice a6 i7 0) ∧
 inB (IntKind.i64.wrap (x1 - 1)) i7 ∧
 asRow a6 fun i8 i9 =>
 ∃ a10 i11, H2.cell i8 ((i9 + ((IntKind.i64.wrap (x1 - 1)).toNat * 2)) + 1) = some (.slice a10 i11 0) ∧
 inB x2 i11 ∧
 asRow a10 fun i12 i13 =>
 ∃ n14, H2.cell i12 (i13 + (x2.toNat * 1)) = some (.int .u64 n14) ∧
 R (.tuple #[(.int .u64 n14), (.bool true)]) H2)) →
    CA en F.crossbarref08_Mem_Load [(.pointer x0), (.int .i64 x1), (.int .i64 x2)] H R := by
  intro h
  refine wpFn_ok (Z := []) (fn := Go.Proofs.Try.f69) ?_ ?_ ?_
  · kernel_rfl
  · kernel_rfl
  · apply turnInto h
    kernel_rfl


/-! crossbarref08_Mem_Store -/

theorem vc_crossbarref08_Mem_Store (x0 : Option Addr) (x1 : Int) (x2 : Int) (x3 : Int) (H : Heap) (R : Value → Heap → Prop) :
    (
 CA en F.crossbarref08_Mem_good [(.pointer x0), (.int .i64 x1), (.int .i64 x2)] H fun v1 H2 =>
 ∃ b3, v1 = (.bool b3) ∧
 bif (!b3) then (
 R (.bool false) H2)
 else (
 AS.asAddr (.pointer x0) fun i4 i5 =>
 ∃ a6 i7, H2.cell i4 i5 = some (.slice a6 i7 0) ∧
 inB (IntKind.i64.wrap (x1 - 1)) i7 ∧
 asRow a6 fun i8 i9 =>
 ∃ a10 i11, H2.cell i8 ((i9 + ((IntKind.i64.wrap (x1 - 1)).toNat * 2)) + 1) = some (.slice a10 i11 0) ∧
 inB x2 i11 ∧
 asRow a10 fun i12 i13 =>
 stc H2 i12 (i13 + (x2.toNat * 1)) [(.int .u64 x3)] fun H14 =>
 R (.bool true) H14)) →
    CA en F.crossbarref08_Mem_Store [(.pointer x0), (.int .i64 x1), (.int .i64 x2), (.int .u64 x3)] H R := by
  intro h
  refine wpFn_ok (Z := []) (fn := Go.Proofs.Try.f70) ?_ ?_ ?_
  · kernel_rfl
  · kernel_rfl
  · apply turnInto h
    kernel_rfl


/-! crossbarref08_Mem_Mask -/

theorem vc_crossbarref08_Mem_Mask (x0 : Option Addr) (x1 : Int) (x2 : Int) (x3 : Int) (x4 : Int) (H : Heap) (R : Value → Heap → Prop) :
    (
 CA en F.crossbarref08_Mem_good [(.pointer x0), (.int .i64 x1), (.int .i64 x2)] H fun v1 H2 =>
 ∃ b3, v1 = (.bool b3) ∧
 bif (!b3) then (
 R (.bool false) H2)
 else (
 AS.asAddr (.pointer x0) fun i4 i5 =>
 ∃ a6 i7, (H2.bump 27).cell i4 i5 = some (.slice a6 i7 0) ∧
 inB (IntKind.i64.wrap (x1 - 1)) i7 ∧
 asRow a6 fun i8 i9 =>
 ∃ a10 i11, (H2.bump 27).cell i8 ((i9 + ((IntKind.i64.wrap (x1 - 1)).toNat * 2)) + 1) = some (.slice a10 i11 0) ∧
 AS.asAddr (.pointer x0) fun i12 i13 =>
 ∃ a14 i15, (H2.bump 27).cell i12 i13 = some (.slice a14 i15 0) ∧
 inB (IntKind.i64.wrap (x1 - 1)) i15 ∧
 asRow a14 fun i16 i17 =>
 ∃ a18 i19, (H2.bump 27).cell i16 ((i17 + ((IntKind.i64.wrap (x1 - 1)).toNat * 2)) + 1) = some (.slice a18 i19 0) ∧
 inB x2 i19 ∧
 asRow a18 fun i20 i21 =>
 ∃ n22, (H2.bump 27).cell i20 (i21 + (x2.toNat * 1)) = some (.int .u64 n22) ∧
 CA en F.crossbarref08_under [(.int .u64 n22), (.int .u64 x3), (.int .u64 x4)] (H2.bump 27) fun v23 H24 =>
 ∃ n25, v23 = (.int .u64 n25) ∧
 inB x2 i11 ∧
 asRow a10 fun i26 i27 =>
 stc H24 i26 (i27 + (x2.toNat * 1)) [(.int .u64 n25)] fun H28 =>
 (
 R (.bool true) H28) ∧
 ((∃ a31 i32, (H2.bump 27).cell i8 ((i9 + ((IntKind.i64.wrap (x1 - 1)).toNat * 2)) + 1) = some (.slice a31 i32 0) ∧
 (a10 = a31 ∧ i11 = i32 ∧ 0 = 0)) ∧ (∃ a29 i30, H24.cell i8 ((i9 + ((IntKind.i64.wrap (x1 - 1)).toNat * 2)) + 1) = some (.slice a29 i30 0) ∧
 (a10 = a29 ∧ i11 = i30 ∧ 0 = 0)) ∧ True) ∧
 (((IntKind.i64.wrap (x1 - 1)) = (IntKind.i64.wrap (x1 - 1))) ∧ ((IntKind.i64.wrap (x1 - 1)) = (IntKind.i64.wrap (x1 - 1))) ∧ True) ∧
 ((∃ a35 i36, (H2.bump 27).cell i4 i5 = some (.slice a35 i36 0) ∧
 (a6 = a35 ∧ i7 = i36 ∧ 0 = 0)) ∧ (∃ a33 i34, H24.cell i4 i5 = some (.slice a33 i34 0) ∧
 (a6 = a33 ∧ i7 = i34 ∧ 0 = 0)) ∧ True) ∧
 True)) →
    CA en F.crossbarref08_Mem_Mask [(.pointer x0), (.int .i64 x1), (.int .i64 x2), (.int .u64 x3), (.int .u64 x4)] H R := by
  intro h
  refine wpFn_ok (Z := []) (fn := Go.Proofs.Try.f71) ?_ ?_ ?_
  · kernel_rfl
  · kernel_rfl
  · apply turnInto h
    kernel_rfl


/-! crossbarref08_Mem_Fetch -/

theorem vc_crossbarref08_Mem_Fetch (x0 : Option Addr) (x1 : Int) (x2 : Int) (x3 : Int) (x4 : Int) (x5 : Int) (H : Heap) (R : Value → Heap → Prop) :
    (
 CA en F.crossbarref08_Mem_good [(.pointer x0), (.int .i64 x1), (.int .i64 x2)] H fun v1 H2 =>
 ∃ b3, v1 = (.bool b3) ∧
 bif (!b3) then (
 R (.tuple #[(.int .u64 0), (.bool false)]) H2)
 else (
 AS.asAddr (.pointer x0) fun i4 i5 =>
 ∃ a6 i7, H2.cell i4 i5 = some (.slice a6 i7 0) ∧
 inB (IntKind.i64.wrap (x1 - 1)) i7 ∧
 asRow a6 fun i8 i9 =>
 ∃ a10 i11, H2.cell i8 ((i9 + ((IntKind.i64.wrap (x1 - 1)).toNat * 2)) + 1) = some (.slice a10 i11 0) ∧
 inB x2 i11 ∧
 asRow a10 fun i12 i13 =>
 ∃ n14, H2.cell i12 (i13 + (x2.toNat * 1)) = some (.int .u64 n14) ∧
 CA en F.crossbarref08_under [(.int .u64 0), (.int .u64 x4), (.int .u64 n14)] H2 fun v15 H16 =>
 ∃ n17, v15 = (.int .u64 n17) ∧
 CA en F.crossbarref08_under [(.int .u64 0), (.int .u64 x4), (.int .u64 x5)] H16 fun v18 H19 =>
 ∃ n20, v18 = (.int .u64 n20) ∧
 bif (x3 == 0) then (
 AS.asAddr (.pointer x0) fun i21 i22 =>
 ∃ a23 i24, (H19.bump 16).cell i21 i22 = some (.slice a23 i24 0) ∧
 inB (IntKind.i64.wrap (x1 - 1)) i24 ∧
 asRow a23 fun i25 i26 =>
 ∃ a27 i28, (H19.bump 16).cell i25 ((i26 + ((IntKind.i64.wrap (x1 - 1)).toNat * 2)) + 1) = some (.slice a27 i28 0) ∧
 CA en F.crossbarref08_under [(.int .u64 n14), (.int .u64 x4), (.int .u64 (IntKind.u64.wrap (n17 + n20)))] (H19.bump 16) fun v29 H30 =>
 ∃ n31, v29 = (.int .u64 n31) ∧
 inB x2 i28 ∧
 asRow a27 fun i32 i33 =>
 stc H30 i32 (i33 + (x2.toNat * 1)) [(.int .u64 n31)] fun H34 =>
 (
 R (.tuple #[(.int .u64 n14), (.bool true)]) H34) ∧
 ((∃ a37 i38, (H19.bump 16).cell i25 ((i26 + ((IntKind.i64.wrap (x1 - 1)).toNat * 2)) + 1) = some (.slice a37 i38 0) ∧
 (a27 = a37 ∧ i28 = i38 ∧ 0 = 0)) ∧ (∃ a35 i36, H30.cell i25 ((i26 + ((IntKind.i64.wrap (x1 - 1)).toNat * 2)) + 1) = some (.slice a35 i36 0) ∧
 (a27 = a35 ∧ i28 = i36 ∧ 0 = 0)) ∧ True) ∧
 (((IntKind.i64.wrap (x1 - 1)) = (IntKind.i64.wrap (x1 - 1))) ∧ ((IntKind.i64.wrap (x1 - 1)) = (IntKind.i64.wrap (x1 - 1))) ∧ True) ∧
 ((∃ a41 i42, (H19.bump 16).cell i21 i22 = some (.slice a41 i42 0) ∧
 (a23 = a41 ∧ i24 = i42 ∧ 0 = 0)) ∧ (∃ a39 i40, H30.cell i21 i22 = some (.slice a39 i40 0) ∧
 (a23 = a39 ∧ i24 = i40 ∧ 0 = 0)) ∧ True) ∧
 True)
 else (
 bif (x3 == 64) then (
 AS.asAddr (.pointer x0) fun i43 i44 =>
 ∃ a45 i46, (H19.bump 16).cell i43 i44 = some (.slice a45 i46 0) ∧
 inB (IntKind.i64.wrap (x1 - 1)) i46 ∧
 asRow a45 fun i47 i48 =>
 ∃ a49 i50, (H19.bump 16).cell i47 ((i48 + ((IntKind.i64.wrap (x1 - 1)).toNat * 2)) + 1) = some (.slice a49 i50 0) ∧
 CA en F.crossbarref08_under [(.int .u64 n14), (.int .u64 x4), (.int .u64 (IntKind.u64.wrap ((BitVec.ofInt 64 n17 ||| (BitVec.ofInt 64 n20)).toNat : Int)))] (H19.bump 16) fun v51 H52 =>
 ∃ n53, v51 = (.int .u64 n53) ∧
 inB x2 i50 ∧
 asRow a49 fun i54 i55 =>
 stc H52 i54 (i55 + (x2.toNat * 1)) [(.int .u64 n53)] fun H56 =>
 (
 R (.tuple #[(.int .u64 n14), (.bool true)]) H56) ∧
 ((∃ a59 i60, (H19.bump 16).cell i47 ((i48 + ((IntKind.i64.wrap (x1 - 1)).toNat * 2)) + 1) = some (.slice a59 i60 0) ∧
 (a49 = a59 ∧ i50 = i60 ∧ 0 = 0)) ∧ (∃ a57 i58, H52.cell i47 ((i48 + ((IntKind.i64.wrap (x1 - 1)).toNat * 2)) + 1) = some (.slice a57 i58 0) ∧
 (a49 = a57 ∧ i50 = i58 ∧ 0 = 0)) ∧ True) ∧
 (((IntKind.i64.wrap (x1 - 1)) = (IntKind.i64.wrap (x1 - 1))) ∧ ((IntKind.i64.wrap (x1 - 1)) = (IntKind.i64.wrap (x1 - 1))) ∧ True) ∧
 ((∃ a63 i64, (H19.bump 16).cell i43 i44 = some (.slice a63 i64 0) ∧
 (a45 = a63 ∧ i46 = i64 ∧ 0 = 0)) ∧ (∃ a61 i62, H52.cell i43 i44 = some (.slice a61 i62 0) ∧
 (a45 = a61 ∧ i46 = i62 ∧ 0 = 0)) ∧ True) ∧
 True)
 else (
 bif (x3 == 80) then (
 AS.asAddr (.pointer x0) fun i65 i66 =>
 ∃ a67 i68, (H19.bump 16).cell i65 i66 = some (.slice a67 i68 0) ∧
 inB (IntKind.i64.wrap (x1 - 1)) i68 ∧
 asRow a67 fun i69 i70 =>
 ∃ a71 i72, (H19.bump 16).cell i69 ((i70 + ((IntKind.i64.wrap (x1 - 1)).toNat * 2)) + 1) = some (.slice a71 i72 0) ∧
 CA en F.crossbarref08_under [(.int .u64 n14), (.int .u64 x4), (.int .u64 (IntKind.u64.wrap ((BitVec.ofInt 64 n17 &&& (BitVec.ofInt 64 n20)).toNat : Int)))] (H19.bump 16) fun v73 H74 =>
 ∃ n75, v73 = (.int .u64 n75) ∧
 inB x2 i72 ∧
 asRow a71 fun i76 i77 =>
 stc H74 i76 (i77 + (x2.toNat * 1)) [(.int .u64 n75)] fun H78 =>
 (
 R (.tuple #[(.int .u64 n14), (.bool true)]) H78) ∧
 ((∃ a81 i82, (H19.bump 16).cell i69 ((i70 + ((IntKind.i64.wrap (x1 - 1)).toNat * 2)) + 1) = some (.slice a81 i82 0) ∧
 (a71 = a81 ∧ i72 = i82 ∧ 0 = 0)) ∧ (∃ a79 i80, H74.cell i69 ((i70 + ((IntKind.i64.wrap (x1 - 1)).toNat * 2)) + 1) = some (.slice a79 i80 0) ∧
 (a71 = a79 ∧ i72 = i80 ∧ 0 = 0)) ∧ True) ∧
 (((IntKind.i64.wrap (x1 - 1)) = (IntKind.i64.wrap (x1 - 1))) ∧ ((IntKind.i64.wrap (x1 - 1)) = (IntKind.i64.wrap (x1 - 1))) ∧ True) ∧
 ((∃ a85 i86, (H19.bump 16).cell i65 i66 = some (.slice a85 i86 0) ∧
 (a67 = a85 ∧ i68 = i86 ∧ 0 = 0)) ∧ (∃ a83 i84, H74.cell i65 i66 = some (.slice a83 i84 0) ∧
 (a67 = a83 ∧ i68 = i84 ∧ 0 = 0)) ∧ True) ∧
 True)
 else (
 bif (x3 == 160) then (
 AS.asAddr (.pointer x0) fun i87 i88 =>
 ∃ a89 i90, (H19.bump 16).cell i87 i88 = some (.slice a89 i90 0) ∧
 inB (IntKind.i64.wrap (x1 - 1)) i90 ∧
 asRow a89 fun i91 i92 =>
 ∃ a93 i94, (H19.bump 16).cell i91 ((i92 + ((IntKind.i64.wrap (x1 - 1)).toNat * 2)) + 1) = some (.slice a93 i94 0) ∧
 CA en F.crossbarref08_under [(.int .u64 n14), (.int .u64 x4), (.int .u64 (IntKind.u64.wrap ((BitVec.ofInt 64 n17 ^^^ (BitVec.ofInt 64 n20)).toNat : Int)))] (H19.bump 16) fun v95 H96 =>
 ∃ n97, v95 = (.int .u64 n97) ∧
 inB x2 i94 ∧
 asRow a93 fun i98 i99 =>
 stc H96 i98 (i99 + (x2.toNat * 1)) [(.int .u64 n97)] fun H100 =>
 (
 R (.tuple #[(.int .u64 n14), (.bool true)]) H100) ∧
 ((∃ a103 i104, (H19.bump 16).cell i91 ((i92 + ((IntKind.i64.wrap (x1 - 1)).toNat * 2)) + 1) = some (.slice a103 i104 0) ∧
 (a93 = a103 ∧ i94 = i104 ∧ 0 = 0)) ∧ (∃ a101 i102, H96.cell i91 ((i92 + ((IntKind.i64.wrap (x1 - 1)).toNat * 2)) + 1) = some (.slice a101 i102 0) ∧
 (a93 = a101 ∧ i94 = i102 ∧ 0 = 0)) ∧ True) ∧
 (((IntKind.i64.wrap (x1 - 1)) = (IntKind.i64.wrap (x1 - 1))) ∧ ((IntKind.i64.wrap (x1 - 1)) = (IntKind.i64.wrap (x1 - 1))) ∧ True) ∧
 ((∃ a107 i108, (H19.bump 16).cell i87 i88 = some (.slice a107 i108 0) ∧
 (a89 = a107 ∧ i90 = i108 ∧ 0 = 0)) ∧ (∃ a105 i106, H96.cell i87 i88 = some (.slice a105 i106 0) ∧
 (a89 = a105 ∧ i90 = i106 ∧ 0 = 0)) ∧ True) ∧
 True)
 else (
 AS.asAddr (.pointer x0) fun i109 i110 =>
 ∃ n111, H19.cell i109 (i110 + 3) = some (.int .i64 n111) ∧
 AS.asAddr (.pointer x0) fun i112 i113 =>
 stc H19 i112 (i113 + 3) [(.int .i64 (IntKind.i64.wrap (n111 + 1)))] fun H114 =>
 R (.tuple #[(.int .u64 0), (.bool false)]) H114)))))) →
    CA en F.crossbarref08_Mem_Fetch [(.pointer x0), (.int .i64 x1), (.int .i64 x2), (.int .i64 x3), (.int .u64 x4), (.int .u64 x5)] H R := by
  intro h
  refine wpFn_ok (Z := []) (fn := Go.Proofs.Try.f72) ?_ ?_ ?_
  · kernel_rfl
  · kernel_rfl
  · apply turnInto h
    kernel_rfl


/-! crossbarref08_Mem_Swap -/

theorem vc_crossbarref08_Mem_Swap (x0 : Option Addr) (x1 : Int) (x2 : Int) (x3 : Int) (x4 : Int) (H : Heap) (R : Value → Heap → Prop) :
    (
 CA en F.crossbarref08_Mem_good [(.pointer x0), (.int .i64 x1), (.int .i64 x2)] H fun v1 H2 =>
 ∃ b3, v1 = (.bool b3) ∧
 bif (!b3) then (
 R (.tuple #[(.int .u64 0), (.bool false)]) H2)
 else (
 AS.asAddr (.pointer x0) fun i4 i5 =>
 ∃ a6 i7, H2.cell i4 i5 = some (.slice a6 i7 0) ∧
 inB (IntKind.i64.wrap (x1 - 1)) i7 ∧
 asRow a6 fun i8 i9 =>
 ∃ a10 i11, H2.cell i8 ((i9 + ((IntKind.i64.wrap (x1 - 1)).toNat * 2)) + 1) = some (.slice a10 i11 0) ∧
 inB x2 i11 ∧
 asRow a10 fun i12 i13 =>
 ∃ n14, H2.cell i12 (i13 + (x2.toNat * 1)) = some (.int .u64 n14) ∧
 AS.asAddr (.pointer x0) fun i15 i16 =>
 ∃ a17 i18, (H2.bump 16).cell i15 i16 = some (.slice a17 i18 0) ∧
 inB (IntKind.i64.wrap (x1 - 1)) i18 ∧
 asRow a17 fun i19 i20 =>
 ∃ a21 i22, (H2.bump 16).cell i19 ((i20 + ((IntKind.i64.wrap (x1 - 1)).toNat * 2)) + 1) = some (.slice a21 i22 0) ∧
 CA en F.crossbarref08_under [(.int .u64 n14), (.int .u64 x3), (.int .u64 x4)] (H2.bump 16) fun v23 H24 =>
 ∃ n25, v23 = (.int .u64 n25) ∧
 inB x2 i22 ∧
 asRow a21 fun i26 i27 =>
 stc H24 i26 (i27 + (x2.toNat * 1)) [(.int .u64 n25)] fun H28 =>
 (
 R (.tuple #[(.int .u64 n14), (.bool true)]) H28) ∧
 ((∃ a31 i32, (H2.bump 16).cell i19 ((i20 + ((IntKind.i64.wrap (x1 - 1)).toNat * 2)) + 1) = some (.slice a31 i32 0) ∧
 (a21 = a31 ∧ i22 = i32 ∧ 0 = 0)) ∧ (∃ a29 i30, H24.cell i19 ((i20 + ((IntKind.i64.wrap (x1 - 1)).toNat * 2)) + 1) = some (.slice a29 i30 0) ∧
 (a21 = a29 ∧ i22 = i30 ∧ 0 = 0)) ∧ True) ∧
 (((IntKind.i64.wrap (x1 - 1)) = (IntKind.i64.wrap (x1 - 1))) ∧ ((IntKind.i64.wrap (x1 - 1)) = (IntKind.i64.wrap (x1 - 1))) ∧ True) ∧
 ((∃ a35 i36, (H2.bump 16).cell i15 i16 = some (.slice a35 i36 0) ∧
 (a17 = a35 ∧ i18 = i36 ∧ 0 = 0)) ∧ (∃ a33 i34, H24.cell i15 i16 = some (.slice a33 i34 0) ∧
 (a17 = a33 ∧ i18 = i34 ∧ 0 = 0)) ∧ True) ∧
 True)) →
    CA en F.crossbarref08_Mem_Swap [(.pointer x0), (.int .i64 x1), (.int .i64 x2), (.int .u64 x3), (.int .u64 x4)] H R := by
  intro h
  refine wpFn_ok (Z := []) (fn := Go.Proofs.Try.f73) ?_ ?_ ?_
  · kernel_rfl
  · kernel_rfl
  · apply turnInto h
    kernel_rfl


/-! crossbarref08_Mem_Cas -/

theorem vc_crossbarref08_Mem_Cas (x0 : Option Addr) (x1 : Int) (x2 : Int) (x3 : Int) (x4 : Int) (x5 : Int) (H : Heap) (R : Value → Heap → Prop) :
    (
 CA en F.crossbarref08_Mem_good [(.pointer x0), (.int .i64 x1), (.int .i64 x2)] H fun v1 H2 =>
 ∃ b3, v1 = (.bool b3) ∧
 bif (!b3) then (
 R (.tuple #[(.int .u64 0), (.bool false)]) H2)
 else (
 AS.asAddr (.pointer x0) fun i4 i5 =>
 ∃ a6 i7, H2.cell i4 i5 = some (.slice a6 i7 0) ∧
 inB (IntKind.i64.wrap (x1 - 1)) i7 ∧
 asRow a6 fun i8 i9 =>
 ∃ a10 i11, H2.cell i8 ((i9 + ((IntKind.i64.wrap (x1 - 1)).toNat * 2)) + 1) = some (.slice a10 i11 0) ∧
 inB x2 i11 ∧
 asRow a10 fun i12 i13 =>
 ∃ n14, H2.cell i12 (i13 + (x2.toNat * 1)) = some (.int .u64 n14) ∧
 CA en F.crossbarref08_under [(.int .u64 0), (.int .u64 x3), (.int .u64 n14)] H2 fun v15 H16 =>
 ∃ n17, v15 = (.int .u64 n17) ∧
 CA en F.crossbarref08_under [(.int .u64 0), (.int .u64 x3), (.int .u64 x4)] H16 fun v18 H19 =>
 ∃ n20, v18 = (.int .u64 n20) ∧
 bif (n17 == n20) then (
 AS.asAddr (.pointer x0) fun i21 i22 =>
 ∃ a23 i24, (H19.bump 16).cell i21 i22 = some (.slice a23 i24 0) ∧
 inB (IntKind.i64.wrap (x1 - 1)) i24 ∧
 asRow a23 fun i25 i26 =>
 ∃ a27 i28, (H19.bump 16).cell i25 ((i26 + ((IntKind.i64.wrap (x1 - 1)).toNat * 2)) + 1) = some (.slice a27 i28 0) ∧
 CA en F.crossbarref08_under [(.int .u64 n14), (.int .u64 x3), (.int .u64 x5)] (H19.bump 16) fun v29 H30 =>
 ∃ n31, v29 = (.int .u64 n31) ∧
 inB x2 i28 ∧
 asRow a27 fun i32 i33 =>
 stc H30 i32 (i33 + (x2.toNat * 1)) [(.int .u64 n31)] fun H34 =>
 (
 R (.tuple #[(.int .u64 n14), (.bool true)]) H34) ∧
 ((∃ a37 i38, (H19.bump 16).cell i25 ((i26 + ((IntKind.i64.wrap (x1 - 1)).toNat * 2)) + 1) = some (.slice a37 i38 0) ∧
 (a27 = a37 ∧ i28 = i38 ∧ 0 = 0)) ∧ (∃ a35 i36, H30.cell i25 ((i26 + ((IntKind.i64.wrap (x1 - 1)).toNat * 2)) + 1) = some (.slice a35 i36 0) ∧
 (a27 = a35 ∧ i28 = i36 ∧ 0 = 0)) ∧ True) ∧
 (((IntKind.i64.wrap (x1 - 1)) = (IntKind.i64.wrap (x1 - 1))) ∧ ((IntKind.i64.wrap (x1 - 1)) = (IntKind.i64.wrap (x1 - 1))) ∧ True) ∧
 ((∃ a41 i42, (H19.bump 16).cell i21 i22 = some (.slice a41 i42 0) ∧
 (a23 = a41 ∧ i24 = i42 ∧ 0 = 0)) ∧ (∃ a39 i40, H30.cell i21 i22 = some (.slice a39 i40 0) ∧
 (a23 = a39 ∧ i24 = i40 ∧ 0 = 0)) ∧ True) ∧
 True)
 else (
 R (.tuple #[(.int .u64 n14), (.bool true)]) H19))) →
    CA en F.crossbarref08_Mem_Cas [(.pointer x0), (.int .i64 x1), (.int .i64 x2), (.int .u64 x3), (.int .u64 x4), (.int .u64 x5)] H R := by
  intro h
  refine wpFn_ok (Z := []) (fn := Go.Proofs.Try.f74) ?_ ?_ ?_
  · kernel_rfl
  · kernel_rfl
  · apply turnInto h
    kernel_rfl


/-! crossbarref08_Mem_live -/

theorem vc_crossbarref08_Mem_live (x0 : Option Addr) (x1 : Int) (H : Heap) (R : Value → Heap → Prop) :
    (
 bif (decide (x1 ≥ 1)) then (
 AS.asAddr (.pointer x0) fun i1 i2 =>
 ∃ a3 i4, H.cell i1 i2 = some (.slice a3 i4 0) ∧
 bif (decide (x1 ≤ ((i4 : Nat) : Int))) then (
 AS.asAddr (.pointer x0) fun i5 i6 =>
 ∃ a7 i8, H.cell i5 i6 = some (.slice a7 i8 0) ∧
 inB (IntKind.i64.wrap (x1 - 1)) i8 ∧
 asRow a7 fun i9 i10 =>
 ∃ b11, H.cell i9 (i10 + ((IntKind.i64.wrap (x1 - 1)).toNat * 2)) = some (.bool b11) ∧
 R (.bool b11) H)
 else (
 R (.bool false) H))
 else (
 R (.bool false) H)) →
    CA en F.crossbarref08_Mem_live [(.pointer x0), (.int .i64 x1)] H R := by
  intro h
  refine wpFn_ok (Z := []) (fn := Go.Proofs.Try.f75) ?_ ?_ ?_
  · kernel_rfl
  · kernel_rfl
  · apply turnInto h
    kernel_rfl


/-! crossbarref08_Mem_good -/

theorem vc_crossbarref08_Mem_good (x0 : Option Addr) (x1 : Int) (x2 : Int) (H : Heap) (R : Value → Heap → Prop) :
    (
 AS.asAddr (.pointer x0) fun i1 i2 =>
 ∃ n3, H.cell i1 (i2 + 2) = some (.int .i64 n3) ∧
 AS.asAddr (.pointer x0) fun i4 i5 =>
 stc H i4 (i5 + 2) [(.int .i64 (IntKind.i64.wrap (n3 + 1)))] fun H6 =>
 CA en F.crossbarref08_Mem_live [(.pointer x0), (.int .i64 x1)] H6 fun v7 H8 =>
 ∃ b9, v7 = (.bool b9) ∧
 bif b9 then (
 bif (decide (x2 ≥ 0)) then (
 AS.asAddr (.pointer x0) fun i10 i11 =>
 ∃ a12 i13, H8.cell i10 i11 = some (.slice a12 i13 0) ∧
 inB (IntKind.i64.wrap (x1 - 1)) i13 ∧
 asRow a12 fun i14 i15 =>
 ∃ a16 i17, H8.cell i14 ((i15 + ((IntKind.i64.wrap (x1 - 1)).toNat * 2)) + 1) = some (.slice a16 i17 0) ∧
 bif (decide (x2 < ((i17 : Nat) : Int))) then (
 R (.bool true) H8)
 else (
 AS.asAddr (.pointer x0) fun i18 i19 =>
 ∃ n20, H8.cell i18 (i19 + 3) = some (.int .i64 n20) ∧
 AS.asAddr (.pointer x0) fun i21 i22 =>
 stc H8 i21 (i22 + 3) [(.int .i64 (IntKind.i64.wrap (n20 + 1)))] fun H23 =>
 R (.bool false) H23))
 else (
 AS.asAddr (.pointer x0) fun i24 i25 =>
 ∃ n26, H8.cell i24 (i25 + 3) = some (.int .i64 n26) ∧
 AS.asAddr (.pointer x0) fun i27 i28 =>
 stc H8 i27 (i28 + 3) [(.int .i64 (IntKind.i64.wrap (n26 + 1)))] fun H29 =>
 R (.bool false) H29))
 else (
 AS.asAddr (.pointer x0) fun i30 i31 =>
 ∃ n32, H8.cell i30 (i31 + 3) = some (.int .i64 n32) ∧
 AS.asAddr (.pointer x0) fun i33 i34 =>
 stc H8 i33 (i34 + 3) [(.int .i64 (IntKind.i64.wrap (n32 + 1)))] fun H35 =>
 R (.bool false) H35)) →
    CA en F.crossbarref08_Mem_good [(.pointer x0), (.int .i64 x1), (.int .i64 x2)] H R := by
  intro h
  refine wpFn_ok (Z := []) (fn := Go.Proofs.Try.f82) ?_ ?_ ?_
  · kernel_rfl
  · kernel_rfl
  · apply turnInto h
    kernel_rfl


/-! crossbarref08_under -/
noncomputable def L_crossbarref08_under_0 : Code := loopAt Go.Proofs.Try.f83 0

theorem vc_crossbarref08_under (x0 : Int) (x1 : Int) (x2 : Int) (H : Heap) (R : Value → Heap → Prop) :
    (
 LA en L_crossbarref08_under_0 [(.int .u64 x0), (.int .u64 x1), (.int .u64 x2), undef, undef, undef, (.int .u64 0), (.int .u64 0), (.int .i64 0), undef, undef, undef, undef, undef, undef, undef, undef, undef, undef, undef, undef, undef, undef, undef, undef, undef, undef, undef, undef, undef, undef, undef, undef, undef, undef, undef, undef] H [(X.exit 0, fun (x1 : Fr) (H2 : Heap) =>
 AS.asInt .u64 (x1.getD 7 undef) fun n3 =>
 R (.int .u64 n3) H2)]) →
    CA en F.crossbarref08_under [(.int .u64 x0), (.int .u64 x1), (.int .u64 x2)] H R := by
  intro h
  refine wpFn_ok (Z := [[(7, (.int .u64 0))]]) (fn := Go.Proofs.Try.f83) ?_ ?_ ?_
  · kernel_rfl
  · kernel_rfl
  · apply turnInto h
    kernel_rfl

theorem use_crossbarref08_under_0 {t0 : Int} {t1 : Int} {t2 : Int} {K0 : Fr → Heap → Prop} {t7 : Int} {t8 : Int} {t9 : Value} {t10 : Value} {t11 : Value} {t12 : Value} {t13 : Value} {t14 : Value} {t15 : Value} {t16 : Value} {t17 : Value} {t18 : Value} {t19 : Value} {t20 : Value} {t21 : Value} {t22 : Value} {t23 : Value} {t24 : Value} {t25 : Value} {t26 : Value} {t27 : Value} {t28 : Value} {t29 : Value} {t30 : Value} {t31 : Value} {t32 : Value} {t33 : Value} {t34 : Value} {t35 : Value} {H : Heap} (I : Nat → Int → Int → Heap → Prop) (n : Nat) (h0 : I n t7 t8 H)
    (hstep : ∀ (n : Nat) (t7 : Int) (t8 : Int) (ys : Fr) (H : Heap), I n t7 t8 H →
    (
 bif (decide (t8 < 64)) then (
 nn (IntKind.u64.wrap t8) ∧
 nz 2 ∧
 nn (IntKind.u64.wrap t8) ∧
 nz 2 ∧
 bif ((Int.tmod (Int.fdiv t1 (2 ^ (min (IntKind.u64.wrap t8).toNat 64))) 2) == 1) then (
 nn (IntKind.u64.wrap t8) ∧
 nz 2 ∧
 nn (IntKind.u64.wrap t8) ∧
 ∃ k1, k1 < n ∧
 I k1 (IntKind.u64.wrap (t7 + (IntKind.u64.wrap ((Int.tmod (Int.fdiv t2 (2 ^ (min (IntKind.u64.wrap t8).toNat 64))) 2) * 2 ^ (min (IntKind.u64.wrap t8).toNat 64))))) (IntKind.i64.wrap (t8 + 1)) H)
 else (
 nn (IntKind.u64.wrap t8) ∧
 ∃ k2, k2 < n ∧
 I k2 (IntKind.u64.wrap (t7 + (IntKind.u64.wrap ((Int.tmod (Int.fdiv t0 (2 ^ (min (IntKind.u64.wrap t8).toNat 64))) 2) * 2 ^ (min (IntKind.u64.wrap t8).toNat 64))))) (IntKind.i64.wrap (t8 + 1)) H))
 else (
 K0 [(.int .u64 t0), (.int .u64 t1), (.int .u64 t2), undef, undef, undef, (.int .u64 0), (.int .u64 t7), (.int .i64 t8), (ys.getD 9 undef), (.int .i64 t8), (.bool false), (ys.getD 12 undef), (ys.getD 13 undef), (ys.getD 14 undef), (ys.getD 15 undef), (ys.getD 16 undef), (ys.getD 17 undef), (ys.getD 18 undef), (ys.getD 19 undef), (ys.getD 20 undef), (ys.getD 21 undef), (ys.getD 22 undef), (ys.getD 23 undef), (ys.getD 24 undef), (ys.getD 25 undef), (ys.getD 26 undef), (ys.getD 27 undef), (ys.getD 28 undef), (ys.getD 29 undef), (ys.getD 30 undef), (ys.getD 31 undef), (ys.getD 32 undef), (ys.getD 33 undef), (ys.getD 34 undef), (ys.getD 35 undef), undef] H))) :
    LA en L_crossbarref08_under_0 [(.int .u64 t0), (.int .u64 t1), (.int .u64 t2), undef, undef, undef, (.int .u64 0), (.int .u64 t7), (.int .i64 t8), t9, t10, t11, t12, t13, t14, t15, t16, t17, t18, t19, t20, t21, t22, t23, t24, t25, t26, t27, t28, t29, t30, t31, t32, t33, t34, t35, undef] H [(X.exit 0, K0)] := by
  refine LA_rule (Z := []) (fun m xs H' => AS.asInt .u64 (xs.getD 7 undef) fun t7 => AS.asInt .i64 (xs.getD 8 undef) fun t8 => I m t7 t8 H') ?_ n H ?_
  · intro n H
    suffices hs : ∀ s10 : Value, ∀ s11 : Value, ∀ s14 : Value, ∀ s15 : Value, ∀ s16 : Value, ∀ s17 : Value, ∀ s18 : Value, ∀ s9 : Value, ∀ s19 : Value, ∀ s20 : Value, ∀ s21 : Value, ∀ s22 : Value, ∀ s23 : Value, ∀ s24 : Value, ∀ s25 : Value, ∀ s26 : Value, ∀ s27 : Value, ∀ s28 : Value, ∀ s29 : Value, ∀ s30 : Value, ∀ s31 : Value, ∀ s32 : Value, ∀ s33 : Value, ∀ s34 : Value, ∀ s35 : Value, ∀ s7 : Value, ∀ s12 : Value, ∀ s13 : Value, ∀ s8 : Value, ((AS.asInt .u64 s7 fun t7 => AS.asInt .i64 s8 fun t8 => I n t7 t8 H) → wpCode en L_crossbarref08_under_0 [] [(.int .u64 t0), (.int .u64 t1), (.int .u64 t2), undef, undef, undef, (.int .u64 0), s7, s8, s9, s10, s11, s12, s13, s14, s15, s16, s17, s18, s19, s20, s21, s22, s23, s24, s25, s26, s27, s28, s29, s30, s31, s32, s33, s34, s35, undef] H (loopQ (fun m xs H' => AS.asInt .u64 (xs.getD 7 undef) fun t7 => AS.asInt .i64 (xs.getD 8 undef) fun t8 => I m t7 t8 H') n [(X.exit 0, K0)])) by
      apply turnInto hs
      kernel_rfl
    intro s10 s11 s14 s15 s16 s17 s18 s9 s19 s20 s21 s22 s23 s24 s25 s26 s27 s28 s29 s30 s31 s32 s33 s34 s35 s7 s12 s13 s8 hP
    replace hP := asInt_elim hP
    obtain ⟨t7, rfl, hP⟩ := hP
    replace hP := asInt_elim hP
    obtain ⟨t8, rfl, hP⟩ := hP
    apply turnInto (hstep n t7 t8 [(.int .u64 t0), (.int .u64 t1), (.int .u64 t2), undef, undef, undef, (.int .u64 0), (.int .u64 t7), (.int .i64 t8), s9, s10, s11, s12, s13, s14, s15, s16, s17, s18, s19, s20, s21, s22, s23, s24, s25, s26, s27, s28, s29, s30, s31, s32, s33, s34, s35, undef] H hP)
    kernel_rfl
  · apply turnInto h0
    kernel_rfl


/-! crossbarlaw08_does -/

theorem vc_crossbarlaw08_does (x0 : Option Addr) (x1_0 : Int) (x1_1 : Int) (x1_2 : Int) (x1_3 : Int) (x1_4 : Int) (x1_5 : Int) (x1_6 : Int) (H : Heap) (R : Value → Heap → Prop) :
    (
 nwH H (.cells true 0 [(.int .i64 x1_0), (.int .i64 x1_1), (.int .i64 x1_2), (.int .i64 x1_3), (.int .u64 x1_4), (.int .u64 x1_5), (.int .u64 x1_6)]) fun i1 H2 =>
 nwH H2 (.cells true 0 [(.int .u64 0), (.bool false), (.int .i64 0), (.int .i64 0)]) fun i3 H4 =>
 nwH H4 (.cells true 0 [(.int .u64 0), (.bool false), (.int .i64 0), (.int .i64 0)]) fun i5 H6 =>
 ∃ n7, H6.cell i1 0 = some (.int .i64 n7) ∧
 CA en F.crossbarkit_Pick [(.int .i64 n7), (.int .i64 8)] H6 fun v8 H9 =>
 ∃ n10, v8 = (.int .i64 n10) ∧
 bif (n10 == 0) then (
 ∃ n11, H9.cell i1 2 = some (.int .i64 n11) ∧
 CA en F.smem_Mem_Make [(.pointer x0), (.int .i64 n11)] H9 fun v12 H13 =>
 ∃ n14, ∃ n15, v12 = (.tuple #[(.int .i64 n14), (.int .i64 n15)]) ∧
 stc H13 i5 2 [(.int .i64 n14)] fun H16 =>
 stc H16 i5 3 [(.int .i64 n15)] fun H17 =>
 ∃ n18, ∃ b19, ∃ n20, ∃ n21, H17.cellsAt i5 0 4 = some [(.int .u64 n18), (.bool b19), (.int .i64 n20), (.int .i64 n21)] ∧
 stc H17 i3 0 [(.int .u64 n18), (.bool b19), (.int .i64 n20), (.int .i64 n21)] fun H22 =>
 ∃ n23, ∃ b24, ∃ n25, ∃ n26, H22.cellsAt i3 0 4 = some [(.int .u64 n23), (.bool b24), (.int .i64 n25), (.int .i64 n26)] ∧
 R (.agg #[(.int .u64 n23), (.bool b24), (.int .i64 n25), (.int .i64 n26)]) H22)
 else (
 bif (n10 == 1) then (
 ∃ n27, H9.cell i1 1 = some (.int .i64 n27) ∧
 CA en F.smem_Mem_Free [(.pointer x0), (.int .i64 n27)] H9 fun v28 H29 =>
 ∃ b30, v28 = (.bool b30) ∧
 stc H29 i5 1 [(.bool b30)] fun H31 =>
 ∃ n32, ∃ b33, ∃ n34, ∃ n35, H31.cellsAt i5 0 4 = some [(.int .u64 n32), (.bool b33), (.int .i64 n34), (.int .i64 n35)] ∧
 stc H31 i3 0 [(.int .u64 n32), (.bool b33), (.int .i64 n34), (.int .i64 n35)] fun H36 =>
 ∃ n37, ∃ b38, ∃ n39, ∃ n40, H36.cellsAt i3 0 4 = some [(.int .u64 n37), (.bool b38), (.int .i64 n39), (.int .i64 n40)] ∧
 R (.agg #[(.int .u64 n37), (.bool b38), (.int .i64 n39), (.int .i64 n40)]) H36)
 else (
 bif (n10 == 2) then (
 ∃ n41, H9.cell i1 1 = some (.int .i64 n41) ∧
 ∃ n42, H9.cell i1 2 = some (.int .i64 n42) ∧
 CA en F.smem_Mem_Load [(.pointer x0), (.int .i64 n41), (.int .i64 n42)] H9 fun v43 H44 =>
 ∃ n45, ∃ b46, v43 = (.tuple #[(.int .u64 n45), (.bool b46)]) ∧
 stc H44 i5 0 [(.int .u64 n45)] fun H47 =>
 stc H47 i5 1 [(.bool b46)] fun H48 =>
 ∃ n49, ∃ b50, ∃ n51, ∃ n52, H48.cellsAt i5 0 4 = some [(.int .u64 n49), (.bool b50), (.int .i64 n51), (.int .i64 n52)] ∧
 stc H48 i3 0 [(.int .u64 n49), (.bool b50), (.int .i64 n51), (.int .i64 n52)] fun H53 =>
 ∃ n54, ∃ b55, ∃ n56, ∃ n57, H53.cellsAt i3 0 4 = some [(.int .u64 n54), (.bool b55), (.int .i64 n56), (.int .i64 n57)] ∧
 R (.agg #[(.int .u64 n54), (.bool b55), (.int .i64 n56), (.int .i64 n57)]) H53)
 else (
 bif (n10 == 3) then (
 ∃ n58, H9.cell i1 1 = some (.int .i64 n58) ∧
 ∃ n59, H9.cell i1 2 = some (.int .i64 n59) ∧
 ∃ n60, H9.cell i1 6 = some (.int .u64 n60) ∧
 CA en F.smem_Mem_Store [(.pointer x0), (.int .i64 n58), (.int .i64 n59), (.int .u64 n60)] H9 fun v61 H62 =>
 ∃ b63, v61 = (.bool b63) ∧
 stc H62 i5 1 [(.bool b63)] fun H64 =>
 ∃ n65, ∃ b66, ∃ n67, ∃ n68, H64.cellsAt i5 0 4 = some [(.int .u64 n65), (.bool b66), (.int .i64 n67), (.int .i64 n68)] ∧
 stc H64 i3 0 [(.int .u64 n65), (.bool b66), (.int .i64 n67), (.int .i64 n68)] fun H69 =>
 ∃ n70, ∃ b71, ∃ n72, ∃ n73, H69.cellsAt i3 0 4 = some [(.int .u64 n70), (.bool b71), (.int .i64 n72), (.int .i64 n73)] ∧
 R (.agg #[(.int .u64 n70), (.bool b71), (.int .i64 n72), (.int .i64 n73)]) H69)
 else (
 bif (n10 == 4) then (
 ∃ n74, H9.cell i1 1 = some (.int .i64 n74) ∧
 ∃ n75, H9.cell i1 2 = some (.int .i64 n75) ∧
 ∃ n76, H9.cell i1 4 = some (.int .u64 n76) ∧
 ∃ n77, H9.cell i1 6 = some (.int .u64 n77) ∧
 CA en F.smem_Mem_Mask [(.pointer x0), (.int .i64 n74), (.int .i64 n75), (.int .u64 n76), (.int .u64 n77)] H9 fun v78 H79 =>
 ∃ b80, v78 = (.bool b80) ∧
 stc H79 i5 1 [(.bool b80)] fun H81 =>
 ∃ n82, ∃ b83, ∃ n84, ∃ n85, H81.cellsAt i5 0 4 = some [(.int .u64 n82), (.bool b83), (.int .i64 n84), (.int .i64 n85)] ∧
 stc H81 i3 0 [(.int .u64 n82), (.bool b83), (.int .i64 n84), (.int .i64 n85)] fun H86 =>
 ∃ n87, ∃ b88, ∃ n89, ∃ n90, H86.cellsAt i3 0 4 = some [(.int .u64 n87), (.bool b88), (.int .i64 n89), (.int .i64 n90)] ∧
 R (.agg #[(.int .u64 n87), (.bool b88), (.int .i64 n89), (.int .i64 n90)]) H86)
 else (
 bif (n10 == 5) then (
 ∃ n91, H9.cell i1 1 = some (.int .i64 n91) ∧
 ∃ n92, H9.cell i1 2 = some (.int .i64 n92) ∧
 ∃ n93, H9.cell i1 3 = some (.int .i64 n93) ∧
 ∃ n94, H9.cell i1 4 = some (.int .u64 n94) ∧
 ∃ n95, H9.cell i1 6 = some (.int .u64 n95) ∧
 CA en F.smem_Mem_Fetch [(.pointer x0), (.int .i64 n91), (.int .i64 n92), (.int .i64 n93), (.int .u64 n94), (.int .u64 n95)] H9 fun v96 H97 =>
 ∃ n98, ∃ b99, v96 = (.tuple #[(.int .u64 n98), (.bool b99)]) ∧
 stc H97 i5 0 [(.int .u64 n98)] fun H100 =>
 stc H100 i5 1 [(.bool b99)] fun H101 =>
 ∃ n102, ∃ b103, ∃ n104, ∃ n105, H101.cellsAt i5 0 4 = some [(.int .u64 n102), (.bool b103), (.int .i64 n104), (.int .i64 n105)] ∧
 stc H101 i3 0 [(.int .u64 n102), (.bool b103), (.int .i64 n104), (.int .i64 n105)] fun H106 =>
 ∃ n107, ∃ b108, ∃ n109, ∃ n110, H106.cellsAt i3 0 4 = some [(.int .u64 n107), (.bool b108), (.int .i64 n109), (.int .i64 n110)] ∧
 R (.agg #[(.int .u64 n107), (.bool b108), (.int .i64 n109), (.int .i64 n110)]) H106)
 else (
 bif (n10 == 6) then (
 ∃ n111, H9.cell i1 1 = some (.int .i64 n111) ∧
 ∃ n112, H9.cell i1 2 = some (.int .i64 n112) ∧
 ∃ n113, H9.cell i1 4 = some (.int .u64 n113) ∧
 ∃ n114, H9.cell i1 6 = some (.int .u64 n114) ∧
 CA en F.smem_Mem_Swap [(.pointer x0), (.int .i64 n111), (.int .i64 n112), (.int .u64 n113), (.int .u64 n114)] H9 fun v115 H116 =>
 ∃ n117, ∃ b118, v115 = (.tuple #[(.int .u64 n117), (.bool b118)]) ∧
 stc H116 i5 0 [(.int .u64 n117)] fun H119 =>
 stc H119 i5 1 [(.bool b118)] fun H120 =>
 ∃ n121, ∃ b122, ∃ n123, ∃ n124, H120.cellsAt i5 0 4 = some [(.int .u64 n121), (.bool b122), (.int .i64 n123), (.int .i64 n124)] ∧
 stc H120 i3 0 [(.int .u64 n121), (.bool b122), (.int .i64 n123), (.int .i64 n124)] fun H125 =>
 ∃ n126, ∃ b127, ∃ n128, ∃ n129, H125.cellsAt i3 0 4 = some [(.int .u64 n126), (.bool b127), (.int .i64 n128), (.int .i64 n129)] ∧
 R (.agg #[(.int .u64 n126), (.bool b127), (.int .i64 n128), (.int .i64 n129)]) H125)
 else (
 bif (n10 == 7) then (
 ∃ n130, H9.cell i1 1 = some (.int .i64 n130) ∧
 ∃ n131, H9.cell i1 2 = some (.int .i64 n131) ∧
 ∃ n132, H9.cell i1 4 = some (.int .u64 n132) ∧
 ∃ n133, H9.cell i1 5 = some (.int .u64 n133) ∧
 ∃ n134, H9.cell i1 6 = some (.int .u64 n134) ∧
 CA en F.smem_Mem_Cas [(.pointer x0), (.int .i64 n130), (.int .i64 n131), (.int .u64 n132), (.int .u64 n133), (.int .u64 n134)] H9 fun v135 H136 =>
 ∃ n137, ∃ b138, v135 = (.tuple #[(.int .u64 n137), (.bool b138)]) ∧
 stc H136 i5 0 [(.int .u64 n137)] fun H139 =>
 stc H139 i5 1 [(.bool b138)] fun H140 =>
 ∃ n141, ∃ b142, ∃ n143, ∃ n144, H140.cellsAt i5 0 4 = some [(.int .u64 n141), (.bool b142), (.int .i64 n143), (.int .i64 n144)] ∧
 stc H140 i3 0 [(.int .u64 n141), (.bool b142), (.int .i64 n143), (.int .i64 n144)] fun H145 =>
 ∃ n146, ∃ b147, ∃ n148, ∃ n149, H145.cellsAt i3 0 4 = some [(.int .u64 n146), (.bool b147), (.int .i64 n148), (.int .i64 n149)] ∧
 R (.agg #[(.int .u64 n146), (.bool b147), (.int .i64 n148), (.int .i64 n149)]) H145)
 else (
 ∃ n150, ∃ b151, ∃ n152, ∃ n153, H9.cellsAt i5 0 4 = some [(.int .u64 n150), (.bool b151), (.int .i64 n152), (.int .i64 n153)] ∧
 stc H9 i3 0 [(.int .u64 n150), (.bool b151), (.int .i64 n152), (.int .i64 n153)] fun H154 =>
 ∃ n155, ∃ b156, ∃ n157, ∃ n158, H154.cellsAt i3 0 4 = some [(.int .u64 n155), (.bool b156), (.int .i64 n157), (.int .i64 n158)] ∧
 R (.agg #[(.int .u64 n155), (.bool b156), (.int .i64 n157), (.int .i64 n158)]) H154))))))))) →
    CA en F.crossbarlaw08_does [(.pointer x0), (.agg #[(.int .i64 x1_0), (.int .i64 x1_1), (.int .i64 x1_2), (.int .i64 x1_3), (.int .u64 x1_4), (.int .u64 x1_5), (.int .u64 x1_6)])] H R := by
  intro h
  refine wpFn_ok (Z := []) (fn := Go.Proofs.Try.f40) ?_ ?_ ?_
  · kernel_rfl
  · kernel_rfl
  · apply turnInto h
    kernel_rfl


/-! crossbarlaw08_should -/

theorem vc_crossbarlaw08_should (x0 : Option Addr) (x1_0 : Int) (x1_1 : Int) (x1_2 : Int) (x1_3 : Int) (x1_4 : Int) (x1_5 : Int) (x1_6 : Int) (H : Heap) (R : Value → Heap → Prop) :
    (
 nwH H (.cells true 0 [(.int .i64 x1_0), (.int .i64 x1_1), (.int .i64 x1_2), (.int .i64 x1_3), (.int .u64 x1_4), (.int .u64 x1_5), (.int .u64 x1_6)]) fun i1 H2 =>
 nwH H2 (.cells true 0 [(.int .u64 0), (.bool false), (.int .i64 0), (.int .i64 0)]) fun i3 H4 =>
 nwH H4 (.cells true 0 [(.int .u64 0), (.bool false), (.int .i64 0), (.int .i64 0)]) fun i5 H6 =>
 ∃ n7, H6.cell i1 0 = some (.int .i64 n7) ∧
 CA en F.crossbarkit_Pick [(.int .i64 n7), (.int .i64 8)] H6 fun v8 H9 =>
 ∃ n10, v8 = (.int .i64 n10) ∧
 bif (n10 == 0) then (
 ∃ n11, H9.cell i1 2 = some (.int .i64 n11) ∧
 CA en F.crossbarref08_Mem_Make [(.pointer x0), (.int .i64 n11)] H9 fun v12 H13 =>
 ∃ n14, ∃ n15, v12 = (.tuple #[(.int .i64 n14), (.int .i64 n15)]) ∧
 stc H13 i5 2 [(.int .i64 n14)] fun H16 =>
 stc H16 i5 3 [(.int .i64 n15)] fun H17 =>
 ∃ n18, ∃ b19, ∃ n20, ∃ n21, H17.cellsAt i5 0 4 = some [(.int .u64 n18), (.bool b19), (.int .i64 n20), (.int .i64 n21)] ∧
 stc H17 i3 0 [(.int .u64 n18), (.bool b19), (.int .i64 n20), (.int .i64 n21)] fun H22 =>
 ∃ n23, ∃ b24, ∃ n25, ∃ n26, H22.cellsAt i3 0 4 = some [(.int .u64 n23), (.bool b24), (.int .i64 n25), (.int .i64 n26)] ∧
 R (.agg #[(.int .u64 n23), (.bool b24), (.int .i64 n25), (.int .i64 n26)]) H22)
 else (
 bif (n10 == 1) then (
 ∃ n27, H9.cell i1 1 = some (.int .i64 n27) ∧
 CA en F.crossbarref08_Mem_Free [(.pointer x0), (.int .i64 n27)] H9 fun v28 H29 =>
 ∃ b30, v28 = (.bool b30) ∧
 stc H29 i5 1 [(.bool b30)] fun H31 =>
 ∃ n32, ∃ b33, ∃ n34, ∃ n35, H31.cellsAt i5 0 4 = some [(.int .u64 n32), (.bool b33), (.int .i64 n34), (.int .i64 n35)] ∧
 stc H31 i3 0 [(.int .u64 n32), (.bool b33), (.int .i64 n34), (.int .i64 n35)] fun H36 =>
 ∃ n37, ∃ b38, ∃ n39, ∃ n40, H36.cellsAt i3 0 4 = some [(.int .u64 n37), (.bool b38), (.int .i64 n39), (.int .i64 n40)] ∧
 R (.agg #[(.int .u64 n37), (.bool b38), (.int .i64 n39), (.int .i64 n40)]) H36)
 else (
 bif (n10 == 2) then (
 ∃ n41, H9.cell i1 1 = some (.int .i64 n41) ∧
 ∃ n42, H9.cell i1 2 = some (.int .i64 n42) ∧
 CA en F.crossbarref08_Mem_Load [(.pointer x0), (.int .i64 n41), (.int .i64 n42)] H9 fun v43 H44 =>
 ∃ n45, ∃ b46, v43 = (.tuple #[(.int .u64 n45), (.bool b46)]) ∧
 stc H44 i5 0 [(.int .u64 n45)] fun H47 =>
 stc H47 i5 1 [(.bool b46)] fun H48 =>
 ∃ n49, ∃ b50, ∃ n51, ∃ n52, H48.cellsAt i5 0 4 = some [(.int .u64 n49), (.bool b50), (.int .i64 n51), (.int .i64 n52)] ∧
 stc H48 i3 0 [(.int .u64 n49), (.bool b50), (.int .i64 n51), (.int .i64 n52)] fun H53 =>
 ∃ n54, ∃ b55, ∃ n56, ∃ n57, H53.cellsAt i3 0 4 = some [(.int .u64 n54), (.bool b55), (.int .i64 n56), (.int .i64 n57)] ∧
 R (.agg #[(.int .u64 n54), (.bool b55), (.int .i64 n56), (.int .i64 n57)]) H53)
 else (
 bif (n10 == 3) then (
 ∃ n58, H9.cell i1 1 = some (.int .i64 n58) ∧
 ∃ n59, H9.cell i1 2 = some (.int .i64 n59) ∧
 ∃ n60, H9.cell i1 6 = some (.int .u64 n60) ∧
 CA en F.crossbarref08_Mem_Store [(.pointer x0), (.int .i64 n58), (.int .i64 n59), (.int .u64 n60)] H9 fun v61 H62 =>
 ∃ b63, v61 = (.bool b63) ∧
 stc H62 i5 1 [(.bool b63)] fun H64 =>
 ∃ n65, ∃ b66, ∃ n67, ∃ n68, H64.cellsAt i5 0 4 = some [(.int .u64 n65), (.bool b66), (.int .i64 n67), (.int .i64 n68)] ∧
 stc H64 i3 0 [(.int .u64 n65), (.bool b66), (.int .i64 n67), (.int .i64 n68)] fun H69 =>
 ∃ n70, ∃ b71, ∃ n72, ∃ n73, H69.cellsAt i3 0 4 = some [(.int .u64 n70), (.bool b71), (.int .i64 n72), (.int .i64 n73)] ∧
 R (.agg #[(.int .u64 n70), (.bool b71), (.int .i64 n72), (.int .i64 n73)]) H69)
 else (
 bif (n10 == 4) then (
 ∃ n74, H9.cell i1 1 = some (.int .i64 n74) ∧
 ∃ n75, H9.cell i1 2 = some (.int .i64 n75) ∧
 ∃ n76, H9.cell i1 4 = some (.int .u64 n76) ∧
 ∃ n77, H9.cell i1 6 = some (.int .u64 n77) ∧
 CA en F.crossbarref08_Mem_Mask [(.pointer x0), (.int .i64 n74), (.int .i64 n75), (.int .u64 n76), (.int .u64 n77)] H9 fun v78 H79 =>
 ∃ b80, v78 = (.bool b80) ∧
 stc H79 i5 1 [(.bool b80)] fun H81 =>
 ∃ n82, ∃ b83, ∃ n84, ∃ n85, H81.cellsAt i5 0 4 = some [(.int .u64 n82), (.bool b83), (.int .i64 n84), (.int .i64 n85)] ∧
 stc H81 i3 0 [(.int .u64 n82), (.bool b83), (.int .i64 n84), (.int .i64 n85)] fun H86 =>
 ∃ n87, ∃ b88, ∃ n89, ∃ n90, H86.cellsAt i3 0 4 = some [(.int .u64 n87), (.bool b88), (.int .i64 n89), (.int .i64 n90)] ∧
 R (.agg #[(.int .u64 n87), (.bool b88), (.int .i64 n89), (.int .i64 n90)]) H86)
 else (
 bif (n10 == 5) then (
 ∃ n91, H9.cell i1 1 = some (.int .i64 n91) ∧
 ∃ n92, H9.cell i1 2 = some (.int .i64 n92) ∧
 ∃ n93, H9.cell i1 3 = some (.int .i64 n93) ∧
 ∃ n94, H9.cell i1 4 = some (.int .u64 n94) ∧
 ∃ n95, H9.cell i1 6 = some (.int .u64 n95) ∧
 CA en F.crossbarref08_Mem_Fetch [(.pointer x0), (.int .i64 n91), (.int .i64 n92), (.int .i64 n93), (.int .u64 n94), (.int .u64 n95)] H9 fun v96 H97 =>
 ∃ n98, ∃ b99, v96 = (.tuple #[(.int .u64 n98), (.bool b99)]) ∧
 stc H97 i5 0 [(.int .u64 n98)] fun H100 =>
 stc H100 i5 1 [(.bool b99)] fun H101 =>
 ∃ n102, ∃ b103, ∃ n104, ∃ n105, H101.cellsAt i5 0 4 = some [(.int .u64 n102), (.bool b103), (.int .i64 n104), (.int .i64 n105)] ∧
 stc H101 i3 0 [(.int .u64 n102), (.bool b103), (.int .i64 n104), (.int .i64 n105)] fun H106 =>
 ∃ n107, ∃ b108, ∃ n109, ∃ n110, H106.cellsAt i3 0 4 = some [(.int .u64 n107), (.bool b108), (.int .i64 n109), (.int .i64 n110)] ∧
 R (.agg #[(.int .u64 n107), (.bool b108), (.int .i64 n109), (.int .i64 n110)]) H106)
 else (
 bif (n10 == 6) then (
 ∃ n111, H9.cell i1 1 = some (.int .i64 n111) ∧
 ∃ n112, H9.cell i1 2 = some (.int .i64 n112) ∧
 ∃ n113, H9.cell i1 4 = some (.int .u64 n113) ∧
 ∃ n114, H9.cell i1 6 = some (.int .u64 n114) ∧
 CA en F.crossbarref08_Mem_Swap [(.pointer x0), (.int .i64 n111), (.int .i64 n112), (.int .u64 n113), (.int .u64 n114)] H9 fun v115 H116 =>
 ∃ n117, ∃ b118, v115 = (.tuple #[(.int .u64 n117), (.bool b118)]) ∧
 stc H116 i5 0 [(.int .u64 n117)] fun H119 =>
 stc H119 i5 1 [(.bool b118)] fun H120 =>
 ∃ n121, ∃ b122, ∃ n123, ∃ n124, H120.cellsAt i5 0 4 = some [(.int .u64 n121), (.bool b122), (.int .i64 n123), (.int .i64 n124)] ∧
 stc H120 i3 0 [(.int .u64 n121), (.bool b122), (.int .i64 n123), (.int .i64 n124)] fun H125 =>
 ∃ n126, ∃ b127, ∃ n128, ∃ n129, H125.cellsAt i3 0 4 = some [(.int .u64 n126), (.bool b127), (.int .i64 n128), (.int .i64 n129)] ∧
 R (.agg #[(.int .u64 n126), (.bool b127), (.int .i64 n128), (.int .i64 n129)]) H125)
 else (
 bif (n10 == 7) then (
 ∃ n130, H9.cell i1 1 = some (.int .i64 n130) ∧
 ∃ n131, H9.cell i1 2 = some (.int .i64 n131) ∧
 ∃ n132, H9.cell i1 4 = some (.int .u64 n132) ∧
 ∃ n133, H9.cell i1 5 = some (.int .u64 n133) ∧
 ∃ n134, H9.cell i1 6 = some (.int .u64 n134) ∧
 CA en F.crossbarref08_Mem_Cas [(.pointer x0), (.int .i64 n130), (.int .i64 n131), (.int .u64 n132), (.int .u64 n133), (.int .u64 n134)] H9 fun v135 H136 =>
 ∃ n137, ∃ b138, v135 = (.tuple #[(.int .u64 n137), (.bool b138)]) ∧
 stc H136 i5 0 [(.int .u64 n137)] fun H139 =>
 stc H139 i5 1 [(.bool b138)] fun H140 =>
 ∃ n141, ∃ b142, ∃ n143, ∃ n144, H140.cellsAt i5 0 4 = some [(.int .u64 n141), (.bool b142), (.int .i64 n143), (.int .i64 n144)] ∧
 stc H140 i3 0 [(.int .u64 n141), (.bool b142), (.int .i64 n143), (.int .i64 n144)] fun H145 =>
 ∃ n146, ∃ b147, ∃ n148, ∃ n149, H145.cellsAt i3 0 4 = some [(.int .u64 n146), (.bool b147), (.int .i64 n148), (.int .i64 n149)] ∧
 R (.agg #[(.int .u64 n146), (.bool b147), (.int .i64 n148), (.int .i64 n149)]) H145)
 else (
 ∃ n150, ∃ b151, ∃ n152, ∃ n153, H9.cellsAt i5 0 4 = some [(.int .u64 n150), (.bool b151), (.int .i64 n152), (.int .i64 n153)] ∧
 stc H9 i3 0 [(.int .u64 n150), (.bool b151), (.int .i64 n152), (.int .i64 n153)] fun H154 =>
 ∃ n155, ∃ b156, ∃ n157, ∃ n158, H154.cellsAt i3 0 4 = some [(.int .u64 n155), (.bool b156), (.int .i64 n157), (.int .i64 n158)] ∧
 R (.agg #[(.int .u64 n155), (.bool b156), (.int .i64 n157), (.int .i64 n158)]) H154))))))))) →
    CA en F.crossbarlaw08_should [(.pointer x0), (.agg #[(.int .i64 x1_0), (.int .i64 x1_1), (.int .i64 x1_2), (.int .i64 x1_3), (.int .u64 x1_4), (.int .u64 x1_5), (.int .u64 x1_6)])] H R := by
  intro h
  refine wpFn_ok (Z := []) (fn := Go.Proofs.Try.f46) ?_ ?_ ?_
  · kernel_rfl
  · kernel_rfl
  · apply turnInto h
    kernel_rfl


/-! crossbarlaw08_words -/
noncomputable def L_crossbarlaw08_words_0 : Code := loopAt Go.Proofs.Try.f41 0
noncomputable def L_crossbarlaw08_words_1 : Code := loopAt Go.Proofs.Try.f41 1

theorem vc_crossbarlaw08_words (x0 : Option Addr) (x1 : Int) (H : Heap) (R : Value → Heap → Prop) :
    (
 LA en L_crossbarlaw08_words_0 [(.pointer x0), (.int .i64 x1), undef, undef, (.slice none 0 0), (.slice none 0 0), (.int .i64 1), undef, undef, undef, undef, undef, undef, undef, undef, undef, undef, undef, undef, undef, undef, undef, undef, undef, undef, undef, undef, undef, undef, undef, undef, undef, undef, undef, undef, undef, undef, undef, undef, undef, undef, undef, undef] H [(X.exit 0, fun (x1 : Fr) (H2 : Heap) =>
 asSl (x1.getD 5 undef) fun a3 i4 =>
 R (.slice a3 i4 0) H2)]) →
    CA en F.crossbarlaw08_words [(.pointer x0), (.int .i64 x1)] H R := by
  intro h
  refine wpFn_ok (Z := [[(5, (.slice none 0 0))], [(7, (.slice none 0 0))]]) (fn := Go.Proofs.Try.f41) ?_ ?_ ?_
  · kernel_rfl
  · kernel_rfl
  · apply turnInto h
    kernel_rfl

/-! crossbarlaw08_SmemLaws -/

/-! crossbarlaw08_SmemApart -/
noncomputable def L_crossbarlaw08_SmemApart_0 : Code := loopAt Go.Proofs.Try.f8 0
noncomputable def L_crossbarlaw08_SmemApart_1 : Code := loopAt Go.Proofs.Try.f8 1
noncomputable def L_crossbarlaw08_SmemApart_2 : Code := loopAt Go.Proofs.Try.f8 2

/-! crossbarlaw08_SmemKnown -/

/-! crossbarlaw08_SmemPlays -/
noncomputable def L_crossbarlaw08_SmemPlays_0 : Code := loopAt Go.Proofs.Try.f10 0

theorem vc_crossbarlaw08_SmemPlays (x0 : Int) (x1 : Option Addr) (x1l : Nat) (H : Heap) (R : Value → Heap → Prop) :
    (
 CA en F.smem_New [(.int .i64 x0)] H fun v1 H2 =>
 ∃ a3, v1 = (.pointer a3) ∧
 bif a3.isNone then (
 bif (!a3.isNone) then (
 CA en F.crossbarlaw08_known [] H2 fun v4 H5 =>
 ∃ b6, v4 = (.bool b6) ∧
 R (.bool b6) H5)
 else (
 R (.bool false) H2))
 else (
 bif (decide (((x1l : Nat) : Int) > 300)) then (
 bif (!a3.isNone) then (
 CA en F.crossbarlaw08_known [] H2 fun v7 H8 =>
 ∃ b9, v7 = (.bool b9) ∧
 R (.bool b9) H8)
 else (
 R (.bool false) H2))
 else (
 CA en F.crossbarref08_New [(.int .i64 x0)] H2 fun v10 H11 =>
 ∃ a12, v10 = (.pointer a12) ∧
 LA en L_crossbarlaw08_SmemPlays_0 [(.int .i64 x0), (.slice x1 x1l 0), undef, undef, (.bool false), (.pointer a3), (.pointer a12), (.int .i64 0), (.int .i64 x0), (.pointer a3), (.pointer a3), (.bool a3.isNone), (.bool false), (.slice x1 x1l 0), (.int .i64 ((x1l : Nat) : Int)), (.bool (decide (((x1l : Nat) : Int) > 300))), (.bool false), undef, undef, undef, undef, undef, (.int .i64 x0), (.pointer a12), undef, undef, undef, undef, undef, undef, undef, undef, undef, undef, undef, undef, undef, undef, undef, undef, undef, undef, undef, undef, undef, undef, undef, undef, undef, undef, undef, undef, undef, undef, undef, undef, undef, undef, undef, undef, undef, undef, undef, undef, undef, undef, undef, undef, undef, undef, undef, undef, undef, undef, undef, undef, undef, undef, undef, undef, undef, undef, undef, undef, undef, undef, undef, undef, undef] H11 [(X.exit 0, fun (x13 : Fr) (H14 : Heap) =>
 AS.asBool (x13.getD 4 undef) fun b15 =>
 CA en F.crossbarlaw08_known [] H14 fun v16 H17 =>
 ∃ b18, v16 = (.bool b18) ∧
 R (.bool b18) H17),
 (X.ret, fun (x19 : Fr) (H20 : Heap) =>
 AS.asBool (x19.getD 4 undef) fun b21 =>
 R (.bool b21) H20)]))) →
    CA en F.crossbarlaw08_SmemPlays [(.int .i64 x0), (.slice x1 x1l 0)] H R := by
  intro h
  refine wpFn_ok (Z := [[(4, (.bool false))]]) (fn := Go.Proofs.Try.f10) ?_ ?_ ?_
  · kernel_rfl
  · kernel_rfl
  · apply turnInto h
    kernel_rfl

theorem use_crossbarlaw08_SmemPlays_0 {t0 : Int} {t1 : Option Addr} {t1l : Nat} {t5 : Option Addr} {t6 : Option Addr} {t8 : Int} {t9 : Option Addr} {t10 : Option Addr} {t11 : Bool} {t13 : Option Addr} {t13l : Nat} {t14 : Int} {t15 : Bool} {t22 : Int} {t23 : Option Addr} {K0 : Fr → Heap → Prop} {K1 : Fr → Heap → Prop} {t4 : Bool} {t7 : Int} {t24 : Value} {t25 : Value} {t26 : Value} {t27 : Value} {t28 : Value} {t29 : Value} {t30 : Value} {t31 : Value} {t32 : Value} {t33 : Value} {t34 : Value} {t35 : Value} {t36 : Value} {t37 : Value} {t38 : Value} {t39 : Value} {t40 : Value} {t41 : Value} {t42 : Value} {t43 : Value} {t44 : Value} {t45 : Value} {t46 : Value} {t47 : Value} {t48 : Value} {t49 : Value} {t50 : Value} {t51 : Value} {t52 : Value} {t53 : Value} {t54 : Value} {t55 : Value} {t56 : Value} {t57 : Value} {t58 : Value} {t59 : Value} {t60 : Value} {t61 : Value} {t62 : Value} {t63 : Value} {t64 : Value} {t65 : Value} {t66 : Value} {t67 : Value} {t68 : Value} {t69 : Value} {t70 : Value} {t71 : Value} {t72 : Value} {t73 : Value} {t74 : Value} {t75 : Value} {t76 : Value} {t77 : Value} {t78 : Value} {t79 : Value} {t80 : Value} {t81 : Value} {t82 : Value} {t83 : Value} {t84 : Value} {t85 : Value} {t86 : Value} {t87 : Value} {H : Heap} (I : Nat → Bool → Int → Heap → Prop) (n : Nat) (h0 : I n t4 t7 H)
    (hstep : ∀ (n : Nat) (t4 : Bool) (t7 : Int) (ys : Fr) (H : Heap), I n t4 t7 H →
    (
 bif (decide (t7 < ((t1l : Nat) : Int))) then (
 inB t7 t1l ∧
 asRow t1 fun i1 i2 =>
 ∃ n3, ∃ n4, ∃ n5, ∃ n6, ∃ n7, ∃ n8, ∃ n9, (H.bump 58).cellsAt i1 (i2 + (t7.toNat * 7)) 7 = some [(.int .i64 n3), (.int .i64 n4), (.int .i64 n5), (.int .i64 n6), (.int .u64 n7), (.int .u64 n8), (.int .u64 n9)] ∧
 CA en F.crossbarlaw08_does [(.pointer t5), (.agg #[(.int .i64 n3), (.int .i64 n4), (.int .i64 n5), (.int .i64 n6), (.int .u64 n7), (.int .u64 n8), (.int .u64 n9)])] (H.bump 58) fun v10 H11 =>
 ∃ n12, ∃ b13, ∃ n14, ∃ n15, v10 = (.agg #[(.int .u64 n12), (.bool b13), (.int .i64 n14), (.int .i64 n15)]) ∧
 inB t7 t1l ∧
 asRow t1 fun i16 i17 =>
 ∃ n18, ∃ n19, ∃ n20, ∃ n21, ∃ n22, ∃ n23, ∃ n24, H11.cellsAt i16 (i17 + (t7.toNat * 7)) 7 = some [(.int .i64 n18), (.int .i64 n19), (.int .i64 n20), (.int .i64 n21), (.int .u64 n22), (.int .u64 n23), (.int .u64 n24)] ∧
 CA en F.crossbarlaw08_should [(.pointer t6), (.agg #[(.int .i64 n18), (.int .i64 n19), (.int .i64 n20), (.int .i64 n21), (.int .u64 n22), (.int .u64 n23), (.int .u64 n24)])] H11 fun v25 H26 =>
 ∃ n27, ∃ b28, ∃ n29, ∃ n30, v25 = (.agg #[(.int .u64 n27), (.bool b28), (.int .i64 n29), (.int .i64 n30)]) ∧
 bif (!((n12 == n27) && ((b13 == b28) && ((n14 == n29) && (n15 == n30))))) then (
 (
 K1 [(.int .i64 t0), (.slice t1 t1l 0), undef, undef, (.bool false), (.pointer t5), (.pointer t6), (.int .i64 t7), (.int .i64 t8), (.pointer t9), (.pointer t10), (.bool t11), (.bool false), (.slice t13 t13l 0), (.int .i64 t14), (.bool t15), (.bool false), undef, undef, undef, undef, undef, (.int .i64 t22), (.pointer t23), (.int .i64 t7), (.slice t1 t1l 0), (.int .i64 ((t1l : Nat) : Int)), (.bool true), (ys.getD 28 undef), (ys.getD 29 undef), (.pointer t5), (.slice t1 t1l 0), (.int .i64 t7), (.pointer (some ⟨i1, (i2 + (t7.toNat * 7)), none⟩)), (.agg #[(.int .i64 n3), (.int .i64 n4), (.int .i64 n5), (.int .i64 n6), (.int .u64 n7), (.int .u64 n8), (.int .u64 n9)]), (.agg #[(.int .u64 n12), (.bool b13), (.int .i64 n14), (.int .i64 n15)]), (.pointer t6), (.slice t1 t1l 0), (.int .i64 t7), (.pointer (some ⟨i16, (i17 + (t7.toNat * 7)), none⟩)), (.agg #[(.int .i64 n18), (.int .i64 n19), (.int .i64 n20), (.int .i64 n21), (.int .u64 n22), (.int .u64 n23), (.int .u64 n24)]), (.agg #[(.int .u64 n27), (.bool b28), (.int .i64 n29), (.int .i64 n30)]), (.bool (!((n12 == n27) && ((b13 == b28) && ((n14 == n29) && (n15 == n30)))))), (.bool true), undef, undef, undef, undef, undef, (.bool true), (.bool true), undef, undef, undef, undef, undef, (.bool true), (.bool true), undef, undef, undef, undef, undef, (.bool true), (.bool true), undef, undef, undef, undef, undef, (.bool true), (.bool true), undef, undef, undef, undef, undef, undef, undef, undef, undef, undef, undef, undef, undef, undef, undef, (.bool true), undef] H26) ∧
 ((∃ n38, ∃ n39, ∃ n40, ∃ n41, ∃ n42, ∃ n43, ∃ n44, (H.bump 58).cellsAt i16 (i17 + (t7.toNat * 7)) 7 = some [(.int .i64 n38), (.int .i64 n39), (.int .i64 n40), (.int .i64 n41), (.int .u64 n42), (.int .u64 n43), (.int .u64 n44)] ∧
 sameN 8 (.agg #[(.int .i64 n18), (.int .i64 n19), (.int .i64 n20), (.int .i64 n21), (.int .u64 n22), (.int .u64 n23), (.int .u64 n24)]) (.agg #[(.int .i64 n38), (.int .i64 n39), (.int .i64 n40), (.int .i64 n41), (.int .u64 n42), (.int .u64 n43), (.int .u64 n44)]) = true) ∧ (∃ n31, ∃ n32, ∃ n33, ∃ n34, ∃ n35, ∃ n36, ∃ n37, H11.cellsAt i16 (i17 + (t7.toNat * 7)) 7 = some [(.int .i64 n31), (.int .i64 n32), (.int .i64 n33), (.int .i64 n34), (.int .u64 n35), (.int .u64 n36), (.int .u64 n37)] ∧
 sameN 8 (.agg #[(.int .i64 n18), (.int .i64 n19), (.int .i64 n20), (.int .i64 n21), (.int .u64 n22), (.int .u64 n23), (.int .u64 n24)]) (.agg #[(.int .i64 n31), (.int .i64 n32), (.int .i64 n33), (.int .i64 n34), (.int .u64 n35), (.int .u64 n36), (.int .u64 n37)]) = true) ∧ True) ∧
 True)
 else (
 CA en F.smem_Mem_Room [(.pointer t5)] H26 fun v45 H46 =>
 ∃ n47, v45 = (.int .i64 n47) ∧
 CA en F.crossbarref08_Mem_Room [(.pointer t6)] H46 fun v48 H49 =>
 ∃ n50, v48 = (.int .i64 n50) ∧
 bif (n47 != n50) then (
 (
 K1 [(.int .i64 t0), (.slice t1 t1l 0), undef, undef, (.bool false), (.pointer t5), (.pointer t6), (.int .i64 t7), (.int .i64 t8), (.pointer t9), (.pointer t10), (.bool t11), (.bool false), (.slice t13 t13l 0), (.int .i64 t14), (.bool t15), (.bool false), undef, undef, undef, undef, undef, (.int .i64 t22), (.pointer t23), (.int .i64 t7), (.slice t1 t1l 0), (.int .i64 ((t1l : Nat) : Int)), (.bool true), (ys.getD 28 undef), (ys.getD 29 undef), (.pointer t5), (.slice t1 t1l 0), (.int .i64 t7), (.pointer (some ⟨i1, (i2 + (t7.toNat * 7)), none⟩)), (.agg #[(.int .i64 n3), (.int .i64 n4), (.int .i64 n5), (.int .i64 n6), (.int .u64 n7), (.int .u64 n8), (.int .u64 n9)]), (.agg #[(.int .u64 n12), (.bool b13), (.int .i64 n14), (.int .i64 n15)]), (.pointer t6), (.slice t1 t1l 0), (.int .i64 t7), (.pointer (some ⟨i16, (i17 + (t7.toNat * 7)), none⟩)), (.agg #[(.int .i64 n18), (.int .i64 n19), (.int .i64 n20), (.int .i64 n21), (.int .u64 n22), (.int .u64 n23), (.int .u64 n24)]), (.agg #[(.int .u64 n27), (.bool b28), (.int .i64 n29), (.int .i64 n30)]), (.bool (!((n12 == n27) && ((b13 == b28) && ((n14 == n29) && (n15 == n30)))))), (.bool false), (.pointer t5), (.int .i64 n47), (.pointer t6), (.int .i64 n50), (.bool (n47 != n50)), (.bool (n47 != n50)), (.bool true), undef, undef, undef, undef, undef, (.bool true), (.bool true), undef, undef, undef, undef, undef, (.bool true), (.bool true), undef, undef, undef, undef, undef, (.bool true), (.bool true), undef, undef, undef, undef, undef, undef, undef, undef, undef, undef, undef, undef, undef, undef, undef, (.bool true), undef] H49) ∧
 ((∃ n58, ∃ n59, ∃ n60, ∃ n61, ∃ n62, ∃ n63, ∃ n64, (H.bump 58).cellsAt i16 (i17 + (t7.toNat * 7)) 7 = some [(.int .i64 n58), (.int .i64 n59), (.int .i64 n60), (.int .i64 n61), (.int .u64 n62), (.int .u64 n63), (.int .u64 n64)] ∧
 sameN 8 (.agg #[(.int .i64 n18), (.int .i64 n19), (.int .i64 n20), (.int .i64 n21), (.int .u64 n22), (.int .u64 n23), (.int .u64 n24)]) (.agg #[(.int .i64 n58), (.int .i64 n59), (.int .i64 n60), (.int .i64 n61), (.int .u64 n62), (.int .u64 n63), (.int .u64 n64)]) = true) ∧ (∃ n51, ∃ n52, ∃ n53, ∃ n54, ∃ n55, ∃ n56, ∃ n57, H11.cellsAt i16 (i17 + (t7.toNat * 7)) 7 = some [(.int .i64 n51), (.int .i64 n52), (.int .i64 n53), (.int .i64 n54), (.int .u64 n55), (.int .u64 n56), (.int .u64 n57)] ∧
 sameN 8 (.agg #[(.int .i64 n18), (.int .i64 n19), (.int .i64 n20), (.int .i64 n21), (.int .u64 n22), (.int .u64 n23), (.int .u64 n24)]) (.agg #[(.int .i64 n51), (.int .i64 n52), (.int .i64 n53), (.int .i64 n54), (.int .u64 n55), (.int .u64 n56), (.int .u64 n57)]) = true) ∧ True) ∧
 True)
 else (
 CA en F.smem_Mem_Live [(.pointer t5)] H49 fun v65 H66 =>
 ∃ n67, v65 = (.int .i64 n67) ∧
 CA en F.crossbarref08_Mem_Live [(.pointer t6)] H66 fun v68 H69 =>
 ∃ n70, v68 = (.int .i64 n70) ∧
 bif (n67 != n70) then (
 (
 K1 [(.int .i64 t0), (.slice t1 t1l 0), undef, undef, (.bool false), (.pointer t5), (.pointer t6), (.int .i64 t7), (.int .i64 t8), (.pointer t9), (.pointer t10), (.bool t11), (.bool false), (.slice t13 t13l 0), (.int .i64 t14), (.bool t15), (.bool false), undef, undef, undef, undef, undef, (.int .i64 t22), (.pointer t23), (.int .i64 t7), (.slice t1 t1l 0), (.int .i64 ((t1l : Nat) : Int)), (.bool true), (ys.getD 28 undef), (ys.getD 29 undef), (.pointer t5), (.slice t1 t1l 0), (.int .i64 t7), (.pointer (some ⟨i1, (i2 + (t7.toNat * 7)), none⟩)), (.agg #[(.int .i64 n3), (.int .i64 n4), (.int .i64 n5), (.int .i64 n6), (.int .u64 n7), (.int .u64 n8), (.int .u64 n9)]), (.agg #[(.int .u64 n12), (.bool b13), (.int .i64 n14), (.int .i64 n15)]), (.pointer t6), (.slice t1 t1l 0), (.int .i64 t7), (.pointer (some ⟨i16, (i17 + (t7.toNat * 7)), none⟩)), (.agg #[(.int .i64 n18), (.int .i64 n19), (.int .i64 n20), (.int .i64 n21), (.int .u64 n22), (.int .u64 n23), (.int .u64 n24)]), (.agg #[(.int .u64 n27), (.bool b28), (.int .i64 n29), (.int .i64 n30)]), (.bool (!((n12 == n27) && ((b13 == b28) && ((n14 == n29) && (n15 == n30)))))), (.bool false), (.pointer t5), (.int .i64 n47), (.pointer t6), (.int .i64 n50), (.bool (n47 != n50)), (.bool (n47 != n50)), (.bool false), (.pointer t5), (.int .i64 n67), (.pointer t6), (.int .i64 n70), (.bool (n67 != n70)), (.bool (n67 != n70)), (.bool true), undef, undef, undef, undef, undef, (.bool true), (.bool true), undef, undef, undef, undef, undef, (.bool true), (.bool true), undef, undef, undef, undef, undef, undef, undef, undef, undef, undef, undef, undef, undef, undef, undef, (.bool true), undef] H69) ∧
 ((∃ n78, ∃ n79, ∃ n80, ∃ n81, ∃ n82, ∃ n83, ∃ n84, (H.bump 58).cellsAt i16 (i17 + (t7.toNat * 7)) 7 = some [(.int .i64 n78), (.int .i64 n79), (.int .i64 n80), (.int .i64 n81), (.int .u64 n82), (.int .u64 n83), (.int .u64 n84)] ∧
 sameN 8 (.agg #[(.int .i64 n18), (.int .i64 n19), (.int .i64 n20), (.int .i64 n21), (.int .u64 n22), (.int .u64 n23), (.int .u64 n24)]) (.agg #[(.int .i64 n78), (.int .i64 n79), (.int .i64 n80), (.int .i64 n81), (.int .u64 n82), (.int .u64 n83), (.int .u64 n84)]) = true) ∧ (∃ n71, ∃ n72, ∃ n73, ∃ n74, ∃ n75, ∃ n76, ∃ n77, H11.cellsAt i16 (i17 + (t7.toNat * 7)) 7 = some [(.int .i64 n71), (.int .i64 n72), (.int .i64 n73), (.int .i64 n74), (.int .u64 n75), (.int .u64 n76), (.int .u64 n77)] ∧
 sameN 8 (.agg #[(.int .i64 n18), (.int .i64 n19), (.int .i64 n20), (.int .i64 n21), (.int .u64 n22), (.int .u64 n23), (.int .u64 n24)]) (.agg #[(.int .i64 n71), (.int .i64 n72), (.int .i64 n73), (.int .i64 n74), (.int .u64 n75), (.int .u64 n76), (.int .u64 n77)]) = true) ∧ True) ∧
 True)
 else (
 CA en F.smem_Mem_Count [(.pointer t5)] H69 fun v85 H86 =>
 ∃ n87, v85 = (.int .i64 n87) ∧
 CA en F.crossbarref08_Mem_Count [(.pointer t6)] H86 fun v88 H89 =>
 ∃ n90, v88 = (.int .i64 n90) ∧
 bif (n87 != n90) then (
 (
 K1 [(.int .i64 t0), (.slice t1 t1l 0), undef, undef, (.bool false), (.pointer t5), (.pointer t6), (.int .i64 t7), (.int .i64 t8), (.pointer t9), (.pointer t10), (.bool t11), (.bool false), (.slice t13 t13l 0), (.int .i64 t14), (.bool t15), (.bool false), undef, undef, undef, undef, undef, (.int .i64 t22), (.pointer t23), (.int .i64 t7), (.slice t1 t1l 0), (.int .i64 ((t1l : Nat) : Int)), (.bool true), (ys.getD 28 undef), (ys.getD 29 undef), (.pointer t5), (.slice t1 t1l 0), (.int .i64 t7), (.pointer (some ⟨i1, (i2 + (t7.toNat * 7)), none⟩)), (.agg #[(.int .i64 n3), (.int .i64 n4), (.int .i64 n5), (.int .i64 n6), (.int .u64 n7), (.int .u64 n8), (.int .u64 n9)]), (.agg #[(.int .u64 n12), (.bool b13), (.int .i64 n14), (.int .i64 n15)]), (.pointer t6), (.slice t1 t1l 0), (.int .i64 t7), (.pointer (some ⟨i16, (i17 + (t7.toNat * 7)), none⟩)), (.agg #[(.int .i64 n18), (.int .i64 n19), (.int .i64 n20), (.int .i64 n21), (.int .u64 n22), (.int .u64 n23), (.int .u64 n24)]), (.agg #[(.int .u64 n27), (.bool b28), (.int .i64 n29), (.int .i64 n30)]), (.bool (!((n12 == n27) && ((b13 == b28) && ((n14 == n29) && (n15 == n30)))))), (.bool false), (.pointer t5), (.int .i64 n47), (.pointer t6), (.int .i64 n50), (.bool (n47 != n50)), (.bool (n47 != n50)), (.bool false), (.pointer t5), (.int .i64 n67), (.pointer t6), (.int .i64 n70), (.bool (n67 != n70)), (.bool (n67 != n70)), (.bool false), (.pointer t5), (.int .i64 n87), (.pointer t6), (.int .i64 n90), (.bool (n87 != n90)), (.bool (n87 != n90)), (.bool true), undef, undef, undef, undef, undef, (.bool true), (.bool true), undef, undef, undef, undef, undef, undef, undef, undef, undef, undef, undef, undef, undef, undef, undef, (.bool true), undef] H89) ∧
 ((∃ n98, ∃ n99, ∃ n100, ∃ n101, ∃ n102, ∃ n103, ∃ n104, (H.bump 58).cellsAt i16 (i17 + (t7.toNat * 7)) 7 = some [(.int .i64 n98), (.int .i64 n99), (.int .i64 n100), (.int .i64 n101), (.int .u64 n102), (.int .u64 n103), (.int .u64 n104)] ∧
 sameN 8 (.agg #[(.int .i64 n18), (.int .i64 n19), (.int .i64 n20), (.int .i64 n21), (.int .u64 n22), (.int .u64 n23), (.int .u64 n24)]) (.agg #[(.int .i64 n98), (.int .i64 n99), (.int .i64 n100), (.int .i64 n101), (.int .u64 n102), (.int .u64 n103), (.int .u64 n104)]) = true) ∧ (∃ n91, ∃ n92, ∃ n93, ∃ n94, ∃ n95, ∃ n96, ∃ n97, H11.cellsAt i16 (i17 + (t7.toNat * 7)) 7 = some [(.int .i64 n91), (.int .i64 n92), (.int .i64 n93), (.int .i64 n94), (.int .u64 n95), (.int .u64 n96), (.int .u64 n97)] ∧
 sameN 8 (.agg #[(.int .i64 n18), (.int .i64 n19), (.int .i64 n20), (.int .i64 n21), (.int .u64 n22), (.int .u64 n23), (.int .u64 n24)]) (.agg #[(.int .i64 n91), (.int .i64 n92), (.int .i64 n93), (.int .i64 n94), (.int .u64 n95), (.int .u64 n96), (.int .u64 n97)]) = true) ∧ True) ∧
 True)
 else (
 CA en F.smem_Mem_Bad [(.pointer t5)] H89 fun v105 H106 =>
 ∃ n107, v105 = (.int .i64 n107) ∧
 CA en F.crossbarref08_Mem_Bad [(.pointer t6)] H106 fun v108 H109 =>
 ∃ n110, v108 = (.int .i64 n110) ∧
 bif (n107 != n110) then (
 (
 K1 [(.int .i64 t0), (.slice t1 t1l 0), undef, undef, (.bool false), (.pointer t5), (.pointer t6), (.int .i64 t7), (.int .i64 t8), (.pointer t9), (.pointer t10), (.bool t11), (.bool false), (.slice t13 t13l 0), (.int .i64 t14), (.bool t15), (.bool false), undef, undef, undef, undef, undef, (.int .i64 t22), (.pointer t23), (.int .i64 t7), (.slice t1 t1l 0), (.int .i64 ((t1l : Nat) : Int)), (.bool true), (ys.getD 28 undef), (ys.getD 29 undef), (.pointer t5), (.slice t1 t1l 0), (.int .i64 t7), (.pointer (some ⟨i1, (i2 + (t7.toNat * 7)), none⟩)), (.agg #[(.int .i64 n3), (.int .i64 n4), (.int .i64 n5), (.int .i64 n6), (.int .u64 n7), (.int .u64 n8), (.int .u64 n9)]), (.agg #[(.int .u64 n12), (.bool b13), (.int .i64 n14), (.int .i64 n15)]), (.pointer t6), (.slice t1 t1l 0), (.int .i64 t7), (.pointer (some ⟨i16, (i17 + (t7.toNat * 7)), none⟩)), (.agg #[(.int .i64 n18), (.int .i64 n19), (.int .i64 n20), (.int .i64 n21), (.int .u64 n22), (.int .u64 n23), (.int .u64 n24)]), (.agg #[(.int .u64 n27), (.bool b28), (.int .i64 n29), (.int .i64 n30)]), (.bool (!((n12 == n27) && ((b13 == b28) && ((n14 == n29) && (n15 == n30)))))), (.bool false), (.pointer t5), (.int .i64 n47), (.pointer t6), (.int .i64 n50), (.bool (n47 != n50)), (.bool (n47 != n50)), (.bool false), (.pointer t5), (.int .i64 n67), (.pointer t6), (.int .i64 n70), (.bool (n67 != n70)), (.bool (n67 != n70)), (.bool false), (.pointer t5), (.int .i64 n87), (.pointer t6), (.int .i64 n90), (.bool (n87 != n90)), (.bool (n87 != n90)), (.bool false), (.pointer t5), (.int .i64 n107), (.pointer t6), (.int .i64 n110), (.bool (n107 != n110)), (.bool (n107 != n110)), (.bool true), undef, undef, undef, undef, undef, undef, undef, undef, undef, undef, undef, undef, undef, undef, undef, (.bool true), undef] H109) ∧
 ((∃ n118, ∃ n119, ∃ n120, ∃ n121, ∃ n122, ∃ n123, ∃ n124, (H.bump 58).cellsAt i16 (i17 + (t7.toNat * 7)) 7 = some [(.int .i64 n118), (.int .i64 n119), (.int .i64 n120), (.int .i64 n121), (.int .u64 n122), (.int .u64 n123), (.int .u64 n124)] ∧
 sameN 8 (.agg #[(.int .i64 n18), (.int .i64 n19), (.int .i64 n20), (.int .i64 n21), (.int .u64 n22), (.int .u64 n23), (.int .u64 n24)]) (.agg #[(.int .i64 n118), (.int .i64 n119), (.int .i64 n120), (.int .i64 n121), (.int .u64 n122), (.int .u64 n123), (.int .u64 n124)]) = true) ∧ (∃ n111, ∃ n112, ∃ n113, ∃ n114, ∃ n115, ∃ n116, ∃ n117, H11.cellsAt i16 (i17 + (t7.toNat * 7)) 7 = some [(.int .i64 n111), (.int .i64 n112), (.int .i64 n113), (.int .i64 n114), (.int .u64 n115), (.int .u64 n116), (.int .u64 n117)] ∧
 sameN 8 (.agg #[(.int .i64 n18), (.int .i64 n19), (.int .i64 n20), (.int .i64 n21), (.int .u64 n22), (.int .u64 n23), (.int .u64 n24)]) (.agg #[(.int .i64 n111), (.int .i64 n112), (.int .i64 n113), (.int .i64 n114), (.int .u64 n115), (.int .u64 n116), (.int .u64 n117)]) = true) ∧ True) ∧
 True)
 else (
 inB t7 t1l ∧
 asRow t1 fun i125 i126 =>
 ∃ n127, H109.cell i125 ((i126 + (t7.toNat * 7)) + 1) = some (.int .i64 n127) ∧
 CA en F.smem_Mem_Size [(.pointer t5), (.int .i64 n127)] H109 fun v128 H129 =>
 ∃ n130, v128 = (.int .i64 n130) ∧
 inB t7 t1l ∧
 asRow t1 fun i131 i132 =>
 ∃ n133, H129.cell i131 ((i132 + (t7.toNat * 7)) + 1) = some (.int .i64 n133) ∧
 CA en F.crossbarref08_Mem_Size [(.pointer t6), (.int .i64 n133)] H129 fun v134 H135 =>
 ∃ n136, v134 = (.int .i64 n136) ∧
 (
 bif (n130 != n136) then (
 K1 [(.int .i64 t0), (.slice t1 t1l 0), undef, undef, (.bool false), (.pointer t5), (.pointer t6), (.int .i64 t7), (.int .i64 t8), (.pointer t9), (.pointer t10), (.bool t11), (.bool false), (.slice t13 t13l 0), (.int .i64 t14), (.bool t15), (.bool false), undef, undef, undef, undef, undef, (.int .i64 t22), (.pointer t23), (.int .i64 t7), (.slice t1 t1l 0), (.int .i64 ((t1l : Nat) : Int)), (.bool true), (ys.getD 28 undef), (ys.getD 29 undef), (.pointer t5), (.slice t1 t1l 0), (.int .i64 t7), (.pointer (some ⟨i1, (i2 + (t7.toNat * 7)), none⟩)), (.agg #[(.int .i64 n3), (.int .i64 n4), (.int .i64 n5), (.int .i64 n6), (.int .u64 n7), (.int .u64 n8), (.int .u64 n9)]), (.agg #[(.int .u64 n12), (.bool b13), (.int .i64 n14), (.int .i64 n15)]), (.pointer t6), (.slice t1 t1l 0), (.int .i64 t7), (.pointer (some ⟨i16, (i17 + (t7.toNat * 7)), none⟩)), (.agg #[(.int .i64 n18), (.int .i64 n19), (.int .i64 n20), (.int .i64 n21), (.int .u64 n22), (.int .u64 n23), (.int .u64 n24)]), (.agg #[(.int .u64 n27), (.bool b28), (.int .i64 n29), (.int .i64 n30)]), (.bool (!((n12 == n27) && ((b13 == b28) && ((n14 == n29) && (n15 == n30)))))), (.bool false), (.pointer t5), (.int .i64 n47), (.pointer t6), (.int .i64 n50), (.bool (n47 != n50)), (.bool (n47 != n50)), (.bool false), (.pointer t5), (.int .i64 n67), (.pointer t6), (.int .i64 n70), (.bool (n67 != n70)), (.bool (n67 != n70)), (.bool false), (.pointer t5), (.int .i64 n87), (.pointer t6), (.int .i64 n90), (.bool (n87 != n90)), (.bool (n87 != n90)), (.bool false), (.pointer t5), (.int .i64 n107), (.pointer t6), (.int .i64 n110), (.bool (n107 != n110)), (.bool (n107 != n110)), (.bool false), (.pointer t5), (.slice t1 t1l 0), (.int .i64 t7), (.pointer (some ⟨i125, (i126 + (t7.toNat * 7)), none⟩)), (.pointer (some ⟨i125, ((i126 + (t7.toNat * 7)) + 1), none⟩)), (.int .i64 n127), (.int .i64 n130), (.pointer t6), (.slice t1 t1l 0), (.int .i64 t7), (.pointer (some ⟨i131, (i132 + (t7.toNat * 7)), none⟩)), (.pointer (some ⟨i131, ((i132 + (t7.toNat * 7)) + 1), none⟩)), (.int .i64 n133), (.int .i64 n136), (.bool (n130 != n136)), (.bool true), undef] H135)
 else (
 ∃ k153, k153 < n ∧
 I k153 t4 (IntKind.i64.wrap (t7 + 1)) H135)) ∧
 ((∃ n138, H109.cell i131 ((i132 + (t7.toNat * 7)) + 1) = some (.int .i64 n138) ∧
 n133 = n138) ∧ (∃ n137, H129.cell i131 ((i132 + (t7.toNat * 7)) + 1) = some (.int .i64 n137) ∧
 n133 = n137) ∧ True) ∧
 ((∃ n146, ∃ n147, ∃ n148, ∃ n149, ∃ n150, ∃ n151, ∃ n152, (H.bump 58).cellsAt i16 (i17 + (t7.toNat * 7)) 7 = some [(.int .i64 n146), (.int .i64 n147), (.int .i64 n148), (.int .i64 n149), (.int .u64 n150), (.int .u64 n151), (.int .u64 n152)] ∧
 sameN 8 (.agg #[(.int .i64 n18), (.int .i64 n19), (.int .i64 n20), (.int .i64 n21), (.int .u64 n22), (.int .u64 n23), (.int .u64 n24)]) (.agg #[(.int .i64 n146), (.int .i64 n147), (.int .i64 n148), (.int .i64 n149), (.int .u64 n150), (.int .u64 n151), (.int .u64 n152)]) = true) ∧ (∃ n139, ∃ n140, ∃ n141, ∃ n142, ∃ n143, ∃ n144, ∃ n145, H11.cellsAt i16 (i17 + (t7.toNat * 7)) 7 = some [(.int .i64 n139), (.int .i64 n140), (.int .i64 n141), (.int .i64 n142), (.int .u64 n143), (.int .u64 n144), (.int .u64 n145)] ∧
 sameN 8 (.agg #[(.int .i64 n18), (.int .i64 n19), (.int .i64 n20), (.int .i64 n21), (.int .u64 n22), (.int .u64 n23), (.int .u64 n24)]) (.agg #[(.int .i64 n139), (.int .i64 n140), (.int .i64 n141), (.int .i64 n142), (.int .u64 n143), (.int .u64 n144), (.int .u64 n145)]) = true) ∧ True) ∧
 True))))))
 else (
 K0 [(.int .i64 t0), (.slice t1 t1l 0), undef, undef, (.bool t4), (.pointer t5), (.pointer t6), (.int .i64 t7), (.int .i64 t8), (.pointer t9), (.pointer t10), (.bool t11), (.bool false), (.slice t13 t13l 0), (.int .i64 t14), (.bool t15), (.bool false), undef, undef, undef, undef, undef, (.int .i64 t22), (.pointer t23), (.int .i64 t7), (.slice t1 t1l 0), (.int .i64 ((t1l : Nat) : Int)), (.bool false), (ys.getD 28 undef), (ys.getD 29 undef), (ys.getD 30 undef), (ys.getD 31 undef), (ys.getD 32 undef), (ys.getD 33 undef), (ys.getD 34 undef), (ys.getD 35 undef), (ys.getD 36 undef), (ys.getD 37 undef), (ys.getD 38 undef), (ys.getD 39 undef), (ys.getD 40 undef), (ys.getD 41 undef), (ys.getD 42 undef), (ys.getD 43 undef), (ys.getD 44 undef), (ys.getD 45 undef), (ys.getD 46 undef), (ys.getD 47 undef), (ys.getD 48 undef), (ys.getD 49 undef), (ys.getD 50 undef), (ys.getD 51 undef), (ys.getD 52 undef), (ys.getD 53 undef), (ys.getD 54 undef), (ys.getD 55 undef), (ys.getD 56 undef), (ys.getD 57 undef), (ys.getD 58 undef), (ys.getD 59 undef), (ys.getD 60 undef), (ys.getD 61 undef), (ys.getD 62 undef), (ys.getD 63 undef), (ys.getD 64 undef), (ys.getD 65 undef), (ys.getD 66 undef), (ys.getD 67 undef), (ys.getD 68 undef), (ys.getD 69 undef), (ys.getD 70 undef), (ys.getD 71 undef), (ys.getD 72 undef), (ys.getD 73 undef), (ys.getD 74 undef), (ys.getD 75 undef), (ys.getD 76 undef), (ys.getD 77 undef), (ys.getD 78 undef), (ys.getD 79 undef), (ys.getD 80 undef), (ys.getD 81 undef), (ys.getD 82 undef), (ys.getD 83 undef), (ys.getD 84 undef), (ys.getD 85 undef), (ys.getD 86 undef), (ys.getD 87 undef), undef] H))) :
    LA en L_crossbarlaw08_SmemPlays_0 [(.int .i64 t0), (.slice t1 t1l 0), undef, undef, (.bool t4), (.pointer t5), (.pointer t6), (.int .i64 t7), (.int .i64 t8), (.pointer t9), (.pointer t10), (.bool t11), (.bool false), (.slice t13 t13l 0), (.int .i64 t14), (.bool t15), (.bool false), undef, undef, undef, undef, undef, (.int .i64 t22), (.pointer t23), t24, t25, t26, t27, t28, t29, t30, t31, t32, t33, t34, t35, t36, t37, t38, t39, t40, t41, t42, t43, t44, t45, t46, t47, t48, t49, t50, t51, t52, t53, t54, t55, t56, t57, t58, t59, t60, t61, t62, t63, t64, t65, t66, t67, t68, t69, t70, t71, t72, t73, t74, t75, t76, t77, t78, t79, t80, t81, t82, t83, t84, t85, t86, t87, undef] H [(X.exit 0, K0), (X.ret, K1)] := by
  refine LA_rule (Z := []) (fun m xs H' => AS.asBool (xs.getD 4 undef) fun t4 => AS.asInt .i64 (xs.getD 7 undef) fun t7 => I m t4 t7 H') ?_ n H ?_
  · intro n H
    suffices hs : ∀ s24 : Value, ∀ s25 : Value, ∀ s26 : Value, ∀ s27 : Value, ∀ s30 : Value, ∀ s31 : Value, ∀ s32 : Value, ∀ s33 : Value, ∀ s34 : Value, ∀ s35 : Value, ∀ s36 : Value, ∀ s37 : Value, ∀ s38 : Value, ∀ s39 : Value, ∀ s40 : Value, ∀ s41 : Value, ∀ s42 : Value, ∀ s43 : Value, ∀ s44 : Value, ∀ s45 : Value, ∀ s46 : Value, ∀ s47 : Value, ∀ s48 : Value, ∀ s49 : Value, ∀ s50 : Value, ∀ s51 : Value, ∀ s52 : Value, ∀ s53 : Value, ∀ s54 : Value, ∀ s55 : Value, ∀ s56 : Value, ∀ s57 : Value, ∀ s58 : Value, ∀ s59 : Value, ∀ s60 : Value, ∀ s61 : Value, ∀ s62 : Value, ∀ s63 : Value, ∀ s64 : Value, ∀ s65 : Value, ∀ s66 : Value, ∀ s67 : Value, ∀ s68 : Value, ∀ s69 : Value, ∀ s70 : Value, ∀ s71 : Value, ∀ s72 : Value, ∀ s73 : Value, ∀ s74 : Value, ∀ s75 : Value, ∀ s76 : Value, ∀ s77 : Value, ∀ s78 : Value, ∀ s79 : Value, ∀ s80 : Value, ∀ s81 : Value, ∀ s82 : Value, ∀ s83 : Value, ∀ s84 : Value, ∀ s85 : Value, ∀ s86 : Value, ∀ s87 : Value, ∀ s4 : Value, ∀ s28 : Value, ∀ s29 : Value, ∀ s7 : Value, ((AS.asBool s4 fun t4 => AS.asInt .i64 s7 fun t7 => I n t4 t7 H) → wpCode en L_crossbarlaw08_SmemPlays_0 [] [(.int .i64 t0), (.slice t1 t1l 0), undef, undef, s4, (.pointer t5), (.pointer t6), s7, (.int .i64 t8), (.pointer t9), (.pointer t10), (.bool t11), (.bool false), (.slice t13 t13l 0), (.int .i64 t14), (.bool t15), (.bool false), undef, undef, undef, undef, undef, (.int .i64 t22), (.pointer t23), s24, s25, s26, s27, s28, s29, s30, s31, s32, s33, s34, s35, s36, s37, s38, s39, s40, s41, s42, s43, s44, s45, s46, s47, s48, s49, s50, s51, s52, s53, s54, s55, s56, s57, s58, s59, s60, s61, s62, s63, s64, s65, s66, s67, s68, s69, s70, s71, s72, s73, s74, s75, s76, s77, s78, s79, s80, s81, s82, s83, s84, s85, s86, s87, undef] H (loopQ (fun m xs H' => AS.asBool (xs.getD 4 undef) fun t4 => AS.asInt .i64 (xs.getD 7 undef) fun t7 => I m t4 t7 H') n [(X.exit 0, K0), (X.ret, K1)])) by
      apply turnInto hs
      kernel_rfl
    intro s24 s25 s26 s27 s30 s31 s32 s33 s34 s35 s36 s37 s38 s39 s40 s41 s42 s43 s44 s45 s46 s47 s48 s49 s50 s51 s52 s53 s54 s55 s56 s57 s58 s59 s60 s61 s62 s63 s64 s65 s66 s67 s68 s69 s70 s71 s72 s73 s74 s75 s76 s77 s78 s79 s80 s81 s82 s83 s84 s85 s86 s87 s4 s28 s29 s7 hP
    replace hP := asBool_elim hP
    obtain ⟨t4, rfl, hP⟩ := hP
    replace hP := asInt_elim hP
    obtain ⟨t7, rfl, hP⟩ := hP
    apply turnInto (hstep n t4 t7 [(.int .i64 t0), (.slice t1 t1l 0), undef, undef, (.bool t4), (.pointer t5), (.pointer t6), (.int .i64 t7), (.int .i64 t8), (.pointer t9), (.pointer t10), (.bool t11), (.bool false), (.slice t13 t13l 0), (.int .i64 t14), (.bool t15), (.bool false), undef, undef, undef, undef, undef, (.int .i64 t22), (.pointer t23), s24, s25, s26, s27, s28, s29, s30, s31, s32, s33, s34, s35, s36, s37, s38, s39, s40, s41, s42, s43, s44, s45, s46, s47, s48, s49, s50, s51, s52, s53, s54, s55, s56, s57, s58, s59, s60, s61, s62, s63, s64, s65, s66, s67, s68, s69, s70, s71, s72, s73, s74, s75, s76, s77, s78, s79, s80, s81, s82, s83, s84, s85, s86, s87, undef] H hP)
    kernel_rfl
  · apply turnInto h0
    kernel_rfl


/-! crossbarlaw08_SmemWhole -/
noncomputable def L_crossbarlaw08_SmemWhole_0 : Code := loopAt Go.Proofs.Try.f11 0
noncomputable def L_crossbarlaw08_SmemWhole_1 : Code := loopAt Go.Proofs.Try.f11 1

theorem vc_crossbarlaw08_SmemWhole (x0 : Int) (x1 : Option Addr) (x1l : Nat) (H : Heap) (R : Value → Heap → Prop) :
    (
 CA en F.smem_New [(.int .i64 x0)] H fun v1 H2 =>
 ∃ a3, v1 = (.pointer a3) ∧
 bif a3.isNone then (
 bif (!a3.isNone) then (
 CA en F.crossbarlaw08_known [] H2 fun v4 H5 =>
 ∃ b6, v4 = (.bool b6) ∧
 R (.bool b6) H5)
 else (
 R (.bool false) H2))
 else (
 bif (decide (((x1l : Nat) : Int) > 300)) then (
 bif (!a3.isNone) then (
 CA en F.crossbarlaw08_known [] H2 fun v7 H8 =>
 ∃ b9, v7 = (.bool b9) ∧
 R (.bool b9) H8)
 else (
 R (.bool false) H2))
 else (
 CA en F.crossbarkit_Cut [(.int .i64 x0), (.int .i64 0), (.int .i64 65536)] H2 fun v10 H11 =>
 ∃ n12, v10 = (.int .i64 n12) ∧
 LA en L_crossbarlaw08_SmemWhole_0 [(.int .i64 x0), (.slice x1 x1l 0), undef, undef, (.bool false), (.pointer a3), (.int .i64 0), (.int .i64 n12), (.int .i64 0), undef, undef, undef, undef, undef, undef, undef, undef, undef, (.int .i64 x0), (.pointer a3), (.pointer a3), (.bool a3.isNone), (.bool false), (.slice x1 x1l 0), (.int .i64 ((x1l : Nat) : Int)), (.bool (decide (((x1l : Nat) : Int) > 300))), (.bool false), undef, undef, undef, undef, undef, (.int .i64 x0), (.int .i64 n12), undef, undef, undef, undef, undef, undef, undef, undef, undef, undef, undef, undef, undef, undef, undef, undef, undef, undef, undef, undef, undef, undef, undef, undef, undef, undef, undef, undef, undef, undef, undef, undef, undef, undef, undef, undef, undef, undef, undef, undef, undef, undef, undef, undef, undef, undef, undef, undef, undef, undef, undef, undef, undef, undef, undef, undef, undef, undef, undef, undef, undef, undef, undef, undef, undef, undef, undef, undef, undef, undef, undef, undef, undef, undef, undef, undef, undef, undef, undef, undef, undef, undef, undef, undef, undef, undef, undef, undef] H11 [(X.exit 0, fun (x13 : Fr) (H14 : Heap) =>
 AS.asBool (x13.getD 4 undef) fun b15 =>
 CA en F.crossbarlaw08_known [] H14 fun v16 H17 =>
 ∃ b18, v16 = (.bool b18) ∧
 R (.bool b18) H17),
 (X.ret, fun (x19 : Fr) (H20 : Heap) =>
 AS.asBool (x19.getD 4 undef) fun b21 =>
 R (.bool b21) H20)]))) →
    CA en F.crossbarlaw08_SmemWhole [(.int .i64 x0), (.slice x1 x1l 0)] H R := by
  intro h
  refine wpFn_ok (Z := [[(4, (.bool false))], [(13, (.int .i64 0)), (14, (.int .i64 0))]]) (fn := Go.Proofs.Try.f11) ?_ ?_ ?_
  · kernel_rfl
  · kernel_rfl
  · apply turnInto h
    kernel_rfl

theorem use_crossbarlaw08_SmemWhole_0 {t0 : Int} {t1 : Option Addr} {t1l : Nat} {t5 : Option Addr} {t7 : Int} {t18 : Int} {t19 : Option Addr} {t20 : Option Addr} {t21 : Bool} {t23 : Option Addr} {t23l : Nat} {t24 : Int} {t25 : Bool} {t32 : Int} {t33 : Int} {K0 : Fr → Heap → Prop} {K1 : Fr → Heap → Prop} {t4 : Bool} {t6 : Int} {t8 : Int} {t9 : Value} {t10 : Value} {t11 : Value} {t12 : Value} {t13 : Value} {t14 : Value} {t15 : Value} {t16 : Value} {t17 : Value} {t34 : Value} {t35 : Value} {t36 : Value} {t37 : Value} {t38 : Value} {t39 : Value} {t40 : Value} {t41 : Value} {t42 : Value} {t43 : Value} {t44 : Value} {t45 : Value} {t46 : Value} {t47 : Value} {t48 : Value} {t49 : Value} {t50 : Value} {t51 : Value} {t52 : Value} {t53 : Value} {t54 : Value} {t55 : Value} {t56 : Value} {t57 : Value} {t58 : Value} {t59 : Value} {t60 : Value} {t61 : Value} {t62 : Value} {t63 : Value} {t64 : Value} {t65 : Value} {t66 : Value} {t67 : Value} {t68 : Value} {t69 : Value} {t70 : Value} {t71 : Value} {t72 : Value} {t73 : Value} {t74 : Value} {t75 : Value} {t76 : Value} {t77 : Value} {t78 : Value} {t79 : Value} {t80 : Value} {t81 : Value} {t82 : Value} {t83 : Value} {t84 : Value} {t85 : Value} {t86 : Value} {t87 : Value} {t88 : Value} {t89 : Value} {t90 : Value} {t91 : Value} {t92 : Value} {t93 : Value} {t94 : Value} {t95 : Value} {t96 : Value} {t97 : Value} {t98 : Value} {t99 : Value} {t100 : Value} {t101 : Value} {t102 : Value} {t103 : Value} {t104 : Value} {t105 : Value} {t106 : Value} {t107 : Value} {t108 : Value} {t109 : Value} {t110 : Value} {t111 : Value} {t112 : Value} {t113 : Value} {t114 : Value} {t115 : Value} {t116 : Value} {t117 : Value} {t118 : Value} {t119 : Value} {t120 : Value} {H : Heap} (I : Nat → Bool → Int → Int → Heap → Prop) (n : Nat) (h0 : I n t4 t6 t8 H)
    (hstep : ∀ (n : Nat) (t4 : Bool) (t6 : Int) (t8 : Int) (ys : Fr) (H : Heap), I n t4 t6 t8 H →
    (
 bif (decide (t8 < ((t1l : Nat) : Int))) then (
 CA en F.smem_Mem_Count [(.pointer t5)] H fun v1 H2 =>
 ∃ n3, v1 = (.int .i64 n3) ∧
 CA en F.smem_Mem_Bad [(.pointer t5)] H2 fun v4 H5 =>
 ∃ n6, v4 = (.int .i64 n6) ∧
 inB t8 t1l ∧
 asRow t1 fun i7 i8 =>
 ∃ n9, ∃ n10, ∃ n11, ∃ n12, ∃ n13, ∃ n14, ∃ n15, H5.cellsAt i7 (i8 + (t8.toNat * 7)) 7 = some [(.int .i64 n9), (.int .i64 n10), (.int .i64 n11), (.int .i64 n12), (.int .u64 n13), (.int .u64 n14), (.int .u64 n15)] ∧
 CA en F.crossbarlaw08_does [(.pointer t5), (.agg #[(.int .i64 n9), (.int .i64 n10), (.int .i64 n11), (.int .i64 n12), (.int .u64 n13), (.int .u64 n14), (.int .u64 n15)])] H5 fun v16 H17 =>
 ∃ n18, ∃ b19, ∃ n20, ∃ n21, v16 = (.agg #[(.int .u64 n18), (.bool b19), (.int .i64 n20), (.int .i64 n21)]) ∧
 nwH H17 (.cells true 0 [(.int .u64 0), (.bool false), (.int .i64 0), (.int .i64 0)]) fun i22 H23 =>
 stc H23 i22 0 [(.int .u64 n18), (.bool b19), (.int .i64 n20), (.int .i64 n21)] fun H24 =>
 inB t8 t1l ∧
 asRow t1 fun i25 i26 =>
 ∃ n27, H24.cell i25 (i26 + (t8.toNat * 7)) = some (.int .i64 n27) ∧
 CA en F.crossbarkit_Pick [(.int .i64 n27), (.int .i64 8)] H24 fun v28 H29 =>
 ∃ n30, v28 = (.int .i64 n30) ∧
 ∃ n31, H29.cell i22 2 = some (.int .i64 n31) ∧
 CA en F.smem_Mem_Room [(.pointer t5)] H29 fun v32 H33 =>
 ∃ n34, v32 = (.int .i64 n34) ∧
 LA en L_crossbarlaw08_SmemWhole_1 [(.int .i64 t0), (.slice t1 t1l 0), undef, undef, (.bool t4), (.pointer t5), (.int .i64 (if n31 > t6 then n31 else t6)), (.int .i64 t7), (.int .i64 t8), (.int .i64 n3), (.int .i64 n6), (.pointer (some ⟨i22, 0, none⟩)), (.int .i64 n30), (.int .i64 n34), (.int .i64 0), (.int .i64 1), (ys.getD 16 undef), (ys.getD 17 undef), (.int .i64 t18), (.pointer t19), (.pointer t20), (.bool t21), (.bool false), (.slice t23 t23l 0), (.int .i64 t24), (.bool t25), (.bool false), undef, undef, undef, undef, undef, (.int .i64 t32), (.int .i64 t33), (.int .i64 t8), (.slice t1 t1l 0), (.int .i64 ((t1l : Nat) : Int)), (.bool true), (ys.getD 38 undef), (ys.getD 39 undef), (.pointer t5), (.int .i64 n3), (.pointer t5), (.int .i64 n6), (.pointer t5), (.slice t1 t1l 0), (.int .i64 t8), (.pointer (some ⟨i7, (i8 + (t8.toNat * 7)), none⟩)), (.agg #[(.int .i64 n9), (.int .i64 n10), (.int .i64 n11), (.int .i64 n12), (.int .u64 n13), (.int .u64 n14), (.int .u64 n15)]), (.agg #[(.int .u64 n18), (.bool b19), (.int .i64 n20), (.int .i64 n21)]), (.slice t1 t1l 0), (.int .i64 t8), (.pointer (some ⟨i25, (i26 + (t8.toNat * 7)), none⟩)), (.pointer (some ⟨i25, (i26 + (t8.toNat * 7)), none⟩)), (.int .i64 n27), (.int .i64 n30), (.int .i64 t6), (.pointer (some ⟨i22, 2, none⟩)), (.int .i64 n31), (.int .i64 (if n31 > t6 then n31 else t6)), (.pointer t5), (.int .i64 n34), (ys.getD 62 undef), (ys.getD 63 undef), (ys.getD 64 undef), (ys.getD 65 undef), (ys.getD 66 undef), (ys.getD 67 undef), (ys.getD 68 undef), (ys.getD 69 undef), (ys.getD 70 undef), (ys.getD 71 undef), (ys.getD 72 undef), (ys.getD 73 undef), (ys.getD 74 undef), (ys.getD 75 undef), (ys.getD 76 undef), (ys.getD 77 undef), (ys.getD 78 undef), (ys.getD 79 undef), (ys.getD 80 undef), (ys.getD 81 undef), (ys.getD 82 undef), (ys.getD 83 undef), (ys.getD 84 undef), (ys.getD 85 undef), (ys.getD 86 undef), (ys.getD 87 undef), (ys.getD 88 undef), (ys.getD 89 undef), (ys.getD 90 undef), (ys.getD 91 undef), (ys.getD 92 undef), (ys.getD 93 undef), (ys.getD 94 undef), (ys.getD 95 undef), (ys.getD 96 undef), (ys.getD 97 undef), (ys.getD 98 undef), (ys.getD 99 undef), (ys.getD 100 undef), (ys.getD 101 undef), (ys.getD 102 undef), (ys.getD 103 undef), (ys.getD 104 undef), (ys.getD 105 undef), (ys.getD 106 undef), (ys.getD 107 undef), (ys.getD 108 undef), (ys.getD 109 undef), (ys.getD 110 undef), (ys.getD 111 undef), (ys.getD 112 undef), (ys.getD 113 undef), (ys.getD 114 undef), (ys.getD 115 undef), (ys.getD 116 undef), (ys.getD 117 undef), (ys.getD 118 undef), (ys.getD 119 undef), (ys.getD 120 undef), undef] H33 [(X.exit 2, fun (x35 : Fr) (H36 : Heap) =>
 AS.asInt .i64 (x35.getD 13 undef) fun n37 =>
 AS.asInt .i64 (x35.getD 14 undef) fun n38 =>
 ∃ J39 : List Value → Heap → Prop, (
 bif (decide (n30 > 1)) then (
 J39 [(.int .i64 1)] H36)
 else (
 J39 [(.int .i64 0)] H36)) ∧
 ∀ (ys40 : Fr) (H41 : Heap), ∀ n42, J39 [(.int .i64 n42)] H41 →
 ∃ J43 : List Value → Heap → Prop, (
 bif (decide (n30 > 1)) then (
 ∃ b44, H41.cell i22 1 = some (.bool b44) ∧
 bif (!b44) then (
 J43 [(.int .i64 1)] H41)
 else (
 J43 [(.int .i64 0)] H41))
 else (
 J43 [(.int .i64 0)] H41)) ∧
 ∀ (ys45 : Fr) (H46 : Heap), ∀ n47, J43 [(.int .i64 n47)] H46 →
 bif (n37 != t7) then (
 K1 [(.int .i64 t0), (.slice t1 t1l 0), undef, undef, (.bool false), (.pointer t5), (.int .i64 (if n31 > t6 then n31 else t6)), (.int .i64 t7), (.int .i64 t8), (.int .i64 n3), (.int .i64 n6), (.pointer (some ⟨i22, 0, none⟩)), (.int .i64 n30), (.int .i64 n37), (.int .i64 n38), (x35.getD 15 undef), (.int .i64 n42), (.int .i64 n47), (.int .i64 t18), (.pointer t19), (.pointer t20), (.bool t21), (.bool false), (.slice t23 t23l 0), (.int .i64 t24), (.bool t25), (.bool false), undef, undef, undef, undef, undef, (.int .i64 t32), (.int .i64 t33), (.int .i64 t8), (.slice t1 t1l 0), (.int .i64 ((t1l : Nat) : Int)), (.bool true), (ys.getD 38 undef), (ys.getD 39 undef), (.pointer t5), (.int .i64 n3), (.pointer t5), (.int .i64 n6), (.pointer t5), (.slice t1 t1l 0), (.int .i64 t8), (.pointer (some ⟨i7, (i8 + (t8.toNat * 7)), none⟩)), (.agg #[(.int .i64 n9), (.int .i64 n10), (.int .i64 n11), (.int .i64 n12), (.int .u64 n13), (.int .u64 n14), (.int .u64 n15)]), (.agg #[(.int .u64 n18), (.bool b19), (.int .i64 n20), (.int .i64 n21)]), (.slice t1 t1l 0), (.int .i64 t8), (.pointer (some ⟨i25, (i26 + (t8.toNat * 7)), none⟩)), (.pointer (some ⟨i25, (i26 + (t8.toNat * 7)), none⟩)), (.int .i64 n27), (.int .i64 n30), (.int .i64 t6), (.pointer (some ⟨i22, 2, none⟩)), (.int .i64 n31), (.int .i64 (if n31 > t6 then n31 else t6)), (.pointer t5), (.int .i64 n34), (x35.getD 62 undef), (x35.getD 63 undef), (x35.getD 64 undef), (x35.getD 65 undef), (x35.getD 66 undef), (x35.getD 67 undef), (x35.getD 68 undef), (x35.getD 69 undef), (x35.getD 70 undef), (x35.getD 71 undef), (x35.getD 72 undef), (x35.getD 73 undef), (x35.getD 74 undef), (x35.getD 75 undef), (x35.getD 76 undef), (x35.getD 77 undef), (ys40.getD 78 undef), (ys40.getD 79 undef), (ys45.getD 80 undef), (ys45.getD 81 undef), (ys45.getD 82 undef), (ys45.getD 83 undef), (ys45.getD 84 undef), (ys45.getD 85 undef), (ys45.getD 86 undef), (.int .i64 n37), (.int .i64 t7), (.bool (n37 != t7)), (.bool true), undef, undef, undef, undef, (.bool true), (.bool true), undef, undef, undef, undef, undef, undef, (.bool true), (.bool true), undef, undef, undef, undef, undef, undef, (.bool true), (.bool true), undef, undef, undef, undef, undef, undef, undef, (.bool true), undef] H46)
 else (
 CA en F.smem_Mem_Live [(.pointer t5)] H46 fun v48 H49 =>
 ∃ n50, v48 = (.int .i64 n50) ∧
 bif (n38 != n50) then (
 K1 [(.int .i64 t0), (.slice t1 t1l 0), undef, undef, (.bool false), (.pointer t5), (.int .i64 (if n31 > t6 then n31 else t6)), (.int .i64 t7), (.int .i64 t8), (.int .i64 n3), (.int .i64 n6), (.pointer (some ⟨i22, 0, none⟩)), (.int .i64 n30), (.int .i64 n37), (.int .i64 n38), (x35.getD 15 undef), (.int .i64 n42), (.int .i64 n47), (.int .i64 t18), (.pointer t19), (.pointer t20), (.bool t21), (.bool false), (.slice t23 t23l 0), (.int .i64 t24), (.bool t25), (.bool false), undef, undef, undef, undef, undef, (.int .i64 t32), (.int .i64 t33), (.int .i64 t8), (.slice t1 t1l 0), (.int .i64 ((t1l : Nat) : Int)), (.bool true), (ys.getD 38 undef), (ys.getD 39 undef), (.pointer t5), (.int .i64 n3), (.pointer t5), (.int .i64 n6), (.pointer t5), (.slice t1 t1l 0), (.int .i64 t8), (.pointer (some ⟨i7, (i8 + (t8.toNat * 7)), none⟩)), (.agg #[(.int .i64 n9), (.int .i64 n10), (.int .i64 n11), (.int .i64 n12), (.int .u64 n13), (.int .u64 n14), (.int .u64 n15)]), (.agg #[(.int .u64 n18), (.bool b19), (.int .i64 n20), (.int .i64 n21)]), (.slice t1 t1l 0), (.int .i64 t8), (.pointer (some ⟨i25, (i26 + (t8.toNat * 7)), none⟩)), (.pointer (some ⟨i25, (i26 + (t8.toNat * 7)), none⟩)), (.int .i64 n27), (.int .i64 n30), (.int .i64 t6), (.pointer (some ⟨i22, 2, none⟩)), (.int .i64 n31), (.int .i64 (if n31 > t6 then n31 else t6)), (.pointer t5), (.int .i64 n34), (x35.getD 62 undef), (x35.getD 63 undef), (x35.getD 64 undef), (x35.getD 65 undef), (x35.getD 66 undef), (x35.getD 67 undef), (x35.getD 68 undef), (x35.getD 69 undef), (x35.getD 70 undef), (x35.getD 71 undef), (x35.getD 72 undef), (x35.getD 73 undef), (x35.getD 74 undef), (x35.getD 75 undef), (x35.getD 76 undef), (x35.getD 77 undef), (ys40.getD 78 undef), (ys40.getD 79 undef), (ys45.getD 80 undef), (ys45.getD 81 undef), (ys45.getD 82 undef), (ys45.getD 83 undef), (ys45.getD 84 undef), (ys45.getD 85 undef), (ys45.getD 86 undef), (.int .i64 n37), (.int .i64 t7), (.bool (n37 != t7)), (.bool false), (.int .i64 n38), (.pointer t5), (.int .i64 n50), (.bool (n38 != n50)), (.bool (n38 != n50)), (.bool true), undef, undef, undef, undef, undef, undef, (.bool true), (.bool true), undef, undef, undef, undef, undef, undef, (.bool true), (.bool true), undef, undef, undef, undef, undef, undef, undef, (.bool true), undef] H49)
 else (
 CA en F.smem_Mem_Count [(.pointer t5)] H49 fun v51 H52 =>
 ∃ n53, v51 = (.int .i64 n53) ∧
 bif (n53 != (IntKind.i64.wrap (n3 + n42))) then (
 K1 [(.int .i64 t0), (.slice t1 t1l 0), undef, undef, (.bool false), (.pointer t5), (.int .i64 (if n31 > t6 then n31 else t6)), (.int .i64 t7), (.int .i64 t8), (.int .i64 n3), (.int .i64 n6), (.pointer (some ⟨i22, 0, none⟩)), (.int .i64 n30), (.int .i64 n37), (.int .i64 n38), (x35.getD 15 undef), (.int .i64 n42), (.int .i64 n47), (.int .i64 t18), (.pointer t19), (.pointer t20), (.bool t21), (.bool false), (.slice t23 t23l 0), (.int .i64 t24), (.bool t25), (.bool false), undef, undef, undef, undef, undef, (.int .i64 t32), (.int .i64 t33), (.int .i64 t8), (.slice t1 t1l 0), (.int .i64 ((t1l : Nat) : Int)), (.bool true), (ys.getD 38 undef), (ys.getD 39 undef), (.pointer t5), (.int .i64 n3), (.pointer t5), (.int .i64 n6), (.pointer t5), (.slice t1 t1l 0), (.int .i64 t8), (.pointer (some ⟨i7, (i8 + (t8.toNat * 7)), none⟩)), (.agg #[(.int .i64 n9), (.int .i64 n10), (.int .i64 n11), (.int .i64 n12), (.int .u64 n13), (.int .u64 n14), (.int .u64 n15)]), (.agg #[(.int .u64 n18), (.bool b19), (.int .i64 n20), (.int .i64 n21)]), (.slice t1 t1l 0), (.int .i64 t8), (.pointer (some ⟨i25, (i26 + (t8.toNat * 7)), none⟩)), (.pointer (some ⟨i25, (i26 + (t8.toNat * 7)), none⟩)), (.int .i64 n27), (.int .i64 n30), (.int .i64 t6), (.pointer (some ⟨i22, 2, none⟩)), (.int .i64 n31), (.int .i64 (if n31 > t6 then n31 else t6)), (.pointer t5), (.int .i64 n34), (x35.getD 62 undef), (x35.getD 63 undef), (x35.getD 64 undef), (x35.getD 65 undef), (x35.getD 66 undef), (x35.getD 67 undef), (x35.getD 68 undef), (x35.getD 69 undef), (x35.getD 70 undef), (x35.getD 71 undef), (x35.getD 72 undef), (x35.getD 73 undef), (x35.getD 74 undef), (x35.getD 75 undef), (x35.getD 76 undef), (x35.getD 77 undef), (ys40.getD 78 undef), (ys40.getD 79 undef), (ys45.getD 80 undef), (ys45.getD 81 undef), (ys45.getD 82 undef), (ys45.getD 83 undef), (ys45.getD 84 undef), (ys45.getD 85 undef), (ys45.getD 86 undef), (.int .i64 n37), (.int .i64 t7), (.bool (n37 != t7)), (.bool false), (.int .i64 n38), (.pointer t5), (.int .i64 n50), (.bool (n38 != n50)), (.bool (n38 != n50)), (.bool false), (.pointer t5), (.int .i64 n53), (.int .i64 n3), (.int .i64 n42), (.int .i64 (IntKind.i64.wrap (n3 + n42))), (.bool (n53 != (IntKind.i64.wrap (n3 + n42)))), (.bool (n53 != (IntKind.i64.wrap (n3 + n42)))), (.bool true), undef, undef, undef, undef, undef, undef, (.bool true), (.bool true), undef, undef, undef, undef, undef, undef, undef, (.bool true), undef] H52)
 else (
 CA en F.smem_Mem_Bad [(.pointer t5)] H52 fun v54 H55 =>
 ∃ n56, v54 = (.int .i64 n56) ∧
 bif (n56 != (IntKind.i64.wrap (n6 + n47))) then (
 K1 [(.int .i64 t0), (.slice t1 t1l 0), undef, undef, (.bool false), (.pointer t5), (.int .i64 (if n31 > t6 then n31 else t6)), (.int .i64 t7), (.int .i64 t8), (.int .i64 n3), (.int .i64 n6), (.pointer (some ⟨i22, 0, none⟩)), (.int .i64 n30), (.int .i64 n37), (.int .i64 n38), (x35.getD 15 undef), (.int .i64 n42), (.int .i64 n47), (.int .i64 t18), (.pointer t19), (.pointer t20), (.bool t21), (.bool false), (.slice t23 t23l 0), (.int .i64 t24), (.bool t25), (.bool false), undef, undef, undef, undef, undef, (.int .i64 t32), (.int .i64 t33), (.int .i64 t8), (.slice t1 t1l 0), (.int .i64 ((t1l : Nat) : Int)), (.bool true), (ys.getD 38 undef), (ys.getD 39 undef), (.pointer t5), (.int .i64 n3), (.pointer t5), (.int .i64 n6), (.pointer t5), (.slice t1 t1l 0), (.int .i64 t8), (.pointer (some ⟨i7, (i8 + (t8.toNat * 7)), none⟩)), (.agg #[(.int .i64 n9), (.int .i64 n10), (.int .i64 n11), (.int .i64 n12), (.int .u64 n13), (.int .u64 n14), (.int .u64 n15)]), (.agg #[(.int .u64 n18), (.bool b19), (.int .i64 n20), (.int .i64 n21)]), (.slice t1 t1l 0), (.int .i64 t8), (.pointer (some ⟨i25, (i26 + (t8.toNat * 7)), none⟩)), (.pointer (some ⟨i25, (i26 + (t8.toNat * 7)), none⟩)), (.int .i64 n27), (.int .i64 n30), (.int .i64 t6), (.pointer (some ⟨i22, 2, none⟩)), (.int .i64 n31), (.int .i64 (if n31 > t6 then n31 else t6)), (.pointer t5), (.int .i64 n34), (x35.getD 62 undef), (x35.getD 63 undef), (x35.getD 64 undef), (x35.getD 65 undef), (x35.getD 66 undef), (x35.getD 67 undef), (x35.getD 68 undef), (x35.getD 69 undef), (x35.getD 70 undef), (x35.getD 71 undef), (x35.getD 72 undef), (x35.getD 73 undef), (x35.getD 74 undef), (x35.getD 75 undef), (x35.getD 76 undef), (x35.getD 77 undef), (ys40.getD 78 undef), (ys40.getD 79 undef), (ys45.getD 80 undef), (ys45.getD 81 undef), (ys45.getD 82 undef), (ys45.getD 83 undef), (ys45.getD 84 undef), (ys45.getD 85 undef), (ys45.getD 86 undef), (.int .i64 n37), (.int .i64 t7), (.bool (n37 != t7)), (.bool false), (.int .i64 n38), (.pointer t5), (.int .i64 n50), (.bool (n38 != n50)), (.bool (n38 != n50)), (.bool false), (.pointer t5), (.int .i64 n53), (.int .i64 n3), (.int .i64 n42), (.int .i64 (IntKind.i64.wrap (n3 + n42))), (.bool (n53 != (IntKind.i64.wrap (n3 + n42)))), (.bool (n53 != (IntKind.i64.wrap (n3 + n42)))), (.bool false), (.pointer t5), (.int .i64 n56), (.int .i64 n6), (.int .i64 n47), (.int .i64 (IntKind.i64.wrap (n6 + n47))), (.bool (n56 != (IntKind.i64.wrap (n6 + n47)))), (.bool (n56 != (IntKind.i64.wrap (n6 + n47)))), (.bool true), undef, undef, undef, undef, undef, undef, undef, (.bool true), undef] H55)
 else (
 bif (n47 == 1) then (
 ∃ n57, H55.cell i22 0 = some (.int .u64 n57) ∧
 bif (n57 != 0) then (
 K1 [(.int .i64 t0), (.slice t1 t1l 0), undef, undef, (.bool false), (.pointer t5), (.int .i64 (if n31 > t6 then n31 else t6)), (.int .i64 t7), (.int .i64 t8), (.int .i64 n3), (.int .i64 n6), (.pointer (some ⟨i22, 0, none⟩)), (.int .i64 n30), (.int .i64 n37), (.int .i64 n38), (x35.getD 15 undef), (.int .i64 n42), (.int .i64 n47), (.int .i64 t18), (.pointer t19), (.pointer t20), (.bool t21), (.bool false), (.slice t23 t23l 0), (.int .i64 t24), (.bool t25), (.bool false), undef, undef, undef, undef, undef, (.int .i64 t32), (.int .i64 t33), (.int .i64 t8), (.slice t1 t1l 0), (.int .i64 ((t1l : Nat) : Int)), (.bool true), (ys.getD 38 undef), (ys.getD 39 undef), (.pointer t5), (.int .i64 n3), (.pointer t5), (.int .i64 n6), (.pointer t5), (.slice t1 t1l 0), (.int .i64 t8), (.pointer (some ⟨i7, (i8 + (t8.toNat * 7)), none⟩)), (.agg #[(.int .i64 n9), (.int .i64 n10), (.int .i64 n11), (.int .i64 n12), (.int .u64 n13), (.int .u64 n14), (.int .u64 n15)]), (.agg #[(.int .u64 n18), (.bool b19), (.int .i64 n20), (.int .i64 n21)]), (.slice t1 t1l 0), (.int .i64 t8), (.pointer (some ⟨i25, (i26 + (t8.toNat * 7)), none⟩)), (.pointer (some ⟨i25, (i26 + (t8.toNat * 7)), none⟩)), (.int .i64 n27), (.int .i64 n30), (.int .i64 t6), (.pointer (some ⟨i22, 2, none⟩)), (.int .i64 n31), (.int .i64 (if n31 > t6 then n31 else t6)), (.pointer t5), (.int .i64 n34), (x35.getD 62 undef), (x35.getD 63 undef), (x35.getD 64 undef), (x35.getD 65 undef), (x35.getD 66 undef), (x35.getD 67 undef), (x35.getD 68 undef), (x35.getD 69 undef), (x35.getD 70 undef), (x35.getD 71 undef), (x35.getD 72 undef), (x35.getD 73 undef), (x35.getD 74 undef), (x35.getD 75 undef), (x35.getD 76 undef), (x35.getD 77 undef), (ys40.getD 78 undef), (ys40.getD 79 undef), (ys45.getD 80 undef), (ys45.getD 81 undef), (ys45.getD 82 undef), (ys45.getD 83 undef), (ys45.getD 84 undef), (ys45.getD 85 undef), (ys45.getD 86 undef), (.int .i64 n37), (.int .i64 t7), (.bool (n37 != t7)), (.bool false), (.int .i64 n38), (.pointer t5), (.int .i64 n50), (.bool (n38 != n50)), (.bool (n38 != n50)), (.bool false), (.pointer t5), (.int .i64 n53), (.int .i64 n3), (.int .i64 n42), (.int .i64 (IntKind.i64.wrap (n3 + n42))), (.bool (n53 != (IntKind.i64.wrap (n3 + n42)))), (.bool (n53 != (IntKind.i64.wrap (n3 + n42)))), (.bool false), (.pointer t5), (.int .i64 n56), (.int .i64 n6), (.int .i64 n47), (.int .i64 (IntKind.i64.wrap (n6 + n47))), (.bool (n56 != (IntKind.i64.wrap (n6 + n47)))), (.bool (n56 != (IntKind.i64.wrap (n6 + n47)))), (.bool false), (.int .i64 n47), (.bool (n47 == 1)), (.bool true), (.pointer (some ⟨i22, 0, none⟩)), (.int .u64 n57), (.bool (n57 != 0)), (.bool (n57 != 0)), (.bool true), undef] H55)
 else (
 ∃ k58, k58 < n ∧
 I k58 t4 (if n31 > t6 then n31 else t6) (IntKind.i64.wrap (t8 + 1)) H55))
 else (
 ∃ k59, k59 < n ∧
 I k59 t4 (if n31 > t6 then n31 else t6) (IntKind.i64.wrap (t8 + 1)) H55))))))])
 else (
 K0 [(.int .i64 t0), (.slice t1 t1l 0), undef, undef, (.bool t4), (.pointer t5), (.int .i64 t6), (.int .i64 t7), (.int .i64 t8), (ys.getD 9 undef), (ys.getD 10 undef), (ys.getD 11 undef), (ys.getD 12 undef), (ys.getD 13 undef), (ys.getD 14 undef), (ys.getD 15 undef), (ys.getD 16 undef), (ys.getD 17 undef), (.int .i64 t18), (.pointer t19), (.pointer t20), (.bool t21), (.bool false), (.slice t23 t23l 0), (.int .i64 t24), (.bool t25), (.bool false), undef, undef, undef, undef, undef, (.int .i64 t32), (.int .i64 t33), (.int .i64 t8), (.slice t1 t1l 0), (.int .i64 ((t1l : Nat) : Int)), (.bool false), (ys.getD 38 undef), (ys.getD 39 undef), (ys.getD 40 undef), (ys.getD 41 undef), (ys.getD 42 undef), (ys.getD 43 undef), (ys.getD 44 undef), (ys.getD 45 undef), (ys.getD 46 undef), (ys.getD 47 undef), (ys.getD 48 undef), (ys.getD 49 undef), (ys.getD 50 undef), (ys.getD 51 undef), (ys.getD 52 undef), (ys.getD 53 undef), (ys.getD 54 undef), (ys.getD 55 undef), (ys.getD 56 undef), (ys.getD 57 undef), (ys.getD 58 undef), (ys.getD 59 undef), (ys.getD 60 undef), (ys.getD 61 undef), (ys.getD 62 undef), (ys.getD 63 undef), (ys.getD 64 undef), (ys.getD 65 undef), (ys.getD 66 undef), (ys.getD 67 undef), (ys.getD 68 undef), (ys.getD 69 undef), (ys.getD 70 undef), (ys.getD 71 undef), (ys.getD 72 undef), (ys.getD 73 undef), (ys.getD 74 undef), (ys.getD 75 undef), (ys.getD 76 undef), (ys.getD 77 undef), (ys.getD 78 undef), (ys.getD 79 undef), (ys.getD 80 undef), (ys.getD 81 undef), (ys.getD 82 undef), (ys.getD 83 undef), (ys.getD 84 undef), (ys.getD 85 undef), (ys.getD 86 undef), (ys.getD 87 undef), (ys.getD 88 undef), (ys.getD 89 undef), (ys.getD 90 undef), (ys.getD 91 undef), (ys.getD 92 undef), (ys.getD 93 undef), (ys.getD 94 undef), (ys.getD 95 undef), (ys.getD 96 undef), (ys.getD 97 undef), (ys.getD 98 undef), (ys.getD 99 undef), (ys.getD 100 undef), (ys.getD 101 undef), (ys.getD 102 undef), (ys.getD 103 undef), (ys.getD 104 undef), (ys.getD 105 undef), (ys.getD 106 undef), (ys.getD 107 undef), (ys.getD 108 undef), (ys.getD 109 undef), (ys.getD 110 undef), (ys.getD 111 undef), (ys.getD 112 undef), (ys.getD 113 undef), (ys.getD 114 undef), (ys.getD 115 undef), (ys.getD 116 undef), (ys.getD 117 undef), (ys.getD 118 undef), (ys.getD 119 undef), (ys.getD 120 undef), undef] H))) :
    LA en L_crossbarlaw08_SmemWhole_0 [(.int .i64 t0), (.slice t1 t1l 0), undef, undef, (.bool t4), (.pointer t5), (.int .i64 t6), (.int .i64 t7), (.int .i64 t8), t9, t10, t11, t12, t13, t14, t15, t16, t17, (.int .i64 t18), (.pointer t19), (.pointer t20), (.bool t21), (.bool false), (.slice t23 t23l 0), (.int .i64 t24), (.bool t25), (.bool false), undef, undef, undef, undef, undef, (.int .i64 t32), (.int .i64 t33), t34, t35, t36, t37, t38, t39, t40, t41, t42, t43, t44, t45, t46, t47, t48, t49, t50, t51, t52, t53, t54, t55, t56, t57, t58, t59, t60, t61, t62, t63, t64, t65, t66, t67, t68, t69, t70, t71, t72, t73, t74, t75, t76, t77, t78, t79, t80, t81, t82, t83, t84, t85, t86, t87, t88, t89, t90, t91, t92, t93, t94, t95, t96, t97, t98, t99, t100, t101, t102, t103, t104, t105, t106, t107, t108, t109, t110, t111, t112, t113, t114, t115, t116, t117, t118, t119, t120, undef] H [(X.exit 0, K0), (X.ret, K1)] := by
  refine LA_ruleC (C := [none, none, none, none, none, none, none, none, none, none, none, none, none, some [(16, (.int .i64 0))], none, none, some [(17, (.int .i64 0))], none, none, none]) (Z := [[(13, (.int .i64 0)), (14, (.int .i64 0))]]) (fun m xs H' => AS.asBool (xs.getD 4 undef) fun t4 => AS.asInt .i64 (xs.getD 6 undef) fun t6 => AS.asInt .i64 (xs.getD 8 undef) fun t8 => I m t4 t6 t8 H') ?_ n H ?_
  · intro n H
    suffices hs : ∀ s34 : Value, ∀ s35 : Value, ∀ s36 : Value, ∀ s37 : Value, ∀ s40 : Value, ∀ s41 : Value, ∀ s9 : Value, ∀ s42 : Value, ∀ s43 : Value, ∀ s10 : Value, ∀ s44 : Value, ∀ s45 : Value, ∀ s46 : Value, ∀ s47 : Value, ∀ s48 : Value, ∀ s49 : Value, ∀ s11 : Value, ∀ s50 : Value, ∀ s51 : Value, ∀ s52 : Value, ∀ s53 : Value, ∀ s54 : Value, ∀ s55 : Value, ∀ s12 : Value, ∀ s56 : Value, ∀ s57 : Value, ∀ s58 : Value, ∀ s59 : Value, ∀ s6 : Value, ∀ s60 : Value, ∀ s61 : Value, ∀ s13 : Value, ∀ s14 : Value, ∀ s15 : Value, ∀ s62 : Value, ∀ s63 : Value, ∀ s64 : Value, ∀ s67 : Value, ∀ s68 : Value, ∀ s69 : Value, ∀ s70 : Value, ∀ s71 : Value, ∀ s72 : Value, ∀ s73 : Value, ∀ s74 : Value, ∀ s75 : Value, ∀ s76 : Value, ∀ s77 : Value, ∀ s65 : Value, ∀ s66 : Value, ∀ s16 : Value, ∀ s78 : Value, ∀ s79 : Value, ∀ s17 : Value, ∀ s80 : Value, ∀ s81 : Value, ∀ s82 : Value, ∀ s83 : Value, ∀ s84 : Value, ∀ s85 : Value, ∀ s86 : Value, ∀ s87 : Value, ∀ s88 : Value, ∀ s89 : Value, ∀ s90 : Value, ∀ s91 : Value, ∀ s92 : Value, ∀ s93 : Value, ∀ s94 : Value, ∀ s95 : Value, ∀ s96 : Value, ∀ s97 : Value, ∀ s98 : Value, ∀ s99 : Value, ∀ s100 : Value, ∀ s101 : Value, ∀ s102 : Value, ∀ s103 : Value, ∀ s104 : Value, ∀ s105 : Value, ∀ s106 : Value, ∀ s107 : Value, ∀ s108 : Value, ∀ s109 : Value, ∀ s110 : Value, ∀ s111 : Value, ∀ s112 : Value, ∀ s113 : Value, ∀ s114 : Value, ∀ s115 : Value, ∀ s116 : Value, ∀ s117 : Value, ∀ s118 : Value, ∀ s119 : Value, ∀ s120 : Value, ∀ s4 : Value, ∀ s38 : Value, ∀ s39 : Value, ∀ s8 : Value, ((AS.asBool s4 fun t4 => AS.asInt .i64 s6 fun t6 => AS.asInt .i64 s8 fun t8 => I n t4 t6 t8 H) → wpCodeC en L_crossbarlaw08_SmemWhole_0 [none, none, none, none, none, none, none, none, none, none, none, none, none, some [(16, (.int .i64 0))], none, none, some [(17, (.int .i64 0))], none, none, none] [[(13, (.int .i64 0)), (14, (.int .i64 0))]] [(.int .i64 t0), (.slice t1 t1l 0), undef, undef, s4, (.pointer t5), s6, (.int .i64 t7), s8, s9, s10, s11, s12, s13, s14, s15, s16, s17, (.int .i64 t18), (.pointer t19), (.pointer t20), (.bool t21), (.bool false), (.slice t23 t23l 0), (.int .i64 t24), (.bool t25), (.bool false), undef, undef, undef, undef, undef, (.int .i64 t32), (.int .i64 t33), s34, s35, s36, s37, s38, s39, s40, s41, s42, s43, s44, s45, s46, s47, s48, s49, s50, s51, s52, s53, s54, s55, s56, s57, s58, s59, s60, s61, s62, s63, s64, s65, s66, s67, s68, s69, s70, s71, s72, s73, s74, s75, s76, s77, s78, s79, s80, s81, s82, s83, s84, s85, s86, s87, s88, s89, s90, s91, s92, s93, s94, s95, s96, s97, s98, s99, s100, s101, s102, s103, s104, s105, s106, s107, s108, s109, s110, s111, s112, s113, s114, s115, s116, s117, s118, s119, s120, undef] H (loopQ (fun m xs H' => AS.asBool (xs.getD 4 undef) fun t4 => AS.asInt .i64 (xs.getD 6 undef) fun t6 => AS.asInt .i64 (xs.getD 8 undef) fun t8 => I m t4 t6 t8 H') n [(X.exit 0, K0), (X.ret, K1)])) by
      apply turnInto hs
      kernel_rfl
    intro s34 s35 s36 s37 s40 s41 s9 s42 s43 s10 s44 s45 s46 s47 s48 s49 s11 s50 s51 s52 s53 s54 s55 s12 s56 s57 s58 s59 s6 s60 s61 s13 s14 s15 s62 s63 s64 s67 s68 s69 s70 s71 s72 s73 s74 s75 s76 s77 s65 s66 s16 s78 s79 s17 s80 s81 s82 s83 s84 s85 s86 s87 s88 s89 s90 s91 s92 s93 s94 s95 s96 s97 s98 s99 s100 s101 s102 s103 s104 s105 s106 s107 s108 s109 s110 s111 s112 s113 s114 s115 s116 s117 s118 s119 s120 s4 s38 s39 s8 hP
    replace hP := asBool_elim hP
    obtain ⟨t4, rfl, hP⟩ := hP
    replace hP := asInt_elim hP
    obtain ⟨t6, rfl, hP⟩ := hP
    replace hP := asInt_elim hP
    obtain ⟨t8, rfl, hP⟩ := hP
    apply turnInto (hstep n t4 t6 t8 [(.int .i64 t0), (.slice t1 t1l 0), undef, undef, (.bool t4), (.pointer t5), (.int .i64 t6), (.int .i64 t7), (.int .i64 t8), s9, s10, s11, s12, s13, s14, s15, s16, s17, (.int .i64 t18), (.pointer t19), (.pointer t20), (.bool t21), (.bool false), (.slice t23 t23l 0), (.int .i64 t24), (.bool t25), (.bool false), undef, undef, undef, undef, undef, (.int .i64 t32), (.int .i64 t33), s34, s35, s36, s37, s38, s39, s40, s41, s42, s43, s44, s45, s46, s47, s48, s49, s50, s51, s52, s53, s54, s55, s56, s57, s58, s59, s60, s61, s62, s63, s64, s65, s66, s67, s68, s69, s70, s71, s72, s73, s74, s75, s76, s77, s78, s79, s80, s81, s82, s83, s84, s85, s86, s87, s88, s89, s90, s91, s92, s93, s94, s95, s96, s97, s98, s99, s100, s101, s102, s103, s104, s105, s106, s107, s108, s109, s110, s111, s112, s113, s114, s115, s116, s117, s118, s119, s120, undef] H hP)
    kernel_rfl
  · apply turnInto h0
    kernel_rfl

theorem use_crossbarlaw08_SmemWhole_1 {t0 : Int} {t1 : Option Addr} {t1l : Nat} {t4 : Bool} {t5 : Option Addr} {t6 : Int} {t7 : Int} {t8 : Int} {t9 : Int} {t10 : Int} {t11 : Nat} {t12 : Int} {t16 : Value} {t17 : Value} {t18 : Int} {t19 : Option Addr} {t20 : Option Addr} {t21 : Bool} {t23 : Option Addr} {t23l : Nat} {t24 : Int} {t25 : Bool} {t32 : Int} {t33 : Int} {t34 : Int} {t35 : Option Addr} {t35l : Nat} {t36 : Int} {t38 : Value} {t39 : Value} {t40 : Option Addr} {t41 : Int} {t42 : Option Addr} {t43 : Int} {t44 : Option Addr} {t45 : Option Addr} {t45l : Nat} {t46 : Int} {t47 : Nat} {t47o : Nat} {t48_0 : Int} {t48_1 : Int} {t48_2 : Int} {t48_3 : Int} {t48_4 : Int} {t48_5 : Int} {t48_6 : Int} {t49_0 : Int} {t49_1 : Bool} {t49_2 : Int} {t49_3 : Int} {t50 : Option Addr} {t50l : Nat} {t51 : Int} {t52 : Nat} {t52o : Nat} {t53 : Nat} {t53o : Nat} {t54 : Int} {t55 : Int} {t56 : Int} {t57 : Nat} {t58 : Int} {t59 : Int} {t60 : Option Addr} {t61 : Int} {t78 : Value} {t79 : Value} {t80 : Value} {t81 : Value} {t82 : Value} {t83 : Value} {t84 : Value} {t85 : Value} {t86 : Value} {t87 : Value} {t88 : Value} {t89 : Value} {t90 : Value} {t91 : Value} {t92 : Value} {t93 : Value} {t94 : Value} {t95 : Value} {t96 : Value} {t97 : Value} {t98 : Value} {t99 : Value} {t100 : Value} {t101 : Value} {t102 : Value} {t103 : Value} {t104 : Value} {t105 : Value} {t106 : Value} {t107 : Value} {t108 : Value} {t109 : Value} {t110 : Value} {t111 : Value} {t112 : Value} {t113 : Value} {t114 : Value} {t115 : Value} {t116 : Value} {t117 : Value} {t118 : Value} {t119 : Value} {t120 : Value} {K0 : Fr → Heap → Prop} {t13 : Int} {t14 : Int} {t15 : Int} {t62 : Value} {t63 : Value} {t64 : Value} {t65 : Value} {t66 : Value} {t67 : Value} {t68 : Value} {t69 : Value} {t70 : Value} {t71 : Value} {t72 : Value} {t73 : Value} {t74 : Value} {t75 : Value} {t76 : Value} {t77 : Value} {H : Heap} (I : Nat → Int → Int → Int → Heap → Prop) (n : Nat) (h0 : I n t13 t14 t15 H)
    (hstep : ∀ (n : Nat) (t13 : Int) (t14 : Int) (t15 : Int) (ys : Fr) (H : Heap), I n t13 t14 t15 H →
    (
 bif (decide (t15 ≤ t6)) then (
 CA en F.smem_Mem_Size [(.pointer t5), (.int .i64 t15)] H fun v1 H2 =>
 ∃ n3, v1 = (.int .i64 n3) ∧
 CA en F.smem_Mem_Size [(.pointer t5), (.int .i64 t15)] H2 fun v4 H5 =>
 ∃ n6, v4 = (.int .i64 n6) ∧
 bif (decide (n6 > 0)) then (
 ∃ k7, k7 < n ∧
 I k7 (IntKind.i64.wrap (t13 + n3)) (IntKind.i64.wrap (t14 + 1)) (IntKind.i64.wrap (t15 + 1)) H5)
 else (
 ∃ k8, k8 < n ∧
 I k8 (IntKind.i64.wrap (t13 + n3)) t14 (IntKind.i64.wrap (t15 + 1)) H5))
 else (
 K0 [(.int .i64 t0), (.slice t1 t1l 0), undef, undef, (.bool t4), (.pointer t5), (.int .i64 t6), (.int .i64 t7), (.int .i64 t8), (.int .i64 t9), (.int .i64 t10), (.pointer (some ⟨t11, 0, none⟩)), (.int .i64 t12), (.int .i64 t13), (.int .i64 t14), (.int .i64 t15), t16, t17, (.int .i64 t18), (.pointer t19), (.pointer t20), (.bool t21), (.bool false), (.slice t23 t23l 0), (.int .i64 t24), (.bool t25), (.bool false), undef, undef, undef, undef, undef, (.int .i64 t32), (.int .i64 t33), (.int .i64 t34), (.slice t35 t35l 0), (.int .i64 t36), (.bool true), t38, t39, (.pointer t40), (.int .i64 t41), (.pointer t42), (.int .i64 t43), (.pointer t44), (.slice t45 t45l 0), (.int .i64 t46), (.pointer (some ⟨t47, t47o, none⟩)), (.agg #[(.int .i64 t48_0), (.int .i64 t48_1), (.int .i64 t48_2), (.int .i64 t48_3), (.int .u64 t48_4), (.int .u64 t48_5), (.int .u64 t48_6)]), (.agg #[(.int .u64 t49_0), (.bool t49_1), (.int .i64 t49_2), (.int .i64 t49_3)]), (.slice t50 t50l 0), (.int .i64 t51), (.pointer (some ⟨t52, t52o, none⟩)), (.pointer (some ⟨t53, t53o, none⟩)), (.int .i64 t54), (.int .i64 t55), (.int .i64 t56), (.pointer (some ⟨t57, 2, none⟩)), (.int .i64 t58), (.int .i64 t59), (.pointer t60), (.int .i64 t61), (.int .i64 t15), (.int .i64 t6), (.bool false), (ys.getD 65 undef), (ys.getD 66 undef), (ys.getD 67 undef), (ys.getD 68 undef), (ys.getD 69 undef), (ys.getD 70 undef), (ys.getD 71 undef), (ys.getD 72 undef), (ys.getD 73 undef), (ys.getD 74 undef), (ys.getD 75 undef), (ys.getD 76 undef), (ys.getD 77 undef), t78, t79, t80, t81, t82, t83, t84, t85, t86, t87, t88, t89, t90, t91, t92, t93, t94, t95, t96, t97, t98, t99, t100, t101, t102, t103, t104, t105, t106, t107, t108, t109, t110, t111, t112, t113, t114, t115, t116, t117, t118, t119, t120, undef] H))) :
    LA en L_crossbarlaw08_SmemWhole_1 [(.int .i64 t0), (.slice t1 t1l 0), undef, undef, (.bool t4), (.pointer t5), (.int .i64 t6), (.int .i64 t7), (.int .i64 t8), (.int .i64 t9), (.int .i64 t10), (.pointer (some ⟨t11, 0, none⟩)), (.int .i64 t12), (.int .i64 t13), (.int .i64 t14), (.int .i64 t15), t16, t17, (.int .i64 t18), (.pointer t19), (.pointer t20), (.bool t21), (.bool false), (.slice t23 t23l 0), (.int .i64 t24), (.bool t25), (.bool false), undef, undef, undef, undef, undef, (.int .i64 t32), (.int .i64 t33), (.int .i64 t34), (.slice t35 t35l 0), (.int .i64 t36), (.bool true), t38, t39, (.pointer t40), (.int .i64 t41), (.pointer t42), (.int .i64 t43), (.pointer t44), (.slice t45 t45l 0), (.int .i64 t46), (.pointer (some ⟨t47, t47o, none⟩)), (.agg #[(.int .i64 t48_0), (.int .i64 t48_1), (.int .i64 t48_2), (.int .i64 t48_3), (.int .u64 t48_4), (.int .u64 t48_5), (.int .u64 t48_6)]), (.agg #[(.int .u64 t49_0), (.bool t49_1), (.int .i64 t49_2), (.int .i64 t49_3)]), (.slice t50 t50l 0), (.int .i64 t51), (.pointer (some ⟨t52, t52o, none⟩)), (.pointer (some ⟨t53, t53o, none⟩)), (.int .i64 t54), (.int .i64 t55), (.int .i64 t56), (.pointer (some ⟨t57, 2, none⟩)), (.int .i64 t58), (.int .i64 t59), (.pointer t60), (.int .i64 t61), t62, t63, t64, t65, t66, t67, t68, t69, t70, t71, t72, t73, t74, t75, t76, t77, t78, t79, t80, t81, t82, t83, t84, t85, t86, t87, t88, t89, t90, t91, t92, t93, t94, t95, t96, t97, t98, t99, t100, t101, t102, t103, t104, t105, t106, t107, t108, t109, t110, t111, t112, t113, t114, t115, t116, t117, t118, t119, t120, undef] H [(X.exit 2, K0)] := by
  refine LA_rule (Z := []) (fun m xs H' => AS.asInt .i64 (xs.getD 13 undef) fun t13 => AS.asInt .i64 (xs.getD 14 undef) fun t14 => AS.asInt .i64 (xs.getD 15 undef) fun t15 => I m t13 t14 t15 H') ?_ n H ?_
  · intro n H
    suffices hs : ∀ s62 : Value, ∀ s63 : Value, ∀ s64 : Value, ∀ s67 : Value, ∀ s68 : Value, ∀ s69 : Value, ∀ s70 : Value, ∀ s71 : Value, ∀ s13 : Value, ∀ s72 : Value, ∀ s73 : Value, ∀ s74 : Value, ∀ s75 : Value, ∀ s76 : Value, ∀ s77 : Value, ∀ s14 : Value, ∀ s65 : Value, ∀ s66 : Value, ∀ s15 : Value, ((AS.asInt .i64 s13 fun t13 => AS.asInt .i64 s14 fun t14 => AS.asInt .i64 s15 fun t15 => I n t13 t14 t15 H) → wpCode en L_crossbarlaw08_SmemWhole_1 [] [(.int .i64 t0), (.slice t1 t1l 0), undef, undef, (.bool t4), (.pointer t5), (.int .i64 t6), (.int .i64 t7), (.int .i64 t8), (.int .i64 t9), (.int .i64 t10), (.pointer (some ⟨t11, 0, none⟩)), (.int .i64 t12), s13, s14, s15, t16, t17, (.int .i64 t18), (.pointer t19), (.pointer t20), (.bool t21), (.bool false), (.slice t23 t23l 0), (.int .i64 t24), (.bool t25), (.bool false), undef, undef, undef, undef, undef, (.int .i64 t32), (.int .i64 t33), (.int .i64 t34), (.slice t35 t35l 0), (.int .i64 t36), (.bool true), t38, t39, (.pointer t40), (.int .i64 t41), (.pointer t42), (.int .i64 t43), (.pointer t44), (.slice t45 t45l 0), (.int .i64 t46), (.pointer (some ⟨t47, t47o, none⟩)), (.agg #[(.int .i64 t48_0), (.int .i64 t48_1), (.int .i64 t48_2), (.int .i64 t48_3), (.int .u64 t48_4), (.int .u64 t48_5), (.int .u64 t48_6)]), (.agg #[(.int .u64 t49_0), (.bool t49_1), (.int .i64 t49_2), (.int .i64 t49_3)]), (.slice t50 t50l 0), (.int .i64 t51), (.pointer (some ⟨t52, t52o, none⟩)), (.pointer (some ⟨t53, t53o, none⟩)), (.int .i64 t54), (.int .i64 t55), (.int .i64 t56), (.pointer (some ⟨t57, 2, none⟩)), (.int .i64 t58), (.int .i64 t59), (.pointer t60), (.int .i64 t61), s62, s63, s64, s65, s66, s67, s68, s69, s70, s71, s72, s73, s74, s75, s76, s77, t78, t79, t80, t81, t82, t83, t84, t85, t86, t87, t88, t89, t90, t91, t92, t93, t94, t95, t96, t97, t98, t99, t100, t101, t102, t103, t104, t105, t106, t107, t108, t109, t110, t111, t112, t113, t114, t115, t116, t117, t118, t119, t120, undef] H (loopQ (fun m xs H' => AS.asInt .i64 (xs.getD 13 undef) fun t13 => AS.asInt .i64 (xs.getD 14 undef) fun t14 => AS.asInt .i64 (xs.getD 15 undef) fun t15 => I m t13 t14 t15 H') n [(X.exit 2, K0)])) by
      apply turnInto hs
      kernel_rfl
    intro s62 s63 s64 s67 s68 s69 s70 s71 s13 s72 s73 s74 s75 s76 s77 s14 s65 s66 s15 hP
    replace hP := asInt_elim hP
    obtain ⟨t13, rfl, hP⟩ := hP
    replace hP := asInt_elim hP
    obtain ⟨t14, rfl, hP⟩ := hP
    replace hP := asInt_elim hP
    obtain ⟨t15, rfl, hP⟩ := hP
    apply turnInto (hstep n t13 t14 t15 [(.int .i64 t0), (.slice t1 t1l 0), undef, undef, (.bool t4), (.pointer t5), (.int .i64 t6), (.int .i64 t7), (.int .i64 t8), (.int .i64 t9), (.int .i64 t10), (.pointer (some ⟨t11, 0, none⟩)), (.int .i64 t12), (.int .i64 t13), (.int .i64 t14), (.int .i64 t15), t16, t17, (.int .i64 t18), (.pointer t19), (.pointer t20), (.bool t21), (.bool false), (.slice t23 t23l 0), (.int .i64 t24), (.bool t25), (.bool false), undef, undef, undef, undef, undef, (.int .i64 t32), (.int .i64 t33), (.int .i64 t34), (.slice t35 t35l 0), (.int .i64 t36), (.bool true), t38, t39, (.pointer t40), (.int .i64 t41), (.pointer t42), (.int .i64 t43), (.pointer t44), (.slice t45 t45l 0), (.int .i64 t46), (.pointer (some ⟨t47, t47o, none⟩)), (.agg #[(.int .i64 t48_0), (.int .i64 t48_1), (.int .i64 t48_2), (.int .i64 t48_3), (.int .u64 t48_4), (.int .u64 t48_5), (.int .u64 t48_6)]), (.agg #[(.int .u64 t49_0), (.bool t49_1), (.int .i64 t49_2), (.int .i64 t49_3)]), (.slice t50 t50l 0), (.int .i64 t51), (.pointer (some ⟨t52, t52o, none⟩)), (.pointer (some ⟨t53, t53o, none⟩)), (.int .i64 t54), (.int .i64 t55), (.int .i64 t56), (.pointer (some ⟨t57, 2, none⟩)), (.int .i64 t58), (.int .i64 t59), (.pointer t60), (.int .i64 t61), s62, s63, s64, s65, s66, s67, s68, s69, s70, s71, s72, s73, s74, s75, s76, s77, t78, t79, t80, t81, t82, t83, t84, t85, t86, t87, t88, t89, t90, t91, t92, t93, t94, t95, t96, t97, t98, t99, t100, t101, t102, t103, t104, t105, t106, t107, t108, t109, t110, t111, t112, t113, t114, t115, t116, t117, t118, t119, t120, undef] H hP)
    kernel_rfl
  · apply turnInto h0
    kernel_rfl

end Go.Proofs.Ytdkbgjhlpoibdaa
