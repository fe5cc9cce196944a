/-
  What functions of this seat's program need (printed by a program, checked by the kernel).
-/
import Derived.Test.YtdkbgjhlpoibdaaNames
import Derived.Test.YtdkbgjhlpoibdaaAs41
namespace Go.Proofs.Ytdkbgjhlpoibdaa
open Go Go.AS Go.RowKit
set_option linter.unusedVariables false
set_option maxRecDepth 100000

/-! crossbarref08_New -/

theorem vc_crossbarref08_New (x0 : Int) (H : Heap) (R : Value → Heap → Prop) :
    (
 nwH H (.cells true 0 [(.slice none 0 0), (.int .i64 (if (if 65536 < x0 then 65536 else x0) > 0 then (if 65536 < x0 then 65536 else x0) else 0)), (.int .i64 0), (.int .i64 0)]) fun i1 H2 =>
 R (.pointer (some ⟨i1, 0, none⟩)) H2) →
    CA en F.crossbarref08_New [(.int .i64 x0)] H R := by
  intro h
  refine wpFn_ok (Z := []) (fn := Go.Proofs.Try.f45) ?_ ?_ ?_
  · kernel_rfl
  · kernel_rfl
  · apply turnInto h
    kernel_rfl


/-! crossbarlaw08_should -/

/-! crossbarref08_Mem_Room -/

theorem vc_crossbarref08_Mem_Room (x0 : Option Addr) (H : Heap) (R : Value → Heap → Prop) :
    (
 AS.asAddr (.pointer x0) fun i1 i2 =>
 ∃ n3, H.cell i1 (i2 + 1) = some (.int .i64 n3) ∧
 R (.int .i64 n3) H) →
    CA en F.crossbarref08_Mem_Room [(.pointer x0)] H R := by
  intro h
  refine wpFn_ok (Z := []) (fn := Go.Proofs.Try.f47) ?_ ?_ ?_
  · kernel_rfl
  · kernel_rfl
  · apply turnInto h
    kernel_rfl


/-! crossbarref08_Mem_Live -/
noncomputable def L_crossbarref08_Mem_Live_0 : Code := loopAt Go.Proofs.Try.f48 0

theorem vc_crossbarref08_Mem_Live (x0 : Option Addr) (H : Heap) (R : Value → Heap → Prop) :
    (
 LA en L_crossbarref08_Mem_Live_0 [(.pointer x0), undef, (.int .i64 0), (.int .i64 0), (.int .i64 0), undef, undef, undef, undef, undef, undef, undef, undef, undef, undef, undef, undef, undef, undef, undef, undef, undef, undef, undef, undef] H [(X.exit 0, fun (x1 : Fr) (H2 : Heap) =>
 AS.asInt .i64 (x1.getD 3 undef) fun n3 =>
 R (.int .i64 n3) H2)]) →
    CA en F.crossbarref08_Mem_Live [(.pointer x0)] H R := by
  intro h
  refine wpFn_ok (Z := [[(3, (.int .i64 0))]]) (fn := Go.Proofs.Try.f48) ?_ ?_ ?_
  · kernel_rfl
  · kernel_rfl
  · apply turnInto h
    kernel_rfl

/-! crossbarref08_Mem_Count -/

theorem vc_crossbarref08_Mem_Count (x0 : Option Addr) (H : Heap) (R : Value → Heap → Prop) :
    (
 AS.asAddr (.pointer x0) fun i1 i2 =>
 ∃ n3, H.cell i1 (i2 + 2) = some (.int .i64 n3) ∧
 R (.int .i64 n3) H) →
    CA en F.crossbarref08_Mem_Count [(.pointer x0)] H R := by
  intro h
  refine wpFn_ok (Z := []) (fn := Go.Proofs.Try.f49) ?_ ?_ ?_
  · kernel_rfl
  · kernel_rfl
  · apply turnInto h
    kernel_rfl


/-! crossbarref08_Mem_Bad -/

theorem vc_crossbarref08_Mem_Bad (x0 : Option Addr) (H : Heap) (R : Value → Heap → Prop) :
    (
 AS.asAddr (.pointer x0) fun i1 i2 =>
 ∃ n3, H.cell i1 (i2 + 3) = some (.int .i64 n3) ∧
 R (.int .i64 n3) H) →
    CA en F.crossbarref08_Mem_Bad [(.pointer x0)] H R := by
  intro h
  refine wpFn_ok (Z := []) (fn := Go.Proofs.Try.f50) ?_ ?_ ?_
  · kernel_rfl
  · kernel_rfl
  · apply turnInto h
    kernel_rfl


/-! crossbarref08_Mem_Size -/

theorem vc_crossbarref08_Mem_Size (x0 : Option Addr) (x1 : Int) (H : Heap) (R : Value → Heap → Prop) :
    (
 CA en F.crossbarref08_Mem_live [(.pointer x0), (.int .i64 x1)] H fun v1 H2 =>
 ∃ b3, v1 = (.bool b3) ∧
 bif (!b3) then (
 R (.int .i64 0) H2)
 else (
 AS.asAddr (.pointer x0) fun i4 i5 =>
 ∃ a6 i7, H2.cell i4 i5 = some (.slice a6 i7 0) ∧
 inB (IntKind.i64.wrap (x1 - 1)) i7 ∧
 asRow a6 fun i8 i9 =>
 ∃ a10 i11, H2.cell i8 ((i9 + ((IntKind.i64.wrap (x1 - 1)).toNat * 2)) + 1) = some (.slice a10 i11 0) ∧
 R (.int .i64 ((i11 : Nat) : Int)) H2)) →
    CA en F.crossbarref08_Mem_Size [(.pointer x0), (.int .i64 x1)] H R := by
  intro h
  refine wpFn_ok (Z := []) (fn := Go.Proofs.Try.f51) ?_ ?_ ?_
  · kernel_rfl
  · kernel_rfl
  · apply turnInto h
    kernel_rfl


/-! crossbarref08_Mem_Make -/

theorem vc_crossbarref08_Mem_Make (x0 : Option Addr) (x1 : Int) (H : Heap) (R : Value → Heap → Prop) :
    (
 bif (decide (x1 < 1)) then (
 R (.tuple #[(.int .i64 0), (.int .i64 1)]) H)
 else (
 bif (decide (x1 > 65536)) then (
 R (.tuple #[(.int .i64 0), (.int .i64 1)]) H)
 else (
 AS.asAddr (.pointer x0) fun i1 i2 =>
 ∃ n3, H.cell i1 (i2 + 1) = some (.int .i64 n3) ∧
 bif (decide (x1 > n3)) then (
 R (.tuple #[(.int .i64 0), (.int .i64 5)]) H)
 else (
 AS.asAddr (.pointer x0) fun i4 i5 =>
 ∃ n6, H.cell i4 (i5 + 1) = some (.int .i64 n6) ∧
 AS.asAddr (.pointer x0) fun i7 i8 =>
 stc H i7 (i8 + 1) [(.int .i64 (IntKind.i64.wrap (n6 - x1)))] fun H9 =>
 AS.asAddr (.pointer x0) fun i10 i11 =>
 ∃ a12 i13, (H9.bump 13).cell i10 i11 = some (.slice a12 i13 0) ∧
 okLen 8 x1 x1 ∧
 nwH (H9.bump 13) (.cells true 1 (reps x1.toNat [(.int .u64 0)])) fun i14 H15 =>
 nwH H15 (.cells true 2 [(.bool true), (.slice (some ⟨i14, 0, none⟩) x1.toNat 0)]) fun i16 H17 =>
 ∃ l18, rowOf H17 2 (some ⟨i16, 0, none⟩) 1 = some l18 ∧
 apd H17 32 2 a12 i13 1 l18 fun a19 i20 H21 =>
 AS.asAddr (.pointer x0) fun i22 i23 =>
 stc H21 i22 i23 [(.slice a19 i20 0)] fun H24 =>
 (
 AS.asAddr (.pointer x0) fun i31 i32 =>
 ∃ a33 i34, H24.cell i31 i32 = some (.slice a33 i34 0) ∧
 R (.tuple #[(.int .i64 ((i34 : Nat) : Int)), (.int .i64 0)]) H24) ∧
 ((∃ a29 i30, (H9.bump 13).cell i10 i11 = some (.slice a29 i30 0) ∧
 (a12 = a29 ∧ i13 = i30 ∧ 0 = 0)) ∧ (∃ a27 i28, H15.cell i10 i11 = some (.slice a27 i28 0) ∧
 (a12 = a27 ∧ i13 = i28 ∧ 0 = 0)) ∧ (∃ a25 i26, H17.cell i10 i11 = some (.slice a25 i26 0) ∧
 (a12 = a25 ∧ i13 = i26 ∧ 0 = 0)) ∧ True) ∧
 True)))) →
    CA en F.crossbarref08_Mem_Make [(.pointer x0), (.int .i64 x1)] H R := by
  intro h
  refine wpFn_ok (Z := []) (fn := Go.Proofs.Try.f67) ?_ ?_ ?_
  · kernel_rfl
  · kernel_rfl
  · apply turnInto h
    kernel_rfl


/-! crossbarref08_Mem_Free -/

theorem vc_crossbarref08_Mem_Free (x0 : Option Addr) (x1 : Int) (H : Heap) (R : Value → Heap → Prop) :
    (
 CA en F.crossbarref08_Mem_live [(.pointer x0), (.int .i64 x1)] H fun v1 H2 =>
 ∃ b3, v1 = (.bool b3) ∧
 bif (!b3) then (
 R (.bool false) H2)
 else (
 AS.asAddr (.pointer x0) fun i4 i5 =>
 ∃ a6 i7, H2.cell i4 i5 = some (.slice a6 i7 0) ∧
 inB (IntKind.i64.wrap (x1 - 1)) i7 ∧
 asRow a6 fun i8 i9 =>
 stc H2 i8 (i9 + ((IntKind.i64.wrap (x1 - 1)).toNat * 2)) [(.bool false)] fun H10 =>
 AS.asAddr (.pointer x0) fun i11 i12 =>
 ∃ n13, (H10.bump 19).cell i11 (i12 + 1) = some (.int .i64 n13) ∧
 AS.asAddr (.pointer x0) fun i14 i15 =>
 ∃ a16 i17, (H10.bump 19).cell i14 i15 = some (.slice a16 i17 0) ∧
 inB (IntKind.i64.wrap (x1 - 1)) i17 ∧
 asRow a16 fun i18 i19 =>
 ∃ a20 i21, (H10.bump 19).cell i18 ((i19 + ((IntKind.i64.wrap (x1 - 1)).toNat * 2)) + 1) = some (.slice a20 i21 0) ∧
 AS.asAddr (.pointer x0) fun i22 i23 =>
 stc (H10.bump 19) i22 (i23 + 1) [(.int .i64 (IntKind.i64.wrap (n13 + ((i21 : Nat) : Int))))] fun H24 =>
 (
 R (.bool true) H24) ∧
 True)) →
    CA en F.crossbarref08_Mem_Free [(.pointer x0), (.int .i64 x1)] H R := by
  intro h
  refine wpFn_ok (Z := []) (fn := Go.Proofs.Try.f68) ?_ ?_ ?_
  · kernel_rfl
  · kernel_rfl
  · apply turnInto h
    kernel_rfl


/-! crossbarref08_Mem_Load -/

theorem vc_crossbarref08_Mem_Load (x0 : Option Addr) (x1 : Int) (x2 : Int) (H : Heap) (R : Value → Heap → Prop) :
    (
 CA en F.crossbarref08_Mem_good [(.pointer x0), (.int .i64 x1), (.int .i64 x2)] H fun v1 H2 =>
 ∃ b3, v1 = (.bool b3) ∧
 bif (!b3) then (
 R (.tuple #[(.int .u64 0), (.bool false)]) H2)
 else (
 AS.asAddr (.pointer x0) fun i4 i5 =>
 ∃ a6 i7, H2.cell i4 i5 = some (.slice a6 i7 0) ∧
 inB (IntKind.i64.wrap (x1 - 1)) i7 ∧
 asRow a6 fun i8 i9 =>
 ∃ a10 i11, H2.cell i8 ((i9 + ((IntKind.i64.wrap (x1 - 1)).toNat * 2)) + 1) = some (.slice a10 i11 0) ∧
 inB x2 i11 ∧
 asRow a10 fun i12 i13 =>
 ∃ n14, H2.cell i12 (i13 + (x2.toNat * 1)) = some (.int .u64 n14) ∧
 R (.tuple #[(.int .u64 n14), (.bool true)]) H2)) →
    CA en F.crossbarref08_Mem_Load [(.pointer x0), (.int .i64 x1), (.int .i64 x2)] H R := by
  intro h
  refine wpFn_ok (Z := []) (fn := Go.Proofs.Try.f69) ?_ ?_ ?_
  · kernel_rfl
  · kernel_rfl
  · apply turnInto h
    kernel_rfl


/-! crossbarref08_Mem_Store -/

theorem vc_crossbarref08_Mem_Store (x0 : Option Addr) (x1 : Int) (x2 : Int) (x3 : Int) (H : Heap) (R : Value → Heap → Prop) :
    (
 CA en F.crossbarref08_Mem_good [(.pointer x0), (.int .i64 x1), (.int .i64 x2)] H fun v1 H2 =>
 ∃ b3, v1 = (.bool b3) ∧
 bif (!b3) then (
 R (.bool false) H2)
 else (
 AS.asAddr (.pointer x0) fun i4 i5 =>
 ∃ a6 i7, H2.cell i4 i5 = some (.slice a6 i7 0) ∧
 inB (IntKind.i64.wrap (x1 - 1)) i7 ∧
 asRow a6 fun i8 i9 =>
 ∃ a10 i11, H2.cell i8 ((i9 + ((IntKind.i64.wrap (x1 - 1)).toNat * 2)) + 1) = some (.slice a10 i11 0) ∧
 inB x2 i11 ∧
 asRow a10 fun i12 i13 =>
 stc H2 i12 (i13 + (x2.toNat * 1)) [(.int .u64 x3)] fun H14 =>
 R (.bool true) H14)) →
    CA en F.crossbarref08_Mem_Store [(.pointer x0), (.int .i64 x1), (.int .i64 x2), (.int .u64 x3)] H R := by
  intro h
  refine wpFn_ok (Z := []) (fn := Go.Proofs.Try.f70) ?_ ?_ ?_
  · kernel_rfl
  · kernel_rfl
  · apply turnInto h
    kernel_rfl


/-! crossbarref08_Mem_Mask -/

theorem vc_crossbarref08_Mem_Mask (x0 : Option Addr) (x1 : Int) (x2 : Int) (x3 : Int) (x4 : Int) (H : Heap) (R : Value → Heap → Prop) :
    (
 CA en F.crossbarref08_Mem_good [(.pointer x0), (.int .i64 x1), (.int .i64 x2)] H fun v1 H2 =>
 ∃ b3, v1 = (.bool b3) ∧
 bif (!b3) then (
 R (.bool false) H2)
 else (
 AS.asAddr (.pointer x0) fun i4 i5 =>
 ∃ a6 i7, (H2.bump 27).cell i4 i5 = some (.slice a6 i7 0) ∧
 inB (IntKind.i64.wrap (x1 - 1)) i7 ∧
 asRow a6 fun i8 i9 =>
 ∃ a10 i11, (H2.bump 27).cell i8 ((i9 + ((IntKind.i64.wrap (x1 - 1)).toNat * 2)) + 1) = some (.slice a10 i11 0) ∧
 AS.asAddr (.pointer x0) fun i12 i13 =>
 ∃ a14 i15, (H2.bump 27).cell i12 i13 = some (.slice a14 i15 0) ∧
 inB (IntKind.i64.wrap (x1 - 1)) i15 ∧
 asRow a14 fun i16 i17 =>
 ∃ a18 i19, (H2.bump 27).cell i16 ((i17 + ((IntKind.i64.wrap (x1 - 1)).toNat * 2)) + 1) = some (.slice a18 i19 0) ∧
 inB x2 i19 ∧
 asRow a18 fun i20 i21 =>
 ∃ n22, (H2.bump 27).cell i20 (i21 + (x2.toNat * 1)) = some (.int .u64 n22) ∧
 CA en F.crossbarref08_under [(.int .u64 n22), (.int .u64 x3), (.int .u64 x4)] (H2.bump 27) fun v23 H24 =>
 ∃ n25, v23 = (.int .u64 n25) ∧
 inB x2 i11 ∧
 asRow a10 fun i26 i27 =>
 stc H24 i26 (i27 + (x2.toNat * 1)) [(.int .u64 n25)] fun H28 =>
 (
 R (.bool true) H28) ∧
 ((∃ a31 i32, (H2.bump 27).cell i8 ((i9 + ((IntKind.i64.wrap (x1 - 1)).toNat * 2)) + 1) = some (.slice a31 i32 0) ∧
 (a10 = a31 ∧ i11 = i32 ∧ 0 = 0)) ∧ (∃ a29 i30, H24.cell i8 ((i9 + ((IntKind.i64.wrap (x1 - 1)).toNat * 2)) + 1) = some (.slice a29 i30 0) ∧
 (a10 = a29 ∧ i11 = i30 ∧ 0 = 0)) ∧ True) ∧
 (((IntKind.i64.wrap (x1 - 1)) = (IntKind.i64.wrap (x1 - 1))) ∧ ((IntKind.i64.wrap (x1 - 1)) = (IntKind.i64.wrap (x1 - 1))) ∧ True) ∧
 ((∃ a35 i36, (H2.bump 27).cell i4 i5 = some (.slice a35 i36 0) ∧
 (a6 = a35 ∧ i7 = i36 ∧ 0 = 0)) ∧ (∃ a33 i34, H24.cell i4 i5 = some (.slice a33 i34 0) ∧
 (a6 = a33 ∧ i7 = i34 ∧ 0 = 0)) ∧ True) ∧
 True)) →
    CA en F.crossbarref08_Mem_Mask [(.pointer x0), (.int .i64 x1), (.int .i64 x2), (.int .u64 x3), (.int .u64 x4)] H R := by
  intro h
  refine wpFn_ok (Z := []) (fn := Go.Proofs.Try.f71) ?_ ?_ ?_
  · kernel_rfl
  · kernel_rfl
  · apply turnInto h
    kernel_rfl


/-! crossbarref08_Mem_Fetch -/

/-! crossbarref08_Mem_Swap -/

theorem vc_crossbarref08_Mem_Swap (x0 : Option Addr) (x1 : Int) (x2 : Int) (x3 : Int) (x4 : Int) (H : Heap) (R : Value → Heap → Prop) :
    (
 CA en F.crossbarref08_Mem_good [(.pointer x0), (.int .i64 x1), (.int .i64 x2)] H fun v1 H2 =>
 ∃ b3, v1 = (.bool b3) ∧
 bif (!b3) then (
 R (.tuple #[(.int .u64 0), (.bool false)]) H2)
 else (
 AS.asAddr (.pointer x0) fun i4 i5 =>
 ∃ a6 i7, H2.cell i4 i5 = some (.slice a6 i7 0) ∧
 inB (IntKind.i64.wrap (x1 - 1)) i7 ∧
 asRow a6 fun i8 i9 =>
 ∃ a10 i11, H2.cell i8 ((i9 + ((IntKind.i64.wrap (x1 - 1)).toNat * 2)) + 1) = some (.slice a10 i11 0) ∧
 inB x2 i11 ∧
 asRow a10 fun i12 i13 =>
 ∃ n14, H2.cell i12 (i13 + (x2.toNat * 1)) = some (.int .u64 n14) ∧
 AS.asAddr (.pointer x0) fun i15 i16 =>
 ∃ a17 i18, (H2.bump 16).cell i15 i16 = some (.slice a17 i18 0) ∧
 inB (IntKind.i64.wrap (x1 - 1)) i18 ∧
 asRow a17 fun i19 i20 =>
 ∃ a21 i22, (H2.bump 16).cell i19 ((i20 + ((IntKind.i64.wrap (x1 - 1)).toNat * 2)) + 1) = some (.slice a21 i22 0) ∧
 CA en F.crossbarref08_under [(.int .u64 n14), (.int .u64 x3), (.int .u64 x4)] (H2.bump 16) fun v23 H24 =>
 ∃ n25, v23 = (.int .u64 n25) ∧
 inB x2 i22 ∧
 asRow a21 fun i26 i27 =>
 stc H24 i26 (i27 + (x2.toNat * 1)) [(.int .u64 n25)] fun H28 =>
 (
 R (.tuple #[(.int .u64 n14), (.bool true)]) H28) ∧
 ((∃ a31 i32, (H2.bump 16).cell i19 ((i20 + ((IntKind.i64.wrap (x1 - 1)).toNat * 2)) + 1) = some (.slice a31 i32 0) ∧
 (a21 = a31 ∧ i22 = i32 ∧ 0 = 0)) ∧ (∃ a29 i30, H24.cell i19 ((i20 + ((IntKind.i64.wrap (x1 - 1)).toNat * 2)) + 1) = some (.slice a29 i30 0) ∧
 (a21 = a29 ∧ i22 = i30 ∧ 0 = 0)) ∧ True) ∧
 (((IntKind.i64.wrap (x1 - 1)) = (IntKind.i64.wrap (x1 - 1))) ∧ ((IntKind.i64.wrap (x1 - 1)) = (IntKind.i64.wrap (x1 - 1))) ∧ True) ∧
 ((∃ a35 i36, (H2.bump 16).cell i15 i16 = some (.slice a35 i36 0) ∧
 (a17 = a35 ∧ i18 = i36 ∧ 0 = 0)) ∧ (∃ a33 i34, H24.cell i15 i16 = some (.slice a33 i34 0) ∧
 (a17 = a33 ∧ i18 = i34 ∧ 0 = 0)) ∧ True) ∧
 True)) →
    CA en F.crossbarref08_Mem_Swap [(.pointer x0), (.int .i64 x1), (.int .i64 x2), (.int .u64 x3), (.int .u64 x4)] H R := by
  intro h
  refine wpFn_ok (Z := []) (fn := Go.Proofs.Try.f73) ?_ ?_ ?_
  · kernel_rfl
  · kernel_rfl
  · apply turnInto h
    kernel_rfl


/-! crossbarref08_Mem_Cas -/

theorem vc_crossbarref08_Mem_Cas (x0 : Option Addr) (x1 : Int) (x2 : Int) (x3 : Int) (x4 : Int) (x5 : Int) (H : Heap) (R : Value → Heap → Prop) :
    (
 CA en F.crossbarref08_Mem_good [(.pointer x0), (.int .i64 x1), (.int .i64 x2)] H fun v1 H2 =>
 ∃ b3, v1 = (.bool b3) ∧
 bif (!b3) then (
 R (.tuple #[(.int .u64 0), (.bool false)]) H2)
 else (
 AS.asAddr (.pointer x0) fun i4 i5 =>
 ∃ a6 i7, H2.cell i4 i5 = some (.slice a6 i7 0) ∧
 inB (IntKind.i64.wrap (x1 - 1)) i7 ∧
 asRow a6 fun i8 i9 =>
 ∃ a10 i11, H2.cell i8 ((i9 + ((IntKind.i64.wrap (x1 - 1)).toNat * 2)) + 1) = some (.slice a10 i11 0) ∧
 inB x2 i11 ∧
 asRow a10 fun i12 i13 =>
 ∃ n14, H2.cell i12 (i13 + (x2.toNat * 1)) = some (.int .u64 n14) ∧
 CA en F.crossbarref08_under [(.int .u64 0), (.int .u64 x3), (.int .u64 n14)] H2 fun v15 H16 =>
 ∃ n17, v15 = (.int .u64 n17) ∧
 CA en F.crossbarref08_under [(.int .u64 0), (.int .u64 x3), (.int .u64 x4)] H16 fun v18 H19 =>
 ∃ n20, v18 = (.int .u64 n20) ∧
 bif (n17 == n20) then (
 AS.asAddr (.pointer x0) fun i21 i22 =>
 ∃ a23 i24, (H19.bump 16).cell i21 i22 = some (.slice a23 i24 0) ∧
 inB (IntKind.i64.wrap (x1 - 1)) i24 ∧
 asRow a23 fun i25 i26 =>
 ∃ a27 i28, (H19.bump 16).cell i25 ((i26 + ((IntKind.i64.wrap (x1 - 1)).toNat * 2)) + 1) = some (.slice a27 i28 0) ∧
 CA en F.crossbarref08_under [(.int .u64 n14), (.int .u64 x3), (.int .u64 x5)] (H19.bump 16) fun v29 H30 =>
 ∃ n31, v29 = (.int .u64 n31) ∧
 inB x2 i28 ∧
 asRow a27 fun i32 i33 =>
 stc H30 i32 (i33 + (x2.toNat * 1)) [(.int .u64 n31)] fun H34 =>
 (
 R (.tuple #[(.int .u64 n14), (.bool true)]) H34) ∧
 ((∃ a37 i38, (H19.bump 16).cell i25 ((i26 + ((IntKind.i64.wrap (x1 - 1)).toNat * 2)) + 1) = some (.slice a37 i38 0) ∧
 (a27 = a37 ∧ i28 = i38 ∧ 0 = 0)) ∧ (∃ a35 i36, H30.cell i25 ((i26 + ((IntKind.i64.wrap (x1 - 1)).toNat * 2)) + 1) = some (.slice a35 i36 0) ∧
 (a27 = a35 ∧ i28 = i36 ∧ 0 = 0)) ∧ True) ∧
 (((IntKind.i64.wrap (x1 - 1)) = (IntKind.i64.wrap (x1 - 1))) ∧ ((IntKind.i64.wrap (x1 - 1)) = (IntKind.i64.wrap (x1 - 1))) ∧ True) ∧
 ((∃ a41 i42, (H19.bump 16).cell i21 i22 = some (.slice a41 i42 0) ∧
 (a23 = a41 ∧ i24 = i42 ∧ 0 = 0)) ∧ (∃ a39 i40, H30.cell i21 i22 = some (.slice a39 i40 0) ∧
 (a23 = a39 ∧ i24 = i40 ∧ 0 = 0)) ∧ True) ∧
 True)
 else (
 R (.tuple #[(.int .u64 n14), (.bool true)]) H19))) →
    CA en F.crossbarref08_Mem_Cas [(.pointer x0), (.int .i64 x1), (.int .i64 x2), (.int .u64 x3), (.int .u64 x4), (.int .u64 x5)] H R := by
  intro h
  refine wpFn_ok (Z := []) (fn := Go.Proofs.Try.f74) ?_ ?_ ?_
  · kernel_rfl
  · kernel_rfl
  · apply turnInto h
    kernel_rfl


/-! crossbarref08_Mem_live -/

theorem vc_crossbarref08_Mem_live (x0 : Option Addr) (x1 : Int) (H : Heap) (R : Value → Heap → Prop) :
    (
 bif (decide (x1 ≥ 1)) then (
 AS.asAddr (.pointer x0) fun i1 i2 =>
 ∃ a3 i4, H.cell i1 i2 = some (.slice a3 i4 0) ∧
 bif (decide (x1 ≤ ((i4 : Nat) : Int))) then (
 AS.asAddr (.pointer x0) fun i5 i6 =>
 ∃ a7 i8, H.cell i5 i6 = some (.slice a7 i8 0) ∧
 inB (IntKind.i64.wrap (x1 - 1)) i8 ∧
 asRow a7 fun i9 i10 =>
 ∃ b11, H.cell i9 (i10 + ((IntKind.i64.wrap (x1 - 1)).toNat * 2)) = some (.bool b11) ∧
 R (.bool b11) H)
 else (
 R (.bool false) H))
 else (
 R (.bool false) H)) →
    CA en F.crossbarref08_Mem_live [(.pointer x0), (.int .i64 x1)] H R := by
  intro h
  refine wpFn_ok (Z := []) (fn := Go.Proofs.Try.f75) ?_ ?_ ?_
  · kernel_rfl
  · kernel_rfl
  · apply turnInto h
    kernel_rfl


/-! crossbarref08_Mem_good -/

theorem vc_crossbarref08_Mem_good (x0 : Option Addr) (x1 : Int) (x2 : Int) (H : Heap) (R : Value → Heap → Prop) :
    (
 AS.asAddr (.pointer x0) fun i1 i2 =>
 ∃ n3, H.cell i1 (i2 + 2) = some (.int .i64 n3) ∧
 AS.asAddr (.pointer x0) fun i4 i5 =>
 stc H i4 (i5 + 2) [(.int .i64 (IntKind.i64.wrap (n3 + 1)))] fun H6 =>
 CA en F.crossbarref08_Mem_live [(.pointer x0), (.int .i64 x1)] H6 fun v7 H8 =>
 ∃ b9, v7 = (.bool b9) ∧
 bif b9 then (
 bif (decide (x2 ≥ 0)) then (
 AS.asAddr (.pointer x0) fun i10 i11 =>
 ∃ a12 i13, H8.cell i10 i11 = some (.slice a12 i13 0) ∧
 inB (IntKind.i64.wrap (x1 - 1)) i13 ∧
 asRow a12 fun i14 i15 =>
 ∃ a16 i17, H8.cell i14 ((i15 + ((IntKind.i64.wrap (x1 - 1)).toNat * 2)) + 1) = some (.slice a16 i17 0) ∧
 bif (decide (x2 < ((i17 : Nat) : Int))) then (
 R (.bool true) H8)
 else (
 AS.asAddr (.pointer x0) fun i18 i19 =>
 ∃ n20, H8.cell i18 (i19 + 3) = some (.int .i64 n20) ∧
 AS.asAddr (.pointer x0) fun i21 i22 =>
 stc H8 i21 (i22 + 3) [(.int .i64 (IntKind.i64.wrap (n20 + 1)))] fun H23 =>
 R (.bool false) H23))
 else (
 AS.asAddr (.pointer x0) fun i24 i25 =>
 ∃ n26, H8.cell i24 (i25 + 3) = some (.int .i64 n26) ∧
 AS.asAddr (.pointer x0) fun i27 i28 =>
 stc H8 i27 (i28 + 3) [(.int .i64 (IntKind.i64.wrap (n26 + 1)))] fun H29 =>
 R (.bool false) H29))
 else (
 AS.asAddr (.pointer x0) fun i30 i31 =>
 ∃ n32, H8.cell i30 (i31 + 3) = some (.int .i64 n32) ∧
 AS.asAddr (.pointer x0) fun i33 i34 =>
 stc H8 i33 (i34 + 3) [(.int .i64 (IntKind.i64.wrap (n32 + 1)))] fun H35 =>
 R (.bool false) H35)) →
    CA en F.crossbarref08_Mem_good [(.pointer x0), (.int .i64 x1), (.int .i64 x2)] H R := by
  intro h
  refine wpFn_ok (Z := []) (fn := Go.Proofs.Try.f82) ?_ ?_ ?_
  · kernel_rfl
  · kernel_rfl
  · apply turnInto h
    kernel_rfl


/-! crossbarref08_under -/
noncomputable def L_crossbarref08_under_0 : Code := loopAt Go.Proofs.Try.f83 0

theorem vc_crossbarref08_under (x0 : Int) (x1 : Int) (x2 : Int) (H : Heap) (R : Value → Heap → Prop) :
    (
 LA en L_crossbarref08_under_0 [(.int .u64 x0), (.int .u64 x1), (.int .u64 x2), undef, undef, undef, (.int .u64 0), (.int .u64 0), (.int .i64 0), undef, undef, undef, undef, undef, undef, undef, undef, undef, undef, undef, undef, undef, undef, undef, undef, undef, undef, undef, undef, undef, undef, undef, undef, undef, undef, undef, undef] H [(X.exit 0, fun (x1 : Fr) (H2 : Heap) =>
 AS.asInt .u64 (x1.getD 7 undef) fun n3 =>
 R (.int .u64 n3) H2)]) →
    CA en F.crossbarref08_under [(.int .u64 x0), (.int .u64 x1), (.int .u64 x2)] H R := by
  intro h
  refine wpFn_ok (Z := [[(7, (.int .u64 0))]]) (fn := Go.Proofs.Try.f83) ?_ ?_ ?_
  · kernel_rfl
  · kernel_rfl
  · apply turnInto h
    kernel_rfl

/-! crossbarlaw08_does -/

theorem vc_crossbarlaw08_does (x0 : Option Addr) (x1_0 : Int) (x1_1 : Int) (x1_2 : Int) (x1_3 : Int) (x1_4 : Int) (x1_5 : Int) (x1_6 : Int) (H : Heap) (R : Value → Heap → Prop) :
    (
 nwH H (.cells true 0 [(.int .i64 x1_0), (.int .i64 x1_1), (.int .i64 x1_2), (.int .i64 x1_3), (.int .u64 x1_4), (.int .u64 x1_5), (.int .u64 x1_6)]) fun i1 H2 =>
 nwH H2 (.cells true 0 [(.int .u64 0), (.bool false), (.int .i64 0), (.int .i64 0)]) fun i3 H4 =>
 nwH H4 (.cells true 0 [(.int .u64 0), (.bool false), (.int .i64 0), (.int .i64 0)]) fun i5 H6 =>
 ∃ n7, H6.cell i1 0 = some (.int .i64 n7) ∧
 CA en F.crossbarkit_Pick [(.int .i64 n7), (.int .i64 8)] H6 fun v8 H9 =>
 ∃ n10, v8 = (.int .i64 n10) ∧
 bif (n10 == 0) then (
 ∃ n11, H9.cell i1 2 = some (.int .i64 n11) ∧
 CA en F.smem_Mem_Make [(.pointer x0), (.int .i64 n11)] H9 fun v12 H13 =>
 ∃ n14, ∃ n15, v12 = (.tuple #[(.int .i64 n14), (.int .i64 n15)]) ∧
 stc H13 i5 2 [(.int .i64 n14)] fun H16 =>
 stc H16 i5 3 [(.int .i64 n15)] fun H17 =>
 ∃ n18, ∃ b19, ∃ n20, ∃ n21, H17.cellsAt i5 0 4 = some [(.int .u64 n18), (.bool b19), (.int .i64 n20), (.int .i64 n21)] ∧
 stc H17 i3 0 [(.int .u64 n18), (.bool b19), (.int .i64 n20), (.int .i64 n21)] fun H22 =>
 ∃ n23, ∃ b24, ∃ n25, ∃ n26, H22.cellsAt i3 0 4 = some [(.int .u64 n23), (.bool b24), (.int .i64 n25), (.int .i64 n26)] ∧
 R (.agg #[(.int .u64 n23), (.bool b24), (.int .i64 n25), (.int .i64 n26)]) H22)
 else (
 bif (n10 == 1) then (
 ∃ n27, H9.cell i1 1 = some (.int .i64 n27) ∧
 CA en F.smem_Mem_Free [(.pointer x0), (.int .i64 n27)] H9 fun v28 H29 =>
 ∃ b30, v28 = (.bool b30) ∧
 stc H29 i5 1 [(.bool b30)] fun H31 =>
 ∃ n32, ∃ b33, ∃ n34, ∃ n35, H31.cellsAt i5 0 4 = some [(.int .u64 n32), (.bool b33), (.int .i64 n34), (.int .i64 n35)] ∧
 stc H31 i3 0 [(.int .u64 n32), (.bool b33), (.int .i64 n34), (.int .i64 n35)] fun H36 =>
 ∃ n37, ∃ b38, ∃ n39, ∃ n40, H36.cellsAt i3 0 4 = some [(.int .u64 n37), (.bool b38), (.int .i64 n39), (.int .i64 n40)] ∧
 R (.agg #[(.int .u64 n37), (.bool b38), (.int .i64 n39), (.int .i64 n40)]) H36)
 else (
 bif (n10 == 2) then (
 ∃ n41, H9.cell i1 1 = some (.int .i64 n41) ∧
 ∃ n42, H9.cell i1 2 = some (.int .i64 n42) ∧
 CA en F.smem_Mem_Load [(.pointer x0), (.int .i64 n41), (.int .i64 n42)] H9 fun v43 H44 =>
 ∃ n45, ∃ b46, v43 = (.tuple #[(.int .u64 n45), (.bool b46)]) ∧
 stc H44 i5 0 [(.int .u64 n45)] fun H47 =>
 stc H47 i5 1 [(.bool b46)] fun H48 =>
 ∃ n49, ∃ b50, ∃ n51, ∃ n52, H48.cellsAt i5 0 4 = some [(.int .u64 n49), (.bool b50), (.int .i64 n51), (.int .i64 n52)] ∧
 stc H48 i3 0 [(.int .u64 n49), (.bool b50), (.int .i64 n51), (.int .i64 n52)] fun H53 =>
 ∃ n54, ∃ b55, ∃ n56, ∃ n57, H53.cellsAt i3 0 4 = some [(.int .u64 n54), (.bool b55), (.int .i64 n56), (.int .i64 n57)] ∧
 R (.agg #[(.int .u64 n54), (.bool b55), (.int .i64 n56), (.int .i64 n57)]) H53)
 else (
 bif (n10 == 3) then (
 ∃ n58, H9.cell i1 1 = some (.int .i64 n58) ∧
 ∃ n59, H9.cell i1 2 = some (.int .i64 n59) ∧
 ∃ n60, H9.cell i1 6 = some (.int .u64 n60) ∧
 CA en F.smem_Mem_Store [(.pointer x0), (.int .i64 n58), (.int .i64 n59), (.int .u64 n60)] H9 fun v61 H62 =>
 ∃ b63, v61 = (.bool b63) ∧
 stc H62 i5 1 [(.bool b63)] fun H64 =>
 ∃ n65, ∃ b66, ∃ n67, ∃ n68, H64.cellsAt i5 0 4 = some [(.int .u64 n65), (.bool b66), (.int .i64 n67), (.int .i64 n68)] ∧
 stc H64 i3 0 [(.int .u64 n65), (.bool b66), (.int .i64 n67), (.int .i64 n68)] fun H69 =>
 ∃ n70, ∃ b71, ∃ n72, ∃ n73, H69.cellsAt i3 0 4 = some [(.int .u64 n70), (.bool b71), (.int .i64 n72), (.int .i64 n73)] ∧
 R (.agg #[(.int .u64 n70), (.bool b71), (.int .i64 n72), (.int .i64 n73)]) H69)
 else (
 bif (n10 == 4) then (
 ∃ n74, H9.cell i1 1 = some (.int .i64 n74) ∧
 ∃ n75, H9.cell i1 2 = some (.int .i64 n75) ∧
 ∃ n76, H9.cell i1 4 = some (.int .u64 n76) ∧
 ∃ n77, H9.cell i1 6 = some (.int .u64 n77) ∧
 CA en F.smem_Mem_Mask [(.pointer x0), (.int .i64 n74), (.int .i64 n75), (.int .u64 n76), (.int .u64 n77)] H9 fun v78 H79 =>
 ∃ b80, v78 = (.bool b80) ∧
 stc H79 i5 1 [(.bool b80)] fun H81 =>
 ∃ n82, ∃ b83, ∃ n84, ∃ n85, H81.cellsAt i5 0 4 = some [(.int .u64 n82), (.bool b83), (.int .i64 n84), (.int .i64 n85)] ∧
 stc H81 i3 0 [(.int .u64 n82), (.bool b83), (.int .i64 n84), (.int .i64 n85)] fun H86 =>
 ∃ n87, ∃ b88, ∃ n89, ∃ n90, H86.cellsAt i3 0 4 = some [(.int .u64 n87), (.bool b88), (.int .i64 n89), (.int .i64 n90)] ∧
 R (.agg #[(.int .u64 n87), (.bool b88), (.int .i64 n89), (.int .i64 n90)]) H86)
 else (
 bif (n10 == 5) then (
 ∃ n91, H9.cell i1 1 = some (.int .i64 n91) ∧
 ∃ n92, H9.cell i1 2 = some (.int .i64 n92) ∧
 ∃ n93, H9.cell i1 3 = some (.int .i64 n93) ∧
 ∃ n94, H9.cell i1 4 = some (.int .u64 n94) ∧
 ∃ n95, H9.cell i1 6 = some (.int .u64 n95) ∧
 CA en F.smem_Mem_Fetch [(.pointer x0), (.int .i64 n91), (.int .i64 n92), (.int .i64 n93), (.int .u64 n94), (.int .u64 n95)] H9 fun v96 H97 =>
 ∃ n98, ∃ b99, v96 = (.tuple #[(.int .u64 n98), (.bool b99)]) ∧
 stc H97 i5 0 [(.int .u64 n98)] fun H100 =>
 stc H100 i5 1 [(.bool b99)] fun H101 =>
 ∃ n102, ∃ b103, ∃ n104, ∃ n105, H101.cellsAt i5 0 4 = some [(.int .u64 n102), (.bool b103), (.int .i64 n104), (.int .i64 n105)] ∧
 stc H101 i3 0 [(.int .u64 n102), (.bool b103), (.int .i64 n104), (.int .i64 n105)] fun H106 =>
 ∃ n107, ∃ b108, ∃ n109, ∃ n110, H106.cellsAt i3 0 4 = some [(.int .u64 n107), (.bool b108), (.int .i64 n109), (.int .i64 n110)] ∧
 R (.agg #[(.int .u64 n107), (.bool b108), (.int .i64 n109), (.int .i64 n110)]) H106)
 else (
 bif (n10 == 6) then (
 ∃ n111, H9.cell i1 1 = some (.int .i64 n111) ∧
 ∃ n112, H9.cell i1 2 = some (.int .i64 n112) ∧
 ∃ n113, H9.cell i1 4 = some (.int .u64 n113) ∧
 ∃ n114, H9.cell i1 6 = some (.int .u64 n114) ∧
 CA en F.smem_Mem_Swap [(.pointer x0), (.int .i64 n111), (.int .i64 n112), (.int .u64 n113), (.int .u64 n114)] H9 fun v115 H116 =>
 ∃ n117, ∃ b118, v115 = (.tuple #[(.int .u64 n117), (.bool b118)]) ∧
 stc H116 i5 0 [(.int .u64 n117)] fun H119 =>
 stc H119 i5 1 [(.bool b118)] fun H120 =>
 ∃ n121, ∃ b122, ∃ n123, ∃ n124, H120.cellsAt i5 0 4 = some [(.int .u64 n121), (.bool b122), (.int .i64 n123), (.int .i64 n124)] ∧
 stc H120 i3 0 [(.int .u64 n121), (.bool b122), (.int .i64 n123), (.int .i64 n124)] fun H125 =>
 ∃ n126, ∃ b127, ∃ n128, ∃ n129, H125.cellsAt i3 0 4 = some [(.int .u64 n126), (.bool b127), (.int .i64 n128), (.int .i64 n129)] ∧
 R (.agg #[(.int .u64 n126), (.bool b127), (.int .i64 n128), (.int .i64 n129)]) H125)
 else (
 bif (n10 == 7) then (
 ∃ n130, H9.cell i1 1 = some (.int .i64 n130) ∧
 ∃ n131, H9.cell i1 2 = some (.int .i64 n131) ∧
 ∃ n132, H9.cell i1 4 = some (.int .u64 n132) ∧
 ∃ n133, H9.cell i1 5 = some (.int .u64 n133) ∧
 ∃ n134, H9.cell i1 6 = some (.int .u64 n134) ∧
 CA en F.smem_Mem_Cas [(.pointer x0), (.int .i64 n130), (.int .i64 n131), (.int .u64 n132), (.int .u64 n133), (.int .u64 n134)] H9 fun v135 H136 =>
 ∃ n137, ∃ b138, v135 = (.tuple #[(.int .u64 n137), (.bool b138)]) ∧
 stc H136 i5 0 [(.int .u64 n137)] fun H139 =>
 stc H139 i5 1 [(.bool b138)] fun H140 =>
 ∃ n141, ∃ b142, ∃ n143, ∃ n144, H140.cellsAt i5 0 4 = some [(.int .u64 n141), (.bool b142), (.int .i64 n143), (.int .i64 n144)] ∧
 stc H140 i3 0 [(.int .u64 n141), (.bool b142), (.int .i64 n143), (.int .i64 n144)] fun H145 =>
 ∃ n146, ∃ b147, ∃ n148, ∃ n149, H145.cellsAt i3 0 4 = some [(.int .u64 n146), (.bool b147), (.int .i64 n148), (.int .i64 n149)] ∧
 R (.agg #[(.int .u64 n146), (.bool b147), (.int .i64 n148), (.int .i64 n149)]) H145)
 else (
 ∃ n150, ∃ b151, ∃ n152, ∃ n153, H9.cellsAt i5 0 4 = some [(.int .u64 n150), (.bool b151), (.int .i64 n152), (.int .i64 n153)] ∧
 stc H9 i3 0 [(.int .u64 n150), (.bool b151), (.int .i64 n152), (.int .i64 n153)] fun H154 =>
 ∃ n155, ∃ b156, ∃ n157, ∃ n158, H154.cellsAt i3 0 4 = some [(.int .u64 n155), (.bool b156), (.int .i64 n157), (.int .i64 n158)] ∧
 R (.agg #[(.int .u64 n155), (.bool b156), (.int .i64 n157), (.int .i64 n158)]) H154))))))))) →
    CA en F.crossbarlaw08_does [(.pointer x0), (.agg #[(.int .i64 x1_0), (.int .i64 x1_1), (.int .i64 x1_2), (.int .i64 x1_3), (.int .u64 x1_4), (.int .u64 x1_5), (.int .u64 x1_6)])] H R := by
  intro h
  refine wpFn_ok (Z := []) (fn := Go.Proofs.Try.f40) ?_ ?_ ?_
  · kernel_rfl
  · kernel_rfl
  · apply turnInto h
    kernel_rfl


/-! crossbarlaw08_words -/
noncomputable def L_crossbarlaw08_words_0 : Code := loopAt Go.Proofs.Try.f41 0
noncomputable def L_crossbarlaw08_words_1 : Code := loopAt Go.Proofs.Try.f41 1

theorem vc_crossbarlaw08_words (x0 : Option Addr) (x1 : Int) (H : Heap) (R : Value → Heap → Prop) :
    (
 LA en L_crossbarlaw08_words_0 [(.pointer x0), (.int .i64 x1), undef, undef, (.slice none 0 0), (.slice none 0 0), (.int .i64 1), undef, undef, undef, undef, undef, undef, undef, undef, undef, undef, undef, undef, undef, undef, undef, undef, undef, undef, undef, undef, undef, undef, undef, undef, undef, undef, undef, undef, undef, undef, undef, undef, undef, undef, undef, undef] H [(X.exit 0, fun (x1 : Fr) (H2 : Heap) =>
 asSl (x1.getD 5 undef) fun a3 i4 =>
 R (.slice a3 i4 0) H2)]) →
    CA en F.crossbarlaw08_words [(.pointer x0), (.int .i64 x1)] H R := by
  intro h
  refine wpFn_ok (Z := [[(5, (.slice none 0 0))], [(7, (.slice none 0 0))]]) (fn := Go.Proofs.Try.f41) ?_ ?_ ?_
  · kernel_rfl
  · kernel_rfl
  · apply turnInto h
    kernel_rfl

/-! crossbarkit_SameWords -/
noncomputable def L_crossbarkit_SameWords_0 : Code := loopAt Go.Proofs.Try.f42 0

theorem vc_crossbarkit_SameWords (x0 : Option Addr) (x0l : Nat) (x1 : Option Addr) (x1l : Nat) (H : Heap) (R : Value → Heap → Prop) :
    (
 bif (((x0l : Nat) : Int) != ((x1l : Nat) : Int)) then (
 R (.bool false) H)
 else (
 LA en L_crossbarkit_SameWords_0 [(.slice x0 x0l 0), (.slice x1 x1l 0), undef, undef, (.bool false), (.int .i64 0), (.slice x0 x0l 0), (.int .i64 ((x0l : Nat) : Int)), (.slice x1 x1l 0), (.int .i64 ((x1l : Nat) : Int)), (.bool false), undef, undef, undef, undef, undef, undef, undef, undef, undef, undef, undef, undef, undef, undef, undef] H [(X.exit 0, fun (x1 : Fr) (H2 : Heap) =>
 AS.asBool (x1.getD 4 undef) fun b3 =>
 R (.bool true) H2),
 (X.ret, fun (x4 : Fr) (H5 : Heap) =>
 AS.asBool (x4.getD 4 undef) fun b6 =>
 R (.bool b6) H5)])) →
    CA en F.crossbarkit_SameWords [(.slice x0 x0l 0), (.slice x1 x1l 0)] H R := by
  intro h
  refine wpFn_ok (Z := [[(4, (.bool false))]]) (fn := Go.Proofs.Try.f42) ?_ ?_ ?_
  · kernel_rfl
  · kernel_rfl
  · apply turnInto h
    kernel_rfl

/-! crossbarlaw08_SmemPlays -/
noncomputable def L_crossbarlaw08_SmemPlays_0 : Code := loopAt Go.Proofs.Try.f10 0

theorem vc_crossbarlaw08_SmemPlays (x0 : Int) (x1 : Option Addr) (x1l : Nat) (H : Heap) (R : Value → Heap → Prop) :
    (
 CA en F.smem_New [(.int .i64 x0)] H fun v1 H2 =>
 ∃ a3, v1 = (.pointer a3) ∧
 bif a3.isNone then (
 bif (!a3.isNone) then (
 CA en F.crossbarlaw08_known [] H2 fun v4 H5 =>
 ∃ b6, v4 = (.bool b6) ∧
 R (.bool b6) H5)
 else (
 R (.bool false) H2))
 else (
 bif (decide (((x1l : Nat) : Int) > 300)) then (
 bif (!a3.isNone) then (
 CA en F.crossbarlaw08_known [] H2 fun v7 H8 =>
 ∃ b9, v7 = (.bool b9) ∧
 R (.bool b9) H8)
 else (
 R (.bool false) H2))
 else (
 CA en F.crossbarref08_New [(.int .i64 x0)] H2 fun v10 H11 =>
 ∃ a12, v10 = (.pointer a12) ∧
 LA en L_crossbarlaw08_SmemPlays_0 [(.int .i64 x0), (.slice x1 x1l 0), undef, undef, (.bool false), (.pointer a3), (.pointer a12), (.int .i64 0), (.int .i64 x0), (.pointer a3), (.pointer a3), (.bool a3.isNone), (.bool false), (.slice x1 x1l 0), (.int .i64 ((x1l : Nat) : Int)), (.bool (decide (((x1l : Nat) : Int) > 300))), (.bool false), undef, undef, undef, undef, undef, (.int .i64 x0), (.pointer a12), undef, undef, undef, undef, undef, undef, undef, undef, undef, undef, undef, undef, undef, undef, undef, undef, undef, undef, undef, undef, undef, undef, undef, undef, undef, undef, undef, undef, undef, undef, undef, undef, undef, undef, undef, undef, undef, undef, undef, undef, undef, undef, undef, undef, undef, undef, undef, undef, undef, undef, undef, undef, undef, undef, undef, undef, undef, undef, undef, undef, undef, undef, undef, undef, undef] H11 [(X.exit 0, fun (x13 : Fr) (H14 : Heap) =>
 AS.asBool (x13.getD 4 undef) fun b15 =>
 CA en F.crossbarlaw08_known [] H14 fun v16 H17 =>
 ∃ b18, v16 = (.bool b18) ∧
 R (.bool b18) H17),
 (X.ret, fun (x19 : Fr) (H20 : Heap) =>
 AS.asBool (x19.getD 4 undef) fun b21 =>
 R (.bool b21) H20)]))) →
    CA en F.crossbarlaw08_SmemPlays [(.int .i64 x0), (.slice x1 x1l 0)] H R := by
  intro h
  refine wpFn_ok (Z := [[(4, (.bool false))]]) (fn := Go.Proofs.Try.f10) ?_ ?_ ?_
  · kernel_rfl
  · kernel_rfl
  · apply turnInto h
    kernel_rfl

/-! crossbarlaw08_SmemWhole -/
noncomputable def L_crossbarlaw08_SmemWhole_0 : Code := loopAt Go.Proofs.Try.f11 0
noncomputable def L_crossbarlaw08_SmemWhole_1 : Code := loopAt Go.Proofs.Try.f11 1

theorem vc_crossbarlaw08_SmemWhole (x0 : Int) (x1 : Option Addr) (x1l : Nat) (H : Heap) (R : Value → Heap → Prop) :
    (
 CA en F.smem_New [(.int .i64 x0)] H fun v1 H2 =>
 ∃ a3, v1 = (.pointer a3) ∧
 bif a3.isNone then (
 bif (!a3.isNone) then (
 CA en F.crossbarlaw08_known [] H2 fun v4 H5 =>
 ∃ b6, v4 = (.bool b6) ∧
 R (.bool b6) H5)
 else (
 R (.bool false) H2))
 else (
 bif (decide (((x1l : Nat) : Int) > 300)) then (
 bif (!a3.isNone) then (
 CA en F.crossbarlaw08_known [] H2 fun v7 H8 =>
 ∃ b9, v7 = (.bool b9) ∧
 R (.bool b9) H8)
 else (
 R (.bool false) H2))
 else (
 CA en F.crossbarkit_Cut [(.int .i64 x0), (.int .i64 0), (.int .i64 65536)] H2 fun v10 H11 =>
 ∃ n12, v10 = (.int .i64 n12) ∧
 LA en L_crossbarlaw08_SmemWhole_0 [(.int .i64 x0), (.slice x1 x1l 0), undef, undef, (.bool false), (.pointer a3), (.int .i64 0), (.int .i64 n12), (.int .i64 0), undef, undef, undef, undef, undef, undef, undef, undef, undef, (.int .i64 x0), (.pointer a3), (.pointer a3), (.bool a3.isNone), (.bool false), (.slice x1 x1l 0), (.int .i64 ((x1l : Nat) : Int)), (.bool (decide (((x1l : Nat) : Int) > 300))), (.bool false), undef, undef, undef, undef, undef, (.int .i64 x0), (.int .i64 n12), undef, undef, undef, undef, undef, undef, undef, undef, undef, undef, undef, undef, undef, undef, undef, undef, undef, undef, undef, undef, undef, undef, undef, undef, undef, undef, undef, undef, undef, undef, undef, undef, undef, undef, undef, undef, undef, undef, undef, undef, undef, undef, undef, undef, undef, undef, undef, undef, undef, undef, undef, undef, undef, undef, undef, undef, undef, undef, undef, undef, undef, undef, undef, undef, undef, undef, undef, undef, undef, undef, undef, undef, undef, undef, undef, undef, undef, undef, undef, undef, undef, undef, undef, undef, undef, undef, undef, undef] H11 [(X.exit 0, fun (x13 : Fr) (H14 : Heap) =>
 AS.asBool (x13.getD 4 undef) fun b15 =>
 CA en F.crossbarlaw08_known [] H14 fun v16 H17 =>
 ∃ b18, v16 = (.bool b18) ∧
 R (.bool b18) H17),
 (X.ret, fun (x19 : Fr) (H20 : Heap) =>
 AS.asBool (x19.getD 4 undef) fun b21 =>
 R (.bool b21) H20)]))) →
    CA en F.crossbarlaw08_SmemWhole [(.int .i64 x0), (.slice x1 x1l 0)] H R := by
  intro h
  refine wpFn_ok (Z := [[(4, (.bool false))], [(13, (.int .i64 0)), (14, (.int .i64 0))]]) (fn := Go.Proofs.Try.f11) ?_ ?_ ?_
  · kernel_rfl
  · kernel_rfl
  · apply turnInto h
    kernel_rfl

theorem use_crossbarlaw08_SmemWhole_0 {t0 : Int} {t1 : Option Addr} {t1l : Nat} {t5 : Option Addr} {t7 : Int} {t18 : Int} {t19 : Option Addr} {t20 : Option Addr} {t21 : Bool} {t23 : Option Addr} {t23l : Nat} {t24 : Int} {t25 : Bool} {t32 : Int} {t33 : Int} {K0 : Fr → Heap → Prop} {K1 : Fr → Heap → Prop} {t4 : Bool} {t6 : Int} {t8 : Int} {t9 : Value} {t10 : Value} {t11 : Value} {t12 : Value} {t13 : Value} {t14 : Value} {t15 : Value} {t16 : Value} {t17 : Value} {t34 : Value} {t35 : Value} {t36 : Value} {t37 : Value} {t38 : Value} {t39 : Value} {t40 : Value} {t41 : Value} {t42 : Value} {t43 : Value} {t44 : Value} {t45 : Value} {t46 : Value} {t47 : Value} {t48 : Value} {t49 : Value} {t50 : Value} {t51 : Value} {t52 : Value} {t53 : Value} {t54 : Value} {t55 : Value} {t56 : Value} {t57 : Value} {t58 : Value} {t59 : Value} {t60 : Value} {t61 : Value} {t62 : Value} {t63 : Value} {t64 : Value} {t65 : Value} {t66 : Value} {t67 : Value} {t68 : Value} {t69 : Value} {t70 : Value} {t71 : Value} {t72 : Value} {t73 : Value} {t74 : Value} {t75 : Value} {t76 : Value} {t77 : Value} {t78 : Value} {t79 : Value} {t80 : Value} {t81 : Value} {t82 : Value} {t83 : Value} {t84 : Value} {t85 : Value} {t86 : Value} {t87 : Value} {t88 : Value} {t89 : Value} {t90 : Value} {t91 : Value} {t92 : Value} {t93 : Value} {t94 : Value} {t95 : Value} {t96 : Value} {t97 : Value} {t98 : Value} {t99 : Value} {t100 : Value} {t101 : Value} {t102 : Value} {t103 : Value} {t104 : Value} {t105 : Value} {t106 : Value} {t107 : Value} {t108 : Value} {t109 : Value} {t110 : Value} {t111 : Value} {t112 : Value} {t113 : Value} {t114 : Value} {t115 : Value} {t116 : Value} {t117 : Value} {t118 : Value} {t119 : Value} {t120 : Value} {H : Heap} (I : Nat → Bool → Int → Int → Heap → Prop) (n : Nat) (h0 : I n t4 t6 t8 H)
    (hstep : ∀ (n : Nat) (t4 : Bool) (t6 : Int) (t8 : Int) (ys : Fr) (H : Heap), I n t4 t6 t8 H →
    (
 bif (decide (t8 < ((t1l : Nat) : Int))) then (
 CA en F.smem_Mem_Count [(.pointer t5)] H fun v1 H2 =>
 ∃ n3, v1 = (.int .i64 n3) ∧
 CA en F.smem_Mem_Bad [(.pointer t5)] H2 fun v4 H5 =>
 ∃ n6, v4 = (.int .i64 n6) ∧
 inB t8 t1l ∧
 asRow t1 fun i7 i8 =>
 ∃ n9, ∃ n10, ∃ n11, ∃ n12, ∃ n13, ∃ n14, ∃ n15, H5.cellsAt i7 (i8 + (t8.toNat * 7)) 7 = some [(.int .i64 n9), (.int .i64 n10), (.int .i64 n11), (.int .i64 n12), (.int .u64 n13), (.int .u64 n14), (.int .u64 n15)] ∧
 CA en F.crossbarlaw08_does [(.pointer t5), (.agg #[(.int .i64 n9), (.int .i64 n10), (.int .i64 n11), (.int .i64 n12), (.int .u64 n13), (.int .u64 n14), (.int .u64 n15)])] H5 fun v16 H17 =>
 ∃ n18, ∃ b19, ∃ n20, ∃ n21, v16 = (.agg #[(.int .u64 n18), (.bool b19), (.int .i64 n20), (.int .i64 n21)]) ∧
 nwH H17 (.cells true 0 [(.int .u64 0), (.bool false), (.int .i64 0), (.int .i64 0)]) fun i22 H23 =>
 stc H23 i22 0 [(.int .u64 n18), (.bool b19), (.int .i64 n20), (.int .i64 n21)] fun H24 =>
 inB t8 t1l ∧
 asRow t1 fun i25 i26 =>
 ∃ n27, H24.cell i25 (i26 + (t8.toNat * 7)) = some (.int .i64 n27) ∧
 CA en F.crossbarkit_Pick [(.int .i64 n27), (.int .i64 8)] H24 fun v28 H29 =>
 ∃ n30, v28 = (.int .i64 n30) ∧
 ∃ n31, H29.cell i22 2 = some (.int .i64 n31) ∧
 CA en F.smem_Mem_Room [(.pointer t5)] H29 fun v32 H33 =>
 ∃ n34, v32 = (.int .i64 n34) ∧
 LA en L_crossbarlaw08_SmemWhole_1 [(.int .i64 t0), (.slice t1 t1l 0), undef, undef, (.bool t4), (.pointer t5), (.int .i64 (if n31 > t6 then n31 else t6)), (.int .i64 t7), (.int .i64 t8), (.int .i64 n3), (.int .i64 n6), (.pointer (some ⟨i22, 0, none⟩)), (.int .i64 n30), (.int .i64 n34), (.int .i64 0), (.int .i64 1), (ys.getD 16 undef), (ys.getD 17 undef), (.int .i64 t18), (.pointer t19), (.pointer t20), (.bool t21), (.bool false), (.slice t23 t23l 0), (.int .i64 t24), (.bool t25), (.bool false), undef, undef, undef, undef, undef, (.int .i64 t32), (.int .i64 t33), (.int .i64 t8), (.slice t1 t1l 0), (.int .i64 ((t1l : Nat) : Int)), (.bool true), (ys.getD 38 undef), (ys.getD 39 undef), (.pointer t5), (.int .i64 n3), (.pointer t5), (.int .i64 n6), (.pointer t5), (.slice t1 t1l 0), (.int .i64 t8), (.pointer (some ⟨i7, (i8 + (t8.toNat * 7)), none⟩)), (.agg #[(.int .i64 n9), (.int .i64 n10), (.int .i64 n11), (.int .i64 n12), (.int .u64 n13), (.int .u64 n14), (.int .u64 n15)]), (.agg #[(.int .u64 n18), (.bool b19), (.int .i64 n20), (.int .i64 n21)]), (.slice t1 t1l 0), (.int .i64 t8), (.pointer (some ⟨i25, (i26 + (t8.toNat * 7)), none⟩)), (.pointer (some ⟨i25, (i26 + (t8.toNat * 7)), none⟩)), (.int .i64 n27), (.int .i64 n30), (.int .i64 t6), (.pointer (some ⟨i22, 2, none⟩)), (.int .i64 n31), (.int .i64 (if n31 > t6 then n31 else t6)), (.pointer t5), (.int .i64 n34), (ys.getD 62 undef), (ys.getD 63 undef), (ys.getD 64 undef), (ys.getD 65 undef), (ys.getD 66 undef), (ys.getD 67 undef), (ys.getD 68 undef), (ys.getD 69 undef), (ys.getD 70 undef), (ys.getD 71 undef), (ys.getD 72 undef), (ys.getD 73 undef), (ys.getD 74 undef), (ys.getD 75 undef), (ys.getD 76 undef), (ys.getD 77 undef), (ys.getD 78 undef), (ys.getD 79 undef), (ys.getD 80 undef), (ys.getD 81 undef), (ys.getD 82 undef), (ys.getD 83 undef), (ys.getD 84 undef), (ys.getD 85 undef), (ys.getD 86 undef), (ys.getD 87 undef), (ys.getD 88 undef), (ys.getD 89 undef), (ys.getD 90 undef), (ys.getD 91 undef), (ys.getD 92 undef), (ys.getD 93 undef), (ys.getD 94 undef), (ys.getD 95 undef), (ys.getD 96 undef), (ys.getD 97 undef), (ys.getD 98 undef), (ys.getD 99 undef), (ys.getD 100 undef), (ys.getD 101 undef), (ys.getD 102 undef), (ys.getD 103 undef), (ys.getD 104 undef), (ys.getD 105 undef), (ys.getD 106 undef), (ys.getD 107 undef), (ys.getD 108 undef), (ys.getD 109 undef), (ys.getD 110 undef), (ys.getD 111 undef), (ys.getD 112 undef), (ys.getD 113 undef), (ys.getD 114 undef), (ys.getD 115 undef), (ys.getD 116 undef), (ys.getD 117 undef), (ys.getD 118 undef), (ys.getD 119 undef), (ys.getD 120 undef), undef] H33 [(X.exit 2, fun (x35 : Fr) (H36 : Heap) =>
 AS.asInt .i64 (x35.getD 13 undef) fun n37 =>
 AS.asInt .i64 (x35.getD 14 undef) fun n38 =>
 ∃ J39 : List Value → Heap → Prop, (
 bif (decide (n30 > 1)) then (
 J39 [(.int .i64 1)] H36)
 else (
 J39 [(.int .i64 0)] H36)) ∧
 ∀ (ys40 : Fr) (H41 : Heap), ∀ n42, J39 [(.int .i64 n42)] H41 →
 ∃ J43 : List Value → Heap → Prop, (
 bif (decide (n30 > 1)) then (
 ∃ b44, H41.cell i22 1 = some (.bool b44) ∧
 bif (!b44) then (
 J43 [(.int .i64 1)] H41)
 else (
 J43 [(.int .i64 0)] H41))
 else (
 J43 [(.int .i64 0)] H41)) ∧
 ∀ (ys45 : Fr) (H46 : Heap), ∀ n47, J43 [(.int .i64 n47)] H46 →
 bif (n37 != t7) then (
 K1 [(.int .i64 t0), (.slice t1 t1l 0), undef, undef, (.bool false), (.pointer t5), (.int .i64 (if n31 > t6 then n31 else t6)), (.int .i64 t7), (.int .i64 t8), (.int .i64 n3), (.int .i64 n6), (.pointer (some ⟨i22, 0, none⟩)), (.int .i64 n30), (.int .i64 n37), (.int .i64 n38), (x35.getD 15 undef), (.int .i64 n42), (.int .i64 n47), (.int .i64 t18), (.pointer t19), (.pointer t20), (.bool t21), (.bool false), (.slice t23 t23l 0), (.int .i64 t24), (.bool t25), (.bool false), undef, undef, undef, undef, undef, (.int .i64 t32), (.int .i64 t33), (.int .i64 t8), (.slice t1 t1l 0), (.int .i64 ((t1l : Nat) : Int)), (.bool true), (ys.getD 38 undef), (ys.getD 39 undef), (.pointer t5), (.int .i64 n3), (.pointer t5), (.int .i64 n6), (.pointer t5), (.slice t1 t1l 0), (.int .i64 t8), (.pointer (some ⟨i7, (i8 + (t8.toNat * 7)), none⟩)), (.agg #[(.int .i64 n9), (.int .i64 n10), (.int .i64 n11), (.int .i64 n12), (.int .u64 n13), (.int .u64 n14), (.int .u64 n15)]), (.agg #[(.int .u64 n18), (.bool b19), (.int .i64 n20), (.int .i64 n21)]), (.slice t1 t1l 0), (.int .i64 t8), (.pointer (some ⟨i25, (i26 + (t8.toNat * 7)), none⟩)), (.pointer (some ⟨i25, (i26 + (t8.toNat * 7)), none⟩)), (.int .i64 n27), (.int .i64 n30), (.int .i64 t6), (.pointer (some ⟨i22, 2, none⟩)), (.int .i64 n31), (.int .i64 (if n31 > t6 then n31 else t6)), (.pointer t5), (.int .i64 n34), (x35.getD 62 undef), (x35.getD 63 undef), (x35.getD 64 undef), (x35.getD 65 undef), (x35.getD 66 undef), (x35.getD 67 undef), (x35.getD 68 undef), (x35.getD 69 undef), (x35.getD 70 undef), (x35.getD 71 undef), (x35.getD 72 undef), (x35.getD 73 undef), (x35.getD 74 undef), (x35.getD 75 undef), (x35.getD 76 undef), (x35.getD 77 undef), (ys40.getD 78 undef), (ys40.getD 79 undef), (ys45.getD 80 undef), (ys45.getD 81 undef), (ys45.getD 82 undef), (ys45.getD 83 undef), (ys45.getD 84 undef), (ys45.getD 85 undef), (ys45.getD 86 undef), (.int .i64 n37), (.int .i64 t7), (.bool (n37 != t7)), (.bool true), undef, undef, undef, undef, (.bool true), (.bool true), undef, undef, undef, undef, undef, undef, (.bool true), (.bool true), undef, undef, undef, undef, undef, undef, (.bool true), (.bool true), undef, undef, undef, undef, undef, undef, undef, (.bool true), undef] H46)
 else (
 CA en F.smem_Mem_Live [(.pointer t5)] H46 fun v48 H49 =>
 ∃ n50, v48 = (.int .i64 n50) ∧
 bif (n38 != n50) then (
 K1 [(.int .i64 t0), (.slice t1 t1l 0), undef, undef, (.bool false), (.pointer t5), (.int .i64 (if n31 > t6 then n31 else t6)), (.int .i64 t7), (.int .i64 t8), (.int .i64 n3), (.int .i64 n6), (.pointer (some ⟨i22, 0, none⟩)), (.int .i64 n30), (.int .i64 n37), (.int .i64 n38), (x35.getD 15 undef), (.int .i64 n42), (.int .i64 n47), (.int .i64 t18), (.pointer t19), (.pointer t20), (.bool t21), (.bool false), (.slice t23 t23l 0), (.int .i64 t24), (.bool t25), (.bool false), undef, undef, undef, undef, undef, (.int .i64 t32), (.int .i64 t33), (.int .i64 t8), (.slice t1 t1l 0), (.int .i64 ((t1l : Nat) : Int)), (.bool true), (ys.getD 38 undef), (ys.getD 39 undef), (.pointer t5), (.int .i64 n3), (.pointer t5), (.int .i64 n6), (.pointer t5), (.slice t1 t1l 0), (.int .i64 t8), (.pointer (some ⟨i7, (i8 + (t8.toNat * 7)), none⟩)), (.agg #[(.int .i64 n9), (.int .i64 n10), (.int .i64 n11), (.int .i64 n12), (.int .u64 n13), (.int .u64 n14), (.int .u64 n15)]), (.agg #[(.int .u64 n18), (.bool b19), (.int .i64 n20), (.int .i64 n21)]), (.slice t1 t1l 0), (.int .i64 t8), (.pointer (some ⟨i25, (i26 + (t8.toNat * 7)), none⟩)), (.pointer (some ⟨i25, (i26 + (t8.toNat * 7)), none⟩)), (.int .i64 n27), (.int .i64 n30), (.int .i64 t6), (.pointer (some ⟨i22, 2, none⟩)), (.int .i64 n31), (.int .i64 (if n31 > t6 then n31 else t6)), (.pointer t5), (.int .i64 n34), (x35.getD 62 undef), (x35.getD 63 undef), (x35.getD 64 undef), (x35.getD 65 undef), (x35.getD 66 undef), (x35.getD 67 undef), (x35.getD 68 undef), (x35.getD 69 undef), (x35.getD 70 undef), (x35.getD 71 undef), (x35.getD 72 undef), (x35.getD 73 undef), (x35.getD 74 undef), (x35.getD 75 undef), (x35.getD 76 undef), (x35.getD 77 undef), (ys40.getD 78 undef), (ys40.getD 79 undef), (ys45.getD 80 undef), (ys45.getD 81 undef), (ys45.getD 82 undef), (ys45.getD 83 undef), (ys45.getD 84 undef), (ys45.getD 85 undef), (ys45.getD 86 undef), (.int .i64 n37), (.int .i64 t7), (.bool (n37 != t7)), (.bool false), (.int .i64 n38), (.pointer t5), (.int .i64 n50), (.bool (n38 != n50)), (.bool (n38 != n50)), (.bool true), undef, undef, undef, undef, undef, undef, (.bool true), (.bool true), undef, undef, undef, undef, undef, undef, (.bool true), (.bool true), undef, undef, undef, undef, undef, undef, undef, (.bool true), undef] H49)
 else (
 CA en F.smem_Mem_Count [(.pointer t5)] H49 fun v51 H52 =>
 ∃ n53, v51 = (.int .i64 n53) ∧
 bif (n53 != (IntKind.i64.wrap (n3 + n42))) then (
 K1 [(.int .i64 t0), (.slice t1 t1l 0), undef, undef, (.bool false), (.pointer t5), (.int .i64 (if n31 > t6 then n31 else t6)), (.int .i64 t7), (.int .i64 t8), (.int .i64 n3), (.int .i64 n6), (.pointer (some ⟨i22, 0, none⟩)), (.int .i64 n30), (.int .i64 n37), (.int .i64 n38), (x35.getD 15 undef), (.int .i64 n42), (.int .i64 n47), (.int .i64 t18), (.pointer t19), (.pointer t20), (.bool t21), (.bool false), (.slice t23 t23l 0), (.int .i64 t24), (.bool t25), (.bool false), undef, undef, undef, undef, undef, (.int .i64 t32), (.int .i64 t33), (.int .i64 t8), (.slice t1 t1l 0), (.int .i64 ((t1l : Nat) : Int)), (.bool true), (ys.getD 38 undef), (ys.getD 39 undef), (.pointer t5), (.int .i64 n3), (.pointer t5), (.int .i64 n6), (.pointer t5), (.slice t1 t1l 0), (.int .i64 t8), (.pointer (some ⟨i7, (i8 + (t8.toNat * 7)), none⟩)), (.agg #[(.int .i64 n9), (.int .i64 n10), (.int .i64 n11), (.int .i64 n12), (.int .u64 n13), (.int .u64 n14), (.int .u64 n15)]), (.agg #[(.int .u64 n18), (.bool b19), (.int .i64 n20), (.int .i64 n21)]), (.slice t1 t1l 0), (.int .i64 t8), (.pointer (some ⟨i25, (i26 + (t8.toNat * 7)), none⟩)), (.pointer (some ⟨i25, (i26 + (t8.toNat * 7)), none⟩)), (.int .i64 n27), (.int .i64 n30), (.int .i64 t6), (.pointer (some ⟨i22, 2, none⟩)), (.int .i64 n31), (.int .i64 (if n31 > t6 then n31 else t6)), (.pointer t5), (.int .i64 n34), (x35.getD 62 undef), (x35.getD 63 undef), (x35.getD 64 undef), (x35.getD 65 undef), (x35.getD 66 undef), (x35.getD 67 undef), (x35.getD 68 undef), (x35.getD 69 undef), (x35.getD 70 undef), (x35.getD 71 undef), (x35.getD 72 undef), (x35.getD 73 undef), (x35.getD 74 undef), (x35.getD 75 undef), (x35.getD 76 undef), (x35.getD 77 undef), (ys40.getD 78 undef), (ys40.getD 79 undef), (ys45.getD 80 undef), (ys45.getD 81 undef), (ys45.getD 82 undef), (ys45.getD 83 undef), (ys45.getD 84 undef), (ys45.getD 85 undef), (ys45.getD 86 undef), (.int .i64 n37), (.int .i64 t7), (.bool (n37 != t7)), (.bool false), (.int .i64 n38), (.pointer t5), (.int .i64 n50), (.bool (n38 != n50)), (.bool (n38 != n50)), (.bool false), (.pointer t5), (.int .i64 n53), (.int .i64 n3), (.int .i64 n42), (.int .i64 (IntKind.i64.wrap (n3 + n42))), (.bool (n53 != (IntKind.i64.wrap (n3 + n42)))), (.bool (n53 != (IntKind.i64.wrap (n3 + n42)))), (.bool true), undef, undef, undef, undef, undef, undef, (.bool true), (.bool true), undef, undef, undef, undef, undef, undef, undef, (.bool true), undef] H52)
 else (
 CA en F.smem_Mem_Bad [(.pointer t5)] H52 fun v54 H55 =>
 ∃ n56, v54 = (.int .i64 n56) ∧
 bif (n56 != (IntKind.i64.wrap (n6 + n47))) then (
 K1 [(.int .i64 t0), (.slice t1 t1l 0), undef, undef, (.bool false), (.pointer t5), (.int .i64 (if n31 > t6 then n31 else t6)), (.int .i64 t7), (.int .i64 t8), (.int .i64 n3), (.int .i64 n6), (.pointer (some ⟨i22, 0, none⟩)), (.int .i64 n30), (.int .i64 n37), (.int .i64 n38), (x35.getD 15 undef), (.int .i64 n42), (.int .i64 n47), (.int .i64 t18), (.pointer t19), (.pointer t20), (.bool t21), (.bool false), (.slice t23 t23l 0), (.int .i64 t24), (.bool t25), (.bool false), undef, undef, undef, undef, undef, (.int .i64 t32), (.int .i64 t33), (.int .i64 t8), (.slice t1 t1l 0), (.int .i64 ((t1l : Nat) : Int)), (.bool true), (ys.getD 38 undef), (ys.getD 39 undef), (.pointer t5), (.int .i64 n3), (.pointer t5), (.int .i64 n6), (.pointer t5), (.slice t1 t1l 0), (.int .i64 t8), (.pointer (some ⟨i7, (i8 + (t8.toNat * 7)), none⟩)), (.agg #[(.int .i64 n9), (.int .i64 n10), (.int .i64 n11), (.int .i64 n12), (.int .u64 n13), (.int .u64 n14), (.int .u64 n15)]), (.agg #[(.int .u64 n18), (.bool b19), (.int .i64 n20), (.int .i64 n21)]), (.slice t1 t1l 0), (.int .i64 t8), (.pointer (some ⟨i25, (i26 + (t8.toNat * 7)), none⟩)), (.pointer (some ⟨i25, (i26 + (t8.toNat * 7)), none⟩)), (.int .i64 n27), (.int .i64 n30), (.int .i64 t6), (.pointer (some ⟨i22, 2, none⟩)), (.int .i64 n31), (.int .i64 (if n31 > t6 then n31 else t6)), (.pointer t5), (.int .i64 n34), (x35.getD 62 undef), (x35.getD 63 undef), (x35.getD 64 undef), (x35.getD 65 undef), (x35.getD 66 undef), (x35.getD 67 undef), (x35.getD 68 undef), (x35.getD 69 undef), (x35.getD 70 undef), (x35.getD 71 undef), (x35.getD 72 undef), (x35.getD 73 undef), (x35.getD 74 undef), (x35.getD 75 undef), (x35.getD 76 undef), (x35.getD 77 undef), (ys40.getD 78 undef), (ys40.getD 79 undef), (ys45.getD 80 undef), (ys45.getD 81 undef), (ys45.getD 82 undef), (ys45.getD 83 undef), (ys45.getD 84 undef), (ys45.getD 85 undef), (ys45.getD 86 undef), (.int .i64 n37), (.int .i64 t7), (.bool (n37 != t7)), (.bool false), (.int .i64 n38), (.pointer t5), (.int .i64 n50), (.bool (n38 != n50)), (.bool (n38 != n50)), (.bool false), (.pointer t5), (.int .i64 n53), (.int .i64 n3), (.int .i64 n42), (.int .i64 (IntKind.i64.wrap (n3 + n42))), (.bool (n53 != (IntKind.i64.wrap (n3 + n42)))), (.bool (n53 != (IntKind.i64.wrap (n3 + n42)))), (.bool false), (.pointer t5), (.int .i64 n56), (.int .i64 n6), (.int .i64 n47), (.int .i64 (IntKind.i64.wrap (n6 + n47))), (.bool (n56 != (IntKind.i64.wrap (n6 + n47)))), (.bool (n56 != (IntKind.i64.wrap (n6 + n47)))), (.bool true), undef, undef, undef, undef, undef, undef, undef, (.bool true), undef] H55)
 else (
 bif (n47 == 1) then (
 ∃ n57, H55.cell i22 0 = some (.int .u64 n57) ∧
 bif (n57 != 0) then (
 K1 [(.int .i64 t0), (.slice t1 t1l 0), undef, undef, (.bool false), (.pointer t5), (.int .i64 (if n31 > t6 then n31 else t6)), (.int .i64 t7), (.int .i64 t8), (.int .i64 n3), (.int .i64 n6), (.pointer (some ⟨i22, 0, none⟩)), (.int .i64 n30), (.int .i64 n37), (.int .i64 n38), (x35.getD 15 undef), (.int .i64 n42), (.int .i64 n47), (.int .i64 t18), (.pointer t19), (.pointer t20), (.bool t21), (.bool false), (.slice t23 t23l 0), (.int .i64 t24), (.bool t25), (.bool false), undef, undef, undef, undef, undef, (.int .i64 t32), (.int .i64 t33), (.int .i64 t8), (.slice t1 t1l 0), (.int .i64 ((t1l : Nat) : Int)), (.bool true), (ys.getD 38 undef), (ys.getD 39 undef), (.pointer t5), (.int .i64 n3), (.pointer t5), (.int .i64 n6), (.pointer t5), (.slice t1 t1l 0), (.int .i64 t8), (.pointer (some ⟨i7, (i8 + (t8.toNat * 7)), none⟩)), (.agg #[(.int .i64 n9), (.int .i64 n10), (.int .i64 n11), (.int .i64 n12), (.int .u64 n13), (.int .u64 n14), (.int .u64 n15)]), (.agg #[(.int .u64 n18), (.bool b19), (.int .i64 n20), (.int .i64 n21)]), (.slice t1 t1l 0), (.int .i64 t8), (.pointer (some ⟨i25, (i26 + (t8.toNat * 7)), none⟩)), (.pointer (some ⟨i25, (i26 + (t8.toNat * 7)), none⟩)), (.int .i64 n27), (.int .i64 n30), (.int .i64 t6), (.pointer (some ⟨i22, 2, none⟩)), (.int .i64 n31), (.int .i64 (if n31 > t6 then n31 else t6)), (.pointer t5), (.int .i64 n34), (x35.getD 62 undef), (x35.getD 63 undef), (x35.getD 64 undef), (x35.getD 65 undef), (x35.getD 66 undef), (x35.getD 67 undef), (x35.getD 68 undef), (x35.getD 69 undef), (x35.getD 70 undef), (x35.getD 71 undef), (x35.getD 72 undef), (x35.getD 73 undef), (x35.getD 74 undef), (x35.getD 75 undef), (x35.getD 76 undef), (x35.getD 77 undef), (ys40.getD 78 undef), (ys40.getD 79 undef), (ys45.getD 80 undef), (ys45.getD 81 undef), (ys45.getD 82 undef), (ys45.getD 83 undef), (ys45.getD 84 undef), (ys45.getD 85 undef), (ys45.getD 86 undef), (.int .i64 n37), (.int .i64 t7), (.bool (n37 != t7)), (.bool false), (.int .i64 n38), (.pointer t5), (.int .i64 n50), (.bool (n38 != n50)), (.bool (n38 != n50)), (.bool false), (.pointer t5), (.int .i64 n53), (.int .i64 n3), (.int .i64 n42), (.int .i64 (IntKind.i64.wrap (n3 + n42))), (.bool (n53 != (IntKind.i64.wrap (n3 + n42)))), (.bool (n53 != (IntKind.i64.wrap (n3 + n42)))), (.bool false), (.pointer t5), (.int .i64 n56), (.int .i64 n6), (.int .i64 n47), (.int .i64 (IntKind.i64.wrap (n6 + n47))), (.bool (n56 != (IntKind.i64.wrap (n6 + n47)))), (.bool (n56 != (IntKind.i64.wrap (n6 + n47)))), (.bool false), (.int .i64 n47), (.bool (n47 == 1)), (.bool true), (.pointer (some ⟨i22, 0, none⟩)), (.int .u64 n57), (.bool (n57 != 0)), (.bool (n57 != 0)), (.bool true), undef] H55)
 else (
 ∃ k58, k58 < n ∧
 I k58 t4 (if n31 > t6 then n31 else t6) (IntKind.i64.wrap (t8 + 1)) H55))
 else (
 ∃ k59, k59 < n ∧
 I k59 t4 (if n31 > t6 then n31 else t6) (IntKind.i64.wrap (t8 + 1)) H55))))))])
 else (
 K0 [(.int .i64 t0), (.slice t1 t1l 0), undef, undef, (.bool t4), (.pointer t5), (.int .i64 t6), (.int .i64 t7), (.int .i64 t8), (ys.getD 9 undef), (ys.getD 10 undef), (ys.getD 11 undef), (ys.getD 12 undef), (ys.getD 13 undef), (ys.getD 14 undef), (ys.getD 15 undef), (ys.getD 16 undef), (ys.getD 17 undef), (.int .i64 t18), (.pointer t19), (.pointer t20), (.bool t21), (.bool false), (.slice t23 t23l 0), (.int .i64 t24), (.bool t25), (.bool false), undef, undef, undef, undef, undef, (.int .i64 t32), (.int .i64 t33), (.int .i64 t8), (.slice t1 t1l 0), (.int .i64 ((t1l : Nat) : Int)), (.bool false), (ys.getD 38 undef), (ys.getD 39 undef), (ys.getD 40 undef), (ys.getD 41 undef), (ys.getD 42 undef), (ys.getD 43 undef), (ys.getD 44 undef), (ys.getD 45 undef), (ys.getD 46 undef), (ys.getD 47 undef), (ys.getD 48 undef), (ys.getD 49 undef), (ys.getD 50 undef), (ys.getD 51 undef), (ys.getD 52 undef), (ys.getD 53 undef), (ys.getD 54 undef), (ys.getD 55 undef), (ys.getD 56 undef), (ys.getD 57 undef), (ys.getD 58 undef), (ys.getD 59 undef), (ys.getD 60 undef), (ys.getD 61 undef), (ys.getD 62 undef), (ys.getD 63 undef), (ys.getD 64 undef), (ys.getD 65 undef), (ys.getD 66 undef), (ys.getD 67 undef), (ys.getD 68 undef), (ys.getD 69 undef), (ys.getD 70 undef), (ys.getD 71 undef), (ys.getD 72 undef), (ys.getD 73 undef), (ys.getD 74 undef), (ys.getD 75 undef), (ys.getD 76 undef), (ys.getD 77 undef), (ys.getD 78 undef), (ys.getD 79 undef), (ys.getD 80 undef), (ys.getD 81 undef), (ys.getD 82 undef), (ys.getD 83 undef), (ys.getD 84 undef), (ys.getD 85 undef), (ys.getD 86 undef), (ys.getD 87 undef), (ys.getD 88 undef), (ys.getD 89 undef), (ys.getD 90 undef), (ys.getD 91 undef), (ys.getD 92 undef), (ys.getD 93 undef), (ys.getD 94 undef), (ys.getD 95 undef), (ys.getD 96 undef), (ys.getD 97 undef), (ys.getD 98 undef), (ys.getD 99 undef), (ys.getD 100 undef), (ys.getD 101 undef), (ys.getD 102 undef), (ys.getD 103 undef), (ys.getD 104 undef), (ys.getD 105 undef), (ys.getD 106 undef), (ys.getD 107 undef), (ys.getD 108 undef), (ys.getD 109 undef), (ys.getD 110 undef), (ys.getD 111 undef), (ys.getD 112 undef), (ys.getD 113 undef), (ys.getD 114 undef), (ys.getD 115 undef), (ys.getD 116 undef), (ys.getD 117 undef), (ys.getD 118 undef), (ys.getD 119 undef), (ys.getD 120 undef), undef] H))) :
    LA en L_crossbarlaw08_SmemWhole_0 [(.int .i64 t0), (.slice t1 t1l 0), undef, undef, (.bool t4), (.pointer t5), (.int .i64 t6), (.int .i64 t7), (.int .i64 t8), t9, t10, t11, t12, t13, t14, t15, t16, t17, (.int .i64 t18), (.pointer t19), (.pointer t20), (.bool t21), (.bool false), (.slice t23 t23l 0), (.int .i64 t24), (.bool t25), (.bool false), undef, undef, undef, undef, undef, (.int .i64 t32), (.int .i64 t33), t34, t35, t36, t37, t38, t39, t40, t41, t42, t43, t44, t45, t46, t47, t48, t49, t50, t51, t52, t53, t54, t55, t56, t57, t58, t59, t60, t61, t62, t63, t64, t65, t66, t67, t68, t69, t70, t71, t72, t73, t74, t75, t76, t77, t78, t79, t80, t81, t82, t83, t84, t85, t86, t87, t88, t89, t90, t91, t92, t93, t94, t95, t96, t97, t98, t99, t100, t101, t102, t103, t104, t105, t106, t107, t108, t109, t110, t111, t112, t113, t114, t115, t116, t117, t118, t119, t120, undef] H [(X.exit 0, K0), (X.ret, K1)] := by
  refine LA_ruleC (C := [none, none, none, none, none, none, none, none, none, none, none, none, none, some [(16, (.int .i64 0))], none, none, some [(17, (.int .i64 0))], none, none, none]) (Z := [[(13, (.int .i64 0)), (14, (.int .i64 0))]]) (fun m xs H' => AS.asBool (xs.getD 4 undef) fun t4 => AS.asInt .i64 (xs.getD 6 undef) fun t6 => AS.asInt .i64 (xs.getD 8 undef) fun t8 => I m t4 t6 t8 H') ?_ n H ?_
  · intro n H
    suffices hs : ∀ s34 : Value, ∀ s35 : Value, ∀ s36 : Value, ∀ s37 : Value, ∀ s40 : Value, ∀ s41 : Value, ∀ s9 : Value, ∀ s42 : Value, ∀ s43 : Value, ∀ s10 : Value, ∀ s44 : Value, ∀ s45 : Value, ∀ s46 : Value, ∀ s47 : Value, ∀ s48 : Value, ∀ s49 : Value, ∀ s11 : Value, ∀ s50 : Value, ∀ s51 : Value, ∀ s52 : Value, ∀ s53 : Value, ∀ s54 : Value, ∀ s55 : Value, ∀ s12 : Value, ∀ s56 : Value, ∀ s57 : Value, ∀ s58 : Value, ∀ s59 : Value, ∀ s6 : Value, ∀ s60 : Value, ∀ s61 : Value, ∀ s13 : Value, ∀ s14 : Value, ∀ s15 : Value, ∀ s62 : Value, ∀ s63 : Value, ∀ s64 : Value, ∀ s67 : Value, ∀ s68 : Value, ∀ s69 : Value, ∀ s70 : Value, ∀ s71 : Value, ∀ s72 : Value, ∀ s73 : Value, ∀ s74 : Value, ∀ s75 : Value, ∀ s76 : Value, ∀ s77 : Value, ∀ s65 : Value, ∀ s66 : Value, ∀ s16 : Value, ∀ s78 : Value, ∀ s79 : Value, ∀ s17 : Value, ∀ s80 : Value, ∀ s81 : Value, ∀ s82 : Value, ∀ s83 : Value, ∀ s84 : Value, ∀ s85 : Value, ∀ s86 : Value, ∀ s87 : Value, ∀ s88 : Value, ∀ s89 : Value, ∀ s90 : Value, ∀ s91 : Value, ∀ s92 : Value, ∀ s93 : Value, ∀ s94 : Value, ∀ s95 : Value, ∀ s96 : Value, ∀ s97 : Value, ∀ s98 : Value, ∀ s99 : Value, ∀ s100 : Value, ∀ s101 : Value, ∀ s102 : Value, ∀ s103 : Value, ∀ s104 : Value, ∀ s105 : Value, ∀ s106 : Value, ∀ s107 : Value, ∀ s108 : Value, ∀ s109 : Value, ∀ s110 : Value, ∀ s111 : Value, ∀ s112 : Value, ∀ s113 : Value, ∀ s114 : Value, ∀ s115 : Value, ∀ s116 : Value, ∀ s117 : Value, ∀ s118 : Value, ∀ s119 : Value, ∀ s120 : Value, ∀ s4 : Value, ∀ s38 : Value, ∀ s39 : Value, ∀ s8 : Value, ((AS.asBool s4 fun t4 => AS.asInt .i64 s6 fun t6 => AS.asInt .i64 s8 fun t8 => I n t4 t6 t8 H) → wpCodeC en L_crossbarlaw08_SmemWhole_0 [none, none, none, none, none, none, none, none, none, none, none, none, none, some [(16, (.int .i64 0))], none, none, some [(17, (.int .i64 0))], none, none, none] [[(13, (.int .i64 0)), (14, (.int .i64 0))]] [(.int .i64 t0), (.slice t1 t1l 0), undef, undef, s4, (.pointer t5), s6, (.int .i64 t7), s8, s9, s10, s11, s12, s13, s14, s15, s16, s17, (.int .i64 t18), (.pointer t19), (.pointer t20), (.bool t21), (.bool false), (.slice t23 t23l 0), (.int .i64 t24), (.bool t25), (.bool false), undef, undef, undef, undef, undef, (.int .i64 t32), (.int .i64 t33), s34, s35, s36, s37, s38, s39, s40, s41, s42, s43, s44, s45, s46, s47, s48, s49, s50, s51, s52, s53, s54, s55, s56, s57, s58, s59, s60, s61, s62, s63, s64, s65, s66, s67, s68, s69, s70, s71, s72, s73, s74, s75, s76, s77, s78, s79, s80, s81, s82, s83, s84, s85, s86, s87, s88, s89, s90, s91, s92, s93, s94, s95, s96, s97, s98, s99, s100, s101, s102, s103, s104, s105, s106, s107, s108, s109, s110, s111, s112, s113, s114, s115, s116, s117, s118, s119, s120, undef] H (loopQ (fun m xs H' => AS.asBool (xs.getD 4 undef) fun t4 => AS.asInt .i64 (xs.getD 6 undef) fun t6 => AS.asInt .i64 (xs.getD 8 undef) fun t8 => I m t4 t6 t8 H') n [(X.exit 0, K0), (X.ret, K1)])) by
      apply turnInto hs
      kernel_rfl
    intro s34 s35 s36 s37 s40 s41 s9 s42 s43 s10 s44 s45 s46 s47 s48 s49 s11 s50 s51 s52 s53 s54 s55 s12 s56 s57 s58 s59 s6 s60 s61 s13 s14 s15 s62 s63 s64 s67 s68 s69 s70 s71 s72 s73 s74 s75 s76 s77 s65 s66 s16 s78 s79 s17 s80 s81 s82 s83 s84 s85 s86 s87 s88 s89 s90 s91 s92 s93 s94 s95 s96 s97 s98 s99 s100 s101 s102 s103 s104 s105 s106 s107 s108 s109 s110 s111 s112 s113 s114 s115 s116 s117 s118 s119 s120 s4 s38 s39 s8 hP
    replace hP := asBool_elim hP
    obtain ⟨t4, rfl, hP⟩ := hP
    replace hP := asInt_elim hP
    obtain ⟨t6, rfl, hP⟩ := hP
    replace hP := asInt_elim hP
    obtain ⟨t8, rfl, hP⟩ := hP
    apply turnInto (hstep n t4 t6 t8 [(.int .i64 t0), (.slice t1 t1l 0), undef, undef, (.bool t4), (.pointer t5), (.int .i64 t6), (.int .i64 t7), (.int .i64 t8), s9, s10, s11, s12, s13, s14, s15, s16, s17, (.int .i64 t18), (.pointer t19), (.pointer t20), (.bool t21), (.bool false), (.slice t23 t23l 0), (.int .i64 t24), (.bool t25), (.bool false), undef, undef, undef, undef, undef, (.int .i64 t32), (.int .i64 t33), s34, s35, s36, s37, s38, s39, s40, s41, s42, s43, s44, s45, s46, s47, s48, s49, s50, s51, s52, s53, s54, s55, s56, s57, s58, s59, s60, s61, s62, s63, s64, s65, s66, s67, s68, s69, s70, s71, s72, s73, s74, s75, s76, s77, s78, s79, s80, s81, s82, s83, s84, s85, s86, s87, s88, s89, s90, s91, s92, s93, s94, s95, s96, s97, s98, s99, s100, s101, s102, s103, s104, s105, s106, s107, s108, s109, s110, s111, s112, s113, s114, s115, s116, s117, s118, s119, s120, undef] H hP)
    kernel_rfl
  · apply turnInto h0
    kernel_rfl

theorem use_crossbarlaw08_SmemWhole_1 {t0 : Int} {t1 : Option Addr} {t1l : Nat} {t4 : Bool} {t5 : Option Addr} {t6 : Int} {t7 : Int} {t8 : Int} {t9 : Int} {t10 : Int} {t11 : Nat} {t12 : Int} {t16 : Value} {t17 : Value} {t18 : Int} {t19 : Option Addr} {t20 : Option Addr} {t21 : Bool} {t23 : Option Addr} {t23l : Nat} {t24 : Int} {t25 : Bool} {t32 : Int} {t33 : Int} {t34 : Int} {t35 : Option Addr} {t35l : Nat} {t36 : Int} {t38 : Value} {t39 : Value} {t40 : Option Addr} {t41 : Int} {t42 : Option Addr} {t43 : Int} {t44 : Option Addr} {t45 : Option Addr} {t45l : Nat} {t46 : Int} {t47 : Nat} {t47o : Nat} {t48_0 : Int} {t48_1 : Int} {t48_2 : Int} {t48_3 : Int} {t48_4 : Int} {t48_5 : Int} {t48_6 : Int} {t49_0 : Int} {t49_1 : Bool} {t49_2 : Int} {t49_3 : Int} {t50 : Option Addr} {t50l : Nat} {t51 : Int} {t52 : Nat} {t52o : Nat} {t53 : Nat} {t53o : Nat} {t54 : Int} {t55 : Int} {t56 : Int} {t57 : Nat} {t58 : Int} {t59 : Int} {t60 : Option Addr} {t61 : Int} {t78 : Value} {t79 : Value} {t80 : Value} {t81 : Value} {t82 : Value} {t83 : Value} {t84 : Value} {t85 : Value} {t86 : Value} {t87 : Value} {t88 : Value} {t89 : Value} {t90 : Value} {t91 : Value} {t92 : Value} {t93 : Value} {t94 : Value} {t95 : Value} {t96 : Value} {t97 : Value} {t98 : Value} {t99 : Value} {t100 : Value} {t101 : Value} {t102 : Value} {t103 : Value} {t104 : Value} {t105 : Value} {t106 : Value} {t107 : Value} {t108 : Value} {t109 : Value} {t110 : Value} {t111 : Value} {t112 : Value} {t113 : Value} {t114 : Value} {t115 : Value} {t116 : Value} {t117 : Value} {t118 : Value} {t119 : Value} {t120 : Value} {K0 : Fr → Heap → Prop} {t13 : Int} {t14 : Int} {t15 : Int} {t62 : Value} {t63 : Value} {t64 : Value} {t65 : Value} {t66 : Value} {t67 : Value} {t68 : Value} {t69 : Value} {t70 : Value} {t71 : Value} {t72 : Value} {t73 : Value} {t74 : Value} {t75 : Value} {t76 : Value} {t77 : Value} {H : Heap} (I : Nat → Int → Int → Int → Heap → Prop) (n : Nat) (h0 : I n t13 t14 t15 H)
    (hstep : ∀ (n : Nat) (t13 : Int) (t14 : Int) (t15 : Int) (ys : Fr) (H : Heap), I n t13 t14 t15 H →
    (
 bif (decide (t15 ≤ t6)) then (
 CA en F.smem_Mem_Size [(.pointer t5), (.int .i64 t15)] H fun v1 H2 =>
 ∃ n3, v1 = (.int .i64 n3) ∧
 CA en F.smem_Mem_Size [(.pointer t5), (.int .i64 t15)] H2 fun v4 H5 =>
 ∃ n6, v4 = (.int .i64 n6) ∧
 bif (decide (n6 > 0)) then (
 ∃ k7, k7 < n ∧
 I k7 (IntKind.i64.wrap (t13 + n3)) (IntKind.i64.wrap (t14 + 1)) (IntKind.i64.wrap (t15 + 1)) H5)
 else (
 ∃ k8, k8 < n ∧
 I k8 (IntKind.i64.wrap (t13 + n3)) t14 (IntKind.i64.wrap (t15 + 1)) H5))
 else (
 K0 [(.int .i64 t0), (.slice t1 t1l 0), undef, undef, (.bool t4), (.pointer t5), (.int .i64 t6), (.int .i64 t7), (.int .i64 t8), (.int .i64 t9), (.int .i64 t10), (.pointer (some ⟨t11, 0, none⟩)), (.int .i64 t12), (.int .i64 t13), (.int .i64 t14), (.int .i64 t15), t16, t17, (.int .i64 t18), (.pointer t19), (.pointer t20), (.bool t21), (.bool false), (.slice t23 t23l 0), (.int .i64 t24), (.bool t25), (.bool false), undef, undef, undef, undef, undef, (.int .i64 t32), (.int .i64 t33), (.int .i64 t34), (.slice t35 t35l 0), (.int .i64 t36), (.bool true), t38, t39, (.pointer t40), (.int .i64 t41), (.pointer t42), (.int .i64 t43), (.pointer t44), (.slice t45 t45l 0), (.int .i64 t46), (.pointer (some ⟨t47, t47o, none⟩)), (.agg #[(.int .i64 t48_0), (.int .i64 t48_1), (.int .i64 t48_2), (.int .i64 t48_3), (.int .u64 t48_4), (.int .u64 t48_5), (.int .u64 t48_6)]), (.agg #[(.int .u64 t49_0), (.bool t49_1), (.int .i64 t49_2), (.int .i64 t49_3)]), (.slice t50 t50l 0), (.int .i64 t51), (.pointer (some ⟨t52, t52o, none⟩)), (.pointer (some ⟨t53, t53o, none⟩)), (.int .i64 t54), (.int .i64 t55), (.int .i64 t56), (.pointer (some ⟨t57, 2, none⟩)), (.int .i64 t58), (.int .i64 t59), (.pointer t60), (.int .i64 t61), (.int .i64 t15), (.int .i64 t6), (.bool false), (ys.getD 65 undef), (ys.getD 66 undef), (ys.getD 67 undef), (ys.getD 68 undef), (ys.getD 69 undef), (ys.getD 70 undef), (ys.getD 71 undef), (ys.getD 72 undef), (ys.getD 73 undef), (ys.getD 74 undef), (ys.getD 75 undef), (ys.getD 76 undef), (ys.getD 77 undef), t78, t79, t80, t81, t82, t83, t84, t85, t86, t87, t88, t89, t90, t91, t92, t93, t94, t95, t96, t97, t98, t99, t100, t101, t102, t103, t104, t105, t106, t107, t108, t109, t110, t111, t112, t113, t114, t115, t116, t117, t118, t119, t120, undef] H))) :
    LA en L_crossbarlaw08_SmemWhole_1 [(.int .i64 t0), (.slice t1 t1l 0), undef, undef, (.bool t4), (.pointer t5), (.int .i64 t6), (.int .i64 t7), (.int .i64 t8), (.int .i64 t9), (.int .i64 t10), (.pointer (some ⟨t11, 0, none⟩)), (.int .i64 t12), (.int .i64 t13), (.int .i64 t14), (.int .i64 t15), t16, t17, (.int .i64 t18), (.pointer t19), (.pointer t20), (.bool t21), (.bool false), (.slice t23 t23l 0), (.int .i64 t24), (.bool t25), (.bool false), undef, undef, undef, undef, undef, (.int .i64 t32), (.int .i64 t33), (.int .i64 t34), (.slice t35 t35l 0), (.int .i64 t36), (.bool true), t38, t39, (.pointer t40), (.int .i64 t41), (.pointer t42), (.int .i64 t43), (.pointer t44), (.slice t45 t45l 0), (.int .i64 t46), (.pointer (some ⟨t47, t47o, none⟩)), (.agg #[(.int .i64 t48_0), (.int .i64 t48_1), (.int .i64 t48_2), (.int .i64 t48_3), (.int .u64 t48_4), (.int .u64 t48_5), (.int .u64 t48_6)]), (.agg #[(.int .u64 t49_0), (.bool t49_1), (.int .i64 t49_2), (.int .i64 t49_3)]), (.slice t50 t50l 0), (.int .i64 t51), (.pointer (some ⟨t52, t52o, none⟩)), (.pointer (some ⟨t53, t53o, none⟩)), (.int .i64 t54), (.int .i64 t55), (.int .i64 t56), (.pointer (some ⟨t57, 2, none⟩)), (.int .i64 t58), (.int .i64 t59), (.pointer t60), (.int .i64 t61), t62, t63, t64, t65, t66, t67, t68, t69, t70, t71, t72, t73, t74, t75, t76, t77, t78, t79, t80, t81, t82, t83, t84, t85, t86, t87, t88, t89, t90, t91, t92, t93, t94, t95, t96, t97, t98, t99, t100, t101, t102, t103, t104, t105, t106, t107, t108, t109, t110, t111, t112, t113, t114, t115, t116, t117, t118, t119, t120, undef] H [(X.exit 2, K0)] := by
  refine LA_rule (Z := []) (fun m xs H' => AS.asInt .i64 (xs.getD 13 undef) fun t13 => AS.asInt .i64 (xs.getD 14 undef) fun t14 => AS.asInt .i64 (xs.getD 15 undef) fun t15 => I m t13 t14 t15 H') ?_ n H ?_
  · intro n H
    suffices hs : ∀ s62 : Value, ∀ s63 : Value, ∀ s64 : Value, ∀ s67 : Value, ∀ s68 : Value, ∀ s69 : Value, ∀ s70 : Value, ∀ s71 : Value, ∀ s13 : Value, ∀ s72 : Value, ∀ s73 : Value, ∀ s74 : Value, ∀ s75 : Value, ∀ s76 : Value, ∀ s77 : Value, ∀ s14 : Value, ∀ s65 : Value, ∀ s66 : Value, ∀ s15 : Value, ((AS.asInt .i64 s13 fun t13 => AS.asInt .i64 s14 fun t14 => AS.asInt .i64 s15 fun t15 => I n t13 t14 t15 H) → wpCode en L_crossbarlaw08_SmemWhole_1 [] [(.int .i64 t0), (.slice t1 t1l 0), undef, undef, (.bool t4), (.pointer t5), (.int .i64 t6), (.int .i64 t7), (.int .i64 t8), (.int .i64 t9), (.int .i64 t10), (.pointer (some ⟨t11, 0, none⟩)), (.int .i64 t12), s13, s14, s15, t16, t17, (.int .i64 t18), (.pointer t19), (.pointer t20), (.bool t21), (.bool false), (.slice t23 t23l 0), (.int .i64 t24), (.bool t25), (.bool false), undef, undef, undef, undef, undef, (.int .i64 t32), (.int .i64 t33), (.int .i64 t34), (.slice t35 t35l 0), (.int .i64 t36), (.bool true), t38, t39, (.pointer t40), (.int .i64 t41), (.pointer t42), (.int .i64 t43), (.pointer t44), (.slice t45 t45l 0), (.int .i64 t46), (.pointer (some ⟨t47, t47o, none⟩)), (.agg #[(.int .i64 t48_0), (.int .i64 t48_1), (.int .i64 t48_2), (.int .i64 t48_3), (.int .u64 t48_4), (.int .u64 t48_5), (.int .u64 t48_6)]), (.agg #[(.int .u64 t49_0), (.bool t49_1), (.int .i64 t49_2), (.int .i64 t49_3)]), (.slice t50 t50l 0), (.int .i64 t51), (.pointer (some ⟨t52, t52o, none⟩)), (.pointer (some ⟨t53, t53o, none⟩)), (.int .i64 t54), (.int .i64 t55), (.int .i64 t56), (.pointer (some ⟨t57, 2, none⟩)), (.int .i64 t58), (.int .i64 t59), (.pointer t60), (.int .i64 t61), s62, s63, s64, s65, s66, s67, s68, s69, s70, s71, s72, s73, s74, s75, s76, s77, t78, t79, t80, t81, t82, t83, t84, t85, t86, t87, t88, t89, t90, t91, t92, t93, t94, t95, t96, t97, t98, t99, t100, t101, t102, t103, t104, t105, t106, t107, t108, t109, t110, t111, t112, t113, t114, t115, t116, t117, t118, t119, t120, undef] H (loopQ (fun m xs H' => AS.asInt .i64 (xs.getD 13 undef) fun t13 => AS.asInt .i64 (xs.getD 14 undef) fun t14 => AS.asInt .i64 (xs.getD 15 undef) fun t15 => I m t13 t14 t15 H') n [(X.exit 2, K0)])) by
      apply turnInto hs
      kernel_rfl
    intro s62 s63 s64 s67 s68 s69 s70 s71 s13 s72 s73 s74 s75 s76 s77 s14 s65 s66 s15 hP
    replace hP := asInt_elim hP
    obtain ⟨t13, rfl, hP⟩ := hP
    replace hP := asInt_elim hP
    obtain ⟨t14, rfl, hP⟩ := hP
    replace hP := asInt_elim hP
    obtain ⟨t15, rfl, hP⟩ := hP
    apply turnInto (hstep n t13 t14 t15 [(.int .i64 t0), (.slice t1 t1l 0), undef, undef, (.bool t4), (.pointer t5), (.int .i64 t6), (.int .i64 t7), (.int .i64 t8), (.int .i64 t9), (.int .i64 t10), (.pointer (some ⟨t11, 0, none⟩)), (.int .i64 t12), (.int .i64 t13), (.int .i64 t14), (.int .i64 t15), t16, t17, (.int .i64 t18), (.pointer t19), (.pointer t20), (.bool t21), (.bool false), (.slice t23 t23l 0), (.int .i64 t24), (.bool t25), (.bool false), undef, undef, undef, undef, undef, (.int .i64 t32), (.int .i64 t33), (.int .i64 t34), (.slice t35 t35l 0), (.int .i64 t36), (.bool true), t38, t39, (.pointer t40), (.int .i64 t41), (.pointer t42), (.int .i64 t43), (.pointer t44), (.slice t45 t45l 0), (.int .i64 t46), (.pointer (some ⟨t47, t47o, none⟩)), (.agg #[(.int .i64 t48_0), (.int .i64 t48_1), (.int .i64 t48_2), (.int .i64 t48_3), (.int .u64 t48_4), (.int .u64 t48_5), (.int .u64 t48_6)]), (.agg #[(.int .u64 t49_0), (.bool t49_1), (.int .i64 t49_2), (.int .i64 t49_3)]), (.slice t50 t50l 0), (.int .i64 t51), (.pointer (some ⟨t52, t52o, none⟩)), (.pointer (some ⟨t53, t53o, none⟩)), (.int .i64 t54), (.int .i64 t55), (.int .i64 t56), (.pointer (some ⟨t57, 2, none⟩)), (.int .i64 t58), (.int .i64 t59), (.pointer t60), (.int .i64 t61), s62, s63, s64, s65, s66, s67, s68, s69, s70, s71, s72, s73, s74, s75, s76, s77, t78, t79, t80, t81, t82, t83, t84, t85, t86, t87, t88, t89, t90, t91, t92, t93, t94, t95, t96, t97, t98, t99, t100, t101, t102, t103, t104, t105, t106, t107, t108, t109, t110, t111, t112, t113, t114, t115, t116, t117, t118, t119, t120, undef] H hP)
    kernel_rfl
  · apply turnInto h0
    kernel_rfl


/-! crossbarlaw08_SmemApart -/
noncomputable def L_crossbarlaw08_SmemApart_0 : Code := loopAt Go.Proofs.Try.f8 0
noncomputable def L_crossbarlaw08_SmemApart_1 : Code := loopAt Go.Proofs.Try.f8 1
noncomputable def L_crossbarlaw08_SmemApart_2 : Code := loopAt Go.Proofs.Try.f8 2

end Go.Proofs.Ytdkbgjhlpoibdaa
