/-
  What functions of this seat's program need (printed by a program, checked by the kernel).
-/
import Derived.Test.YtdkbgjhlpoibdaaNames
import Derived.Test.YtdkbgjhlpoibdaaAs41
namespace Go.Proofs.Ytdkbgjhlpoibdaa
open Go Go.AS Go.RowKit
set_option linter.unusedVariables false
set_option maxRecDepth 100000

/-! grace_New -/

theorem vc_grace_New (x0 : Int) (x1 : Option Addr) (H : Heap) (R : Value → Heap → Prop) :
    (
 nwH H (.map [] 0) fun i1 H2 =>
 nwH H2 (.cells true 0 [(.pointer x1), (.int .i64 x0), (.map (some i1)), (.slice none 0 0)]) fun i3 H4 =>
 R (.pointer (some ⟨i3, 0, none⟩)) H4) →
    CA en F.grace_New [(.int .i64 x0), (.pointer x1)] H R := by
  intro h
  refine wpFn_ok (Z := []) (fn := Go.Proofs.Try.f14) ?_ ?_ ?_
  · kernel_rfl
  · kernel_rfl
  · apply turnInto h
    kernel_rfl


/-! grace_Grace_Leave -/
noncomputable def L_grace_Grace_Leave_0 : Code := loopAt Go.Proofs.Try.f15 0

theorem vc_grace_Grace_Leave (x0 : Option Addr) (x1 : Int) (H : Heap) (R : Value → Heap → Prop) :
    (
 AS.asAddr (.pointer x0) fun i1 i2 =>
 ∃ m3, H.cell i1 (i2 + 2) = some (.map m3) ∧
 ∃ r4, AS.mapGet H (.int .i64) m3 (.int .i64 x1) = some r4 ∧
 ∃ b5, got r4 (.bool false) (.bool b5) ∧
 bif (!b5) then (
 R (.slice none 0 0) H)
 else (
 AS.asAddr (.pointer x0) fun i6 i7 =>
 ∃ m8, H.cell i6 (i7 + 2) = some (.map m8) ∧
 dlM H (.int .i64) m8 (.int .i64 x1) fun H9 =>
 AS.asAddr (.pointer x0) fun i10 i11 =>
 ∃ a12 i13, H9.cell i10 (i11 + 3) = some (.slice a12 i13 0) ∧
 LA en L_grace_Grace_Leave_0 [(.pointer x0), (.int .i64 x1), undef, undef, (.slice none 0 0), undef, undef, (.pointer x0), (.pointer (some ⟨i1, i2, none⟩)), (.pointer (some ⟨i1, (i2 + 2), none⟩)), (.map m3), (.int .i64 x1), (.bool b5), (.bool false), (.pointer x0), (.pointer (some ⟨i6, i7, none⟩)), (.pointer (some ⟨i6, (i7 + 2), none⟩)), (.map m8), (.int .i64 x1), (.pointer x0), (.pointer (some ⟨i10, i11, none⟩)), (.pointer (some ⟨i10, (i11 + 3), none⟩)), (.slice a12 i13 0), (.int .i64 ((i13 : Nat) : Int)), (.int .i64 0), undef, undef, undef, undef, undef, undef, undef, undef, undef] H9 [(X.exit 0, fun (y14 : Fr) (H15 : Heap) =>
 CA en F.grace_Grace_sweep [(.pointer x0)] H15 fun v16 H17 =>
 ∃ a18 i19, v16 = (.slice a18 i19 0) ∧
 R (.slice a18 i19 0) H17)])) →
    CA en F.grace_Grace_Leave [(.pointer x0), (.int .i64 x1)] H R := by
  intro h
  refine wpFn_ok (Z := [[]]) (fn := Go.Proofs.Try.f15) ?_ ?_ ?_
  · kernel_rfl
  · kernel_rfl
  · apply turnInto h
    kernel_rfl

theorem use_grace_Grace_Leave_0 {t0 : Option Addr} {t1 : Int} {t7 : Option Addr} {t8 : Nat} {t8o : Nat} {t9 : Nat} {t9o : Nat} {t10 : Option Nat} {t11 : Int} {t12 : Bool} {t14 : Option Addr} {t15 : Nat} {t15o : Nat} {t16 : Nat} {t16o : Nat} {t17 : Option Nat} {t18 : Int} {t19 : Option Addr} {t20 : Nat} {t20o : Nat} {t21 : Nat} {t21o : Nat} {t22 : Option Addr} {t22l : Nat} {t23 : Int} {K0 : Fr → Heap → Prop} {t24 : Int} {t6 : Value} {t25 : Value} {t26 : Value} {t27 : Value} {t28 : Value} {t29 : Value} {t30 : Value} {t31 : Value} {H : Heap} (I : Nat → Int → Heap → Prop) (n : Nat) (h0 : I n t24 H)
    (hstep : ∀ (n : Nat) (t24 : Int) (ys : Fr) (H : Heap), I n t24 H →
    (
 bif (decide (t24 < t23)) then (
 inB t24 t22l ∧
 asRow t22 fun i1 i2 =>
 ∃ n3, ∃ m4, H.cellsAt i1 (i2 + (t24.toNat * 2)) 2 = some [(.int .i64 n3), (.map m4)] ∧
 nwH H (.cells true 0 [(.int .i64 0), (.map none)]) fun i5 H6 =>
 stc H6 i5 0 [(.int .i64 n3), (.map m4)] fun H7 =>
 ∃ m8, H7.cell i5 1 = some (.map m8) ∧
 dlM H7 (.int .i64) m8 (.int .i64 t1) fun H9 =>
 ∃ k10, k10 < n ∧
 I k10 (IntKind.i64.wrap (t24 + 1)) H9)
 else (
 K0 [(.pointer t0), (.int .i64 t1), undef, undef, (.slice none 0 0), undef, (ys.getD 6 undef), (.pointer t7), (.pointer (some ⟨t8, t8o, none⟩)), (.pointer (some ⟨t9, t9o, none⟩)), (.map t10), (.int .i64 t11), (.bool t12), (.bool false), (.pointer t14), (.pointer (some ⟨t15, t15o, none⟩)), (.pointer (some ⟨t16, t16o, none⟩)), (.map t17), (.int .i64 t18), (.pointer t19), (.pointer (some ⟨t20, t20o, none⟩)), (.pointer (some ⟨t21, t21o, none⟩)), (.slice t22 t22l 0), (.int .i64 t23), (.int .i64 t24), (.bool false), (ys.getD 26 undef), (ys.getD 27 undef), (ys.getD 28 undef), (ys.getD 29 undef), (ys.getD 30 undef), (ys.getD 31 undef), undef, undef] H))) :
    LA en L_grace_Grace_Leave_0 [(.pointer t0), (.int .i64 t1), undef, undef, (.slice none 0 0), undef, t6, (.pointer t7), (.pointer (some ⟨t8, t8o, none⟩)), (.pointer (some ⟨t9, t9o, none⟩)), (.map t10), (.int .i64 t11), (.bool t12), (.bool false), (.pointer t14), (.pointer (some ⟨t15, t15o, none⟩)), (.pointer (some ⟨t16, t16o, none⟩)), (.map t17), (.int .i64 t18), (.pointer t19), (.pointer (some ⟨t20, t20o, none⟩)), (.pointer (some ⟨t21, t21o, none⟩)), (.slice t22 t22l 0), (.int .i64 t23), (.int .i64 t24), t25, t26, t27, t28, t29, t30, t31, undef, undef] H [(X.exit 0, K0)] := by
  refine LA_rule (Z := []) (fun m xs H' => AS.asInt .i64 (xs.getD 24 undef) fun t24 => I m t24 H') ?_ n H ?_
  · intro n H
    suffices hs : ∀ s25 : Value, ∀ s26 : Value, ∀ s27 : Value, ∀ s6 : Value, ∀ s28 : Value, ∀ s29 : Value, ∀ s30 : Value, ∀ s31 : Value, ∀ s24 : Value, ((AS.asInt .i64 s24 fun t24 => I n t24 H) → wpCode en L_grace_Grace_Leave_0 [] [(.pointer t0), (.int .i64 t1), undef, undef, (.slice none 0 0), undef, s6, (.pointer t7), (.pointer (some ⟨t8, t8o, none⟩)), (.pointer (some ⟨t9, t9o, none⟩)), (.map t10), (.int .i64 t11), (.bool t12), (.bool false), (.pointer t14), (.pointer (some ⟨t15, t15o, none⟩)), (.pointer (some ⟨t16, t16o, none⟩)), (.map t17), (.int .i64 t18), (.pointer t19), (.pointer (some ⟨t20, t20o, none⟩)), (.pointer (some ⟨t21, t21o, none⟩)), (.slice t22 t22l 0), (.int .i64 t23), s24, s25, s26, s27, s28, s29, s30, s31, undef, undef] H (loopQ (fun m xs H' => AS.asInt .i64 (xs.getD 24 undef) fun t24 => I m t24 H') n [(X.exit 0, K0)])) by
      apply turnInto hs
      kernel_rfl
    intro s25 s26 s27 s6 s28 s29 s30 s31 s24 hP
    replace hP := asInt_elim hP
    obtain ⟨t24, rfl, hP⟩ := hP
    apply turnInto (hstep n t24 [(.pointer t0), (.int .i64 t1), undef, undef, (.slice none 0 0), undef, s6, (.pointer t7), (.pointer (some ⟨t8, t8o, none⟩)), (.pointer (some ⟨t9, t9o, none⟩)), (.map t10), (.int .i64 t11), (.bool t12), (.bool false), (.pointer t14), (.pointer (some ⟨t15, t15o, none⟩)), (.pointer (some ⟨t16, t16o, none⟩)), (.map t17), (.int .i64 t18), (.pointer t19), (.pointer (some ⟨t20, t20o, none⟩)), (.pointer (some ⟨t21, t21o, none⟩)), (.slice t22 t22l 0), (.int .i64 t23), (.int .i64 t24), s25, s26, s27, s28, s29, s30, s31, undef, undef] H hP)
    kernel_rfl
  · apply turnInto h0
    kernel_rfl


/-! grace_Grace_Enter -/

theorem vc_grace_Grace_Enter (x0 : Option Addr) (x1 : Int) (H : Heap) (R : Value → Heap → Prop) :
    (
 bif (decide (x1 < 0)) then (
 R (.bool false) H)
 else (
 AS.asAddr (.pointer x0) fun i1 i2 =>
 ∃ n3, H.cell i1 (i2 + 1) = some (.int .i64 n3) ∧
 bif (decide (x1 ≥ n3)) then (
 R (.bool false) H)
 else (
 AS.asAddr (.pointer x0) fun i4 i5 =>
 ∃ m6, H.cell i4 (i5 + 2) = some (.map m6) ∧
 ∃ r7, AS.mapGet H (.int .i64) m6 (.int .i64 x1) = some r7 ∧
 ∃ b8, got r7 (.bool false) (.bool b8) ∧
 bif b8 then (
 R (.bool false) H)
 else (
 AS.asAddr (.pointer x0) fun i9 i10 =>
 ∃ m11, H.cell i9 (i10 + 2) = some (.map m11) ∧
 upM H (.int .i64) m11 (.int .i64 x1) (.bool true) fun H12 =>
 R (.bool true) H12)))) →
    CA en F.grace_Grace_Enter [(.pointer x0), (.int .i64 x1)] H R := by
  intro h
  refine wpFn_ok (Z := []) (fn := Go.Proofs.Try.f16) ?_ ?_ ?_
  · kernel_rfl
  · kernel_rfl
  · apply turnInto h
    kernel_rfl


/-! grace_Grace_Defer -/

theorem vc_grace_Grace_Defer (x0 : Option Addr) (x1 : Int) (H : Heap) (R : Value → Heap → Prop) :
    (
 nwH H (.cells true 0 [(.int .i64 x1)]) fun i1 H2 =>
 AS.asAddr (.pointer x0) fun i3 i4 =>
 ∃ a5, (H2.bump 15).cell i3 i4 = some (.pointer a5) ∧
 ∃ n6, (H2.bump 15).cell i1 0 = some (.int .i64 n6) ∧
 CA en F.smem_Mem_Size [(.pointer a5), (.int .i64 n6)] (H2.bump 15) fun v7 H8 =>
 ∃ n9, v7 = (.int .i64 n9) ∧
 bif (n9 == 0) then (
 (
 R (.slice none 0 0) H8) ∧
 True)
 else (
 AS.asAddr (.pointer x0) fun i10 i11 =>
 ∃ a12 i13, H8.cell i10 (i11 + 3) = some (.slice a12 i13 0) ∧
 CA en F.slices_ContainsFunc_grace_wait_grace_wait [(.slice a12 i13 0), (.func (.func F.grace_Grace_Defer_1) #[] #[(.pointer (some ⟨i1, 0, none⟩))])] H8 fun v14 H15 =>
 ∃ b16, v14 = (.bool b16) ∧
 (
 bif b16 then (
 R (.slice none 0 0) H15)
 else (
 AS.asAddr (.pointer x0) fun i17 i18 =>
 ∃ a19 i20, (H15.bump 17).cell i17 (i18 + 3) = some (.slice a19 i20 0) ∧
 ∃ n21, (H15.bump 17).cell i1 0 = some (.int .i64 n21) ∧
 AS.asAddr (.pointer x0) fun i22 i23 =>
 ∃ m24, (H15.bump 17).cell i22 (i23 + 2) = some (.map m24) ∧
 CA en F.maps_Clone_map_intbool_int_bool [(.map m24)] (H15.bump 17) fun v25 H26 =>
 ∃ m27, v25 = (.map m27) ∧
 nwH H26 (.cells true 2 [(.int .i64 n21), (.map m27)]) fun i28 H29 =>
 ∃ l30, rowOf H29 2 (some ⟨i28, 0, none⟩) 1 = some l30 ∧
 apd H29 16 2 a19 i20 1 l30 fun a31 i32 H33 =>
 AS.asAddr (.pointer x0) fun i34 i35 =>
 stc H33 i34 (i35 + 3) [(.slice a31 i32 0)] fun H36 =>
 (
 CA en F.grace_Grace_sweep [(.pointer x0)] H36 fun v45 H46 =>
 ∃ a47 i48, v45 = (.slice a47 i48 0) ∧
 R (.slice a47 i48 0) H46) ∧
 ((∃ n38, (H15.bump 17).cell i1 0 = some (.int .i64 n38) ∧
 n21 = n38) ∧ (∃ n37, H26.cell i1 0 = some (.int .i64 n37) ∧
 n21 = n37) ∧ True) ∧
 ((∃ a43 i44, (H15.bump 17).cell i17 (i18 + 3) = some (.slice a43 i44 0) ∧
 (a19 = a43 ∧ i20 = i44 ∧ 0 = 0)) ∧ (∃ a41 i42, H26.cell i17 (i18 + 3) = some (.slice a41 i42 0) ∧
 (a19 = a41 ∧ i20 = i42 ∧ 0 = 0)) ∧ (∃ a39 i40, H29.cell i17 (i18 + 3) = some (.slice a39 i40 0) ∧
 (a19 = a39 ∧ i20 = i40 ∧ 0 = 0)) ∧ True) ∧
 True)) ∧
 True)) →
    CA en F.grace_Grace_Defer [(.pointer x0), (.int .i64 x1)] H R := by
  intro h
  refine wpFn_ok (Z := []) (fn := Go.Proofs.Try.f18) ?_ ?_ ?_
  · kernel_rfl
  · kernel_rfl
  · apply turnInto h
    kernel_rfl


/-! grace_Grace_Waits -/

theorem vc_grace_Grace_Waits (x0 : Option Addr) (H : Heap) (R : Value → Heap → Prop) :
    (
 AS.asAddr (.pointer x0) fun i1 i2 =>
 ∃ a3 i4, H.cell i1 (i2 + 3) = some (.slice a3 i4 0) ∧
 R (.int .i64 ((i4 : Nat) : Int)) H) →
    CA en F.grace_Grace_Waits [(.pointer x0)] H R := by
  intro h
  refine wpFn_ok (Z := []) (fn := Go.Proofs.Try.f20) ?_ ?_ ?_
  · kernel_rfl
  · kernel_rfl
  · apply turnInto h
    kernel_rfl


/-! grace_Grace_Inside -/

theorem vc_grace_Grace_Inside (x0 : Option Addr) (x1 : Int) (H : Heap) (R : Value → Heap → Prop) :
    (
 AS.asAddr (.pointer x0) fun i1 i2 =>
 ∃ m3, H.cell i1 (i2 + 2) = some (.map m3) ∧
 ∃ r4, AS.mapGet H (.int .i64) m3 (.int .i64 x1) = some r4 ∧
 ∃ b5, got r4 (.bool false) (.bool b5) ∧
 R (.bool b5) H) →
    CA en F.grace_Grace_Inside [(.pointer x0), (.int .i64 x1)] H R := by
  intro h
  refine wpFn_ok (Z := []) (fn := Go.Proofs.Try.f27) ?_ ?_ ?_
  · kernel_rfl
  · kernel_rfl
  · apply turnInto h
    kernel_rfl


/-! grace_Grace_sweep -/

theorem vc_grace_Grace_sweep (x0 : Option Addr) (H : Heap) (R : Value → Heap → Prop) :
    (
 nwH H (.cells true 0 [(.pointer x0)]) fun i1 H2 =>
 nwH H2 (.cells true 0 [(.slice none 0 0)]) fun i3 H4 =>
 ∃ a5, (H4.bump 10).cell i1 0 = some (.pointer a5) ∧
 ∃ a6, (H4.bump 10).cell i1 0 = some (.pointer a6) ∧
 AS.asAddr (.pointer a6) fun i7 i8 =>
 ∃ a9 i10, (H4.bump 10).cell i7 (i8 + 3) = some (.slice a9 i10 0) ∧
 CA en F.slices_DeleteFunc_grace_wait_grace_wait [(.slice a9 i10 0), (.func (.func F.grace_Grace_sweep_1) #[] #[(.pointer (some ⟨i1, 0, none⟩)), (.pointer (some ⟨i3, 0, none⟩))])] (H4.bump 10) fun v11 H12 =>
 ∃ a13 i14, v11 = (.slice a13 i14 0) ∧
 AS.asAddr (.pointer a5) fun i15 i16 =>
 stc H12 i15 (i16 + 3) [(.slice a13 i14 0)] fun H17 =>
 (
 ∃ a20 i21, H17.cell i3 0 = some (.slice a20 i21 0) ∧
 stc H17 i3 0 [(.slice a20 i21 0)] fun H22 =>
 ∃ a23 i24, H22.cell i3 0 = some (.slice a23 i24 0) ∧
 R (.slice a23 i24 0) H22) ∧
 ((∃ a19, (H4.bump 10).cell i1 0 = some (.pointer a19) ∧
 a5 = a19) ∧ (∃ a18, H12.cell i1 0 = some (.pointer a18) ∧
 a5 = a18) ∧ True) ∧
 True) →
    CA en F.grace_Grace_sweep [(.pointer x0)] H R := by
  intro h
  refine wpFn_ok (Z := []) (fn := Go.Proofs.Try.f53) ?_ ?_ ?_
  · kernel_rfl
  · kernel_rfl
  · apply turnInto h
    kernel_rfl


/-! grace_Grace_Defer_1 -/

theorem vc_grace_Grace_Defer_1 (x0_0 : Int) (x0_1 : Option Nat) (c0 : Option Addr) (H : Heap) (R : Value → Heap → Prop) :
    (
 nwH H (.cells true 0 [(.int .i64 x0_0), (.map x0_1)]) fun i1 H2 =>
 ∃ n3, H2.cell i1 0 = some (.int .i64 n3) ∧
 AS.asAddr (.pointer c0) fun i4 i5 =>
 ∃ n6, H2.cell i4 i5 = some (.int .i64 n6) ∧
 R (.bool (n3 == n6)) H2) →
    CA en F.grace_Grace_Defer_1 [(.agg #[(.int .i64 x0_0), (.map x0_1)]), (.pointer c0)] H R := by
  intro h
  refine wpFn_ok (Z := []) (fn := Go.Proofs.Try.f55) ?_ ?_ ?_
  · kernel_rfl
  · kernel_rfl
  · apply turnInto h
    kernel_rfl


/-! grace_Grace_sweep_1 -/

theorem vc_grace_Grace_sweep_1 (x0_0 : Int) (x0_1 : Option Nat) (c0 : Option Addr) (c1 : Option Addr) (H : Heap) (R : Value → Heap → Prop) :
    (
 nwH H (.cells true 0 [(.int .i64 x0_0), (.map x0_1)]) fun i1 H2 =>
 ∃ m3, H2.cell i1 1 = some (.map m3) ∧
 lnM H2 m3 fun n4 =>
 bif (decide (n4 > 0)) then (
 R (.bool false) H2)
 else (
 AS.asAddr (.pointer c0) fun i5 i6 =>
 ∃ a7, (H2.bump 7).cell i5 i6 = some (.pointer a7) ∧
 AS.asAddr (.pointer a7) fun i8 i9 =>
 ∃ a10, (H2.bump 7).cell i8 i9 = some (.pointer a10) ∧
 ∃ n11, (H2.bump 7).cell i1 0 = some (.int .i64 n11) ∧
 CA en F.smem_Mem_Free [(.pointer a10), (.int .i64 n11)] (H2.bump 7) fun v12 H13 =>
 ∃ b14, v12 = (.bool b14) ∧
 (
 AS.asAddr (.pointer c1) fun i15 i16 =>
 ∃ a17 i18, H13.cell i15 i16 = some (.slice a17 i18 0) ∧
 ∃ n19, H13.cell i1 0 = some (.int .i64 n19) ∧
 nwH H13 (.cells true 1 [(.int .i64 n19)]) fun i20 H21 =>
 ∃ l22, rowOf H21 1 (some ⟨i20, 0, none⟩) 1 = some l22 ∧
 apd H21 8 1 a17 i18 1 l22 fun a23 i24 H25 =>
 AS.asAddr (.pointer c1) fun i26 i27 =>
 stc H25 i26 i27 [(.slice a23 i24 0)] fun H28 =>
 R (.bool true) H28) ∧
 True)) →
    CA en F.grace_Grace_sweep_1 [(.agg #[(.int .i64 x0_0), (.map x0_1)]), (.pointer c0), (.pointer c1)] H R := by
  intro h
  refine wpFn_ok (Z := []) (fn := Go.Proofs.Try.f77) ?_ ?_ ?_
  · kernel_rfl
  · kernel_rfl
  · apply turnInto h
    kernel_rfl


/-! slices_ContainsFunc_grace_wait_grace_wait -/

theorem vc_slices_ContainsFunc_grace_wait_grace_wait (x0 : Option Addr) (x0l : Nat) (x1 : Value) (H : Heap) (R : Value → Heap → Prop) :
    (
 CA en F.slices_IndexFunc_grace_wait_grace_wait [(.slice x0 x0l 0), x1] H fun v1 H2 =>
 ∃ n3, v1 = (.int .i64 n3) ∧
 R (.bool (decide (n3 ≥ 0))) H2) →
    CA en F.slices_ContainsFunc_grace_wait_grace_wait [(.slice x0 x0l 0), x1] H R := by
  intro h
  refine wpFn_ok (Z := []) (fn := Go.Proofs.Try.f54) ?_ ?_ ?_
  · kernel_rfl
  · kernel_rfl
  · apply turnInto h
    kernel_rfl


/-! slices_DeleteFunc_grace_wait_grace_wait -/
noncomputable def L_slices_DeleteFunc_grace_wait_grace_wait_0 : Code := loopAt Go.Proofs.Try.f76 0

theorem vc_slices_DeleteFunc_grace_wait_grace_wait (x0 : Option Addr) (x0l : Nat) (x1 : Value) (H : Heap) (R : Value → Heap → Prop) :
    (
 CA en F.slices_IndexFunc_grace_wait_grace_wait [(.slice x0 x0l 0), x1] H fun v1 H2 =>
 ∃ n3, v1 = (.int .i64 n3) ∧
 bif (n3 == (-1)) then (
 R (.slice x0 x0l 0) H2)
 else (
 LA en L_slices_DeleteFunc_grace_wait_grace_wait_0 [(.slice x0 x0l 0), x1, undef, undef, (.slice none 0 0), (.int .i64 n3), (.int .i64 (IntKind.i64.wrap (n3 + 1))), undef, (.slice x0 x0l 0), x1, (.int .i64 n3), (.int .i64 n3), (.bool false), undef, (.int .i64 n3), (.int .i64 (IntKind.i64.wrap (n3 + 1))), undef, undef, undef, undef, undef, undef, undef, undef, undef, undef, undef, undef, undef, undef, undef, undef, undef, undef, undef, undef, undef, undef, undef, undef, undef, undef] H2 [(X.exit 0, fun (y4 : Fr) (H5 : Heap) =>
 AS.asInt .i64 (y4.getD 5 undef) fun n6 =>
 inS n6 x0l ∧
 slK H5 x0 2 n6.toNat (x0l - n6.toNat) fun v7 =>
 asSome (clearA en H5 76 v7) fun H8 =>
 inS n6 x0l ∧
 slK H8 x0 2 0 n6.toNat fun v9 =>
 R v9 H8)])) →
    CA en F.slices_DeleteFunc_grace_wait_grace_wait [(.slice x0 x0l 0), x1] H R := by
  intro h
  refine wpFn_ok (Z := [[(5, (.int .i64 0))]]) (fn := Go.Proofs.Try.f76) ?_ ?_ ?_
  · kernel_rfl
  · kernel_rfl
  · apply turnInto h
    kernel_rfl

theorem use_slices_DeleteFunc_grace_wait_grace_wait_0 {t0 : Option Addr} {t0l : Nat} {t1 : Value} {t8 : Option Addr} {t8l : Nat} {t9 : Value} {t10 : Int} {t11 : Int} {t14 : Int} {t15 : Int} {K0 : Fr → Heap → Prop} {t5 : Int} {t6 : Int} {t7 : Value} {t16 : Value} {t17 : Value} {t18 : Value} {t19 : Value} {t20 : Value} {t21 : Value} {t22 : Value} {t23 : Value} {t24 : Value} {t25 : Value} {t26 : Value} {t27 : Value} {t28 : Value} {t29 : Value} {t30 : Value} {t31 : Value} {t32 : Value} {t33 : Value} {t34 : Value} {t35 : Value} {H : Heap} (I : Nat → Int → Int → Heap → Prop) (n : Nat) (h0 : I n t5 t6 H)
    (hstep : ∀ (n : Nat) (t5 : Int) (t6 : Int) (ys : Fr) (H : Heap), I n t5 t6 H →
    (
 bif (decide (t6 < ((t0l : Nat) : Int))) then (
 inB t6 t0l ∧
 asRow t0 fun i1 i2 =>
 ∃ n3, ∃ m4, H.cellsAt i1 (i2 + (t6.toNat * 2)) 2 = some [(.int .i64 n3), (.map m4)] ∧
 nwH H (.cells true 0 [(.int .i64 0), (.map none)]) fun i5 H6 =>
 stc H6 i5 0 [(.int .i64 n3), (.map m4)] fun H7 =>
 ∃ n8, ∃ m9, H7.cellsAt i5 0 2 = some [(.int .i64 n8), (.map m9)] ∧
 AS.asFn t1 fun f10 l11 l12 =>
 (∃ fn, en.fn f10 = some fn) ∧
 CA en f10 (l11 ++ [(.agg #[(.int .i64 n8), (.map m9)])] ++ l12) H7 fun v13 H14 =>
 ∃ b15, v13 = (.bool b15) ∧
 bif (!b15) then (
 ∃ n16, ∃ m17, H14.cellsAt i5 0 2 = some [(.int .i64 n16), (.map m17)] ∧
 inB t5 t0l ∧
 asRow t0 fun i18 i19 =>
 stc H14 i18 (i19 + (t5.toNat * 2)) [(.int .i64 n16), (.map m17)] fun H20 =>
 ∃ k21, k21 < n ∧
 I k21 (IntKind.i64.wrap (t5 + 1)) (IntKind.i64.wrap (t6 + 1)) H20)
 else (
 ∃ k22, k22 < n ∧
 I k22 t5 (IntKind.i64.wrap (t6 + 1)) H14))
 else (
 K0 [(.slice t0 t0l 0), t1, undef, undef, (.slice none 0 0), (.int .i64 t5), (.int .i64 t6), (ys.getD 7 undef), (.slice t8 t8l 0), t9, (.int .i64 t10), (.int .i64 t11), (.bool false), undef, (.int .i64 t14), (.int .i64 t15), (.int .i64 t6), (.slice t0 t0l 0), (.int .i64 ((t0l : Nat) : Int)), (.bool false), (ys.getD 20 undef), (ys.getD 21 undef), (ys.getD 22 undef), (ys.getD 23 undef), (ys.getD 24 undef), (ys.getD 25 undef), (ys.getD 26 undef), (ys.getD 27 undef), (ys.getD 28 undef), (ys.getD 29 undef), (ys.getD 30 undef), (ys.getD 31 undef), (ys.getD 32 undef), (ys.getD 33 undef), (ys.getD 34 undef), (ys.getD 35 undef), undef, undef, undef, undef, undef, undef] H))) :
    LA en L_slices_DeleteFunc_grace_wait_grace_wait_0 [(.slice t0 t0l 0), t1, undef, undef, (.slice none 0 0), (.int .i64 t5), (.int .i64 t6), t7, (.slice t8 t8l 0), t9, (.int .i64 t10), (.int .i64 t11), (.bool false), undef, (.int .i64 t14), (.int .i64 t15), t16, t17, t18, t19, t20, t21, t22, t23, t24, t25, t26, t27, t28, t29, t30, t31, t32, t33, t34, t35, undef, undef, undef, undef, undef, undef] H [(X.exit 0, K0)] := by
  refine LA_rule (Z := []) (fun m xs H' => AS.asInt .i64 (xs.getD 5 undef) fun t5 => AS.asInt .i64 (xs.getD 6 undef) fun t6 => I m t5 t6 H') ?_ n H ?_
  · intro n H
    suffices hs : ∀ s16 : Value, ∀ s17 : Value, ∀ s18 : Value, ∀ s19 : Value, ∀ s22 : Value, ∀ s23 : Value, ∀ s24 : Value, ∀ s25 : Value, ∀ s7 : Value, ∀ s26 : Value, ∀ s27 : Value, ∀ s28 : Value, ∀ s29 : Value, ∀ s30 : Value, ∀ s31 : Value, ∀ s32 : Value, ∀ s33 : Value, ∀ s34 : Value, ∀ s35 : Value, ∀ s5 : Value, ∀ s20 : Value, ∀ s21 : Value, ∀ s6 : Value, ((AS.asInt .i64 s5 fun t5 => AS.asInt .i64 s6 fun t6 => I n t5 t6 H) → wpCode en L_slices_DeleteFunc_grace_wait_grace_wait_0 [] [(.slice t0 t0l 0), t1, undef, undef, (.slice none 0 0), s5, s6, s7, (.slice t8 t8l 0), t9, (.int .i64 t10), (.int .i64 t11), (.bool false), undef, (.int .i64 t14), (.int .i64 t15), s16, s17, s18, s19, s20, s21, s22, s23, s24, s25, s26, s27, s28, s29, s30, s31, s32, s33, s34, s35, undef, undef, undef, undef, undef, undef] H (loopQ (fun m xs H' => AS.asInt .i64 (xs.getD 5 undef) fun t5 => AS.asInt .i64 (xs.getD 6 undef) fun t6 => I m t5 t6 H') n [(X.exit 0, K0)])) by
      apply turnInto hs
      kernel_rfl
    intro s16 s17 s18 s19 s22 s23 s24 s25 s7 s26 s27 s28 s29 s30 s31 s32 s33 s34 s35 s5 s20 s21 s6 hP
    replace hP := asInt_elim hP
    obtain ⟨t5, rfl, hP⟩ := hP
    replace hP := asInt_elim hP
    obtain ⟨t6, rfl, hP⟩ := hP
    apply turnInto (hstep n t5 t6 [(.slice t0 t0l 0), t1, undef, undef, (.slice none 0 0), (.int .i64 t5), (.int .i64 t6), s7, (.slice t8 t8l 0), t9, (.int .i64 t10), (.int .i64 t11), (.bool false), undef, (.int .i64 t14), (.int .i64 t15), s16, s17, s18, s19, s20, s21, s22, s23, s24, s25, s26, s27, s28, s29, s30, s31, s32, s33, s34, s35, undef, undef, undef, undef, undef, undef] H hP)
    kernel_rfl
  · apply turnInto h0
    kernel_rfl


/-! slices_IndexFunc_grace_wait_grace_wait -/
noncomputable def L_slices_IndexFunc_grace_wait_grace_wait_0 : Code := loopAt Go.Proofs.Try.f78 0

theorem vc_slices_IndexFunc_grace_wait_grace_wait (x0 : Option Addr) (x0l : Nat) (x1 : Value) (H : Heap) (R : Value → Heap → Prop) :
    (
 LA en L_slices_IndexFunc_grace_wait_grace_wait_0 [(.slice x0 x0l 0), x1, undef, undef, (.int .i64 0), undef, (.slice x0 x0l 0), (.int .i64 ((x0l : Nat) : Int)), (.int .i64 0), undef, undef, undef, undef, undef, undef, undef, undef, undef, undef] H [(X.exit 0, fun (y1 : Fr) (H2 : Heap) =>
 AS.asInt .i64 (y1.getD 4 undef) fun n3 =>
 R (.int .i64 (-1)) H2),
 (X.ret, fun (y4 : Fr) (H5 : Heap) =>
 AS.asInt .i64 (y4.getD 4 undef) fun n6 =>
 R (.int .i64 n6) H5)]) →
    CA en F.slices_IndexFunc_grace_wait_grace_wait [(.slice x0 x0l 0), x1] H R := by
  intro h
  refine wpFn_ok (Z := [[(4, (.int .i64 0))]]) (fn := Go.Proofs.Try.f78) ?_ ?_ ?_
  · kernel_rfl
  · kernel_rfl
  · apply turnInto h
    kernel_rfl

theorem use_slices_IndexFunc_grace_wait_grace_wait_0 {t0 : Option Addr} {t0l : Nat} {t1 : Value} {t6 : Option Addr} {t6l : Nat} {t7 : Int} {K0 : Fr → Heap → Prop} {K1 : Fr → Heap → Prop} {t4 : Int} {t8 : Int} {t5 : Value} {t9 : Value} {t10 : Value} {t11 : Value} {t12 : Value} {t13 : Value} {t14 : Value} {t15 : Value} {t16 : Value} {t17 : Value} {t18 : Value} {H : Heap} (I : Nat → Int → Int → Heap → Prop) (n : Nat) (h0 : I n t4 t8 H)
    (hstep : ∀ (n : Nat) (t4 : Int) (t8 : Int) (ys : Fr) (H : Heap), I n t4 t8 H →
    (
 bif (decide (t8 < t7)) then (
 inB t8 t0l ∧
 asRow t0 fun i1 i2 =>
 ∃ n3, ∃ m4, H.cellsAt i1 (i2 + (t8.toNat * 2)) 2 = some [(.int .i64 n3), (.map m4)] ∧
 AS.asFn t1 fun f5 l6 l7 =>
 (∃ fn, en.fn f5 = some fn) ∧
 CA en f5 (l6 ++ [(.agg #[(.int .i64 n3), (.map m4)])] ++ l7) H fun v8 H9 =>
 ∃ b10, v8 = (.bool b10) ∧
 bif b10 then (
 K1 [(.slice t0 t0l 0), t1, undef, undef, (.int .i64 t8), (.int .i64 t8), (.slice t6 t6l 0), (.int .i64 t7), (.int .i64 t8), (.bool true), (.int .i64 t8), t1, (.slice t0 t0l 0), (.int .i64 t8), (.pointer (some ⟨i1, (i2 + (t8.toNat * 2)), none⟩)), (.agg #[(.int .i64 n3), (.map m4)]), (.bool true), (.int .i64 t8), (ys.getD 18 undef)] H9)
 else (
 ∃ k11, k11 < n ∧
 I k11 t4 (IntKind.i64.wrap (t8 + 1)) H9))
 else (
 K0 [(.slice t0 t0l 0), t1, undef, undef, (.int .i64 t4), (ys.getD 5 undef), (.slice t6 t6l 0), (.int .i64 t7), (.int .i64 t8), (.bool false), (ys.getD 10 undef), (ys.getD 11 undef), (ys.getD 12 undef), (ys.getD 13 undef), (ys.getD 14 undef), (ys.getD 15 undef), (ys.getD 16 undef), (ys.getD 17 undef), (ys.getD 18 undef)] H))) :
    LA en L_slices_IndexFunc_grace_wait_grace_wait_0 [(.slice t0 t0l 0), t1, undef, undef, (.int .i64 t4), t5, (.slice t6 t6l 0), (.int .i64 t7), (.int .i64 t8), t9, t10, t11, t12, t13, t14, t15, t16, t17, t18] H [(X.exit 0, K0), (X.ret, K1)] := by
  refine LA_rule (Z := []) (fun m xs H' => AS.asInt .i64 (xs.getD 4 undef) fun t4 => AS.asInt .i64 (xs.getD 8 undef) fun t8 => I m t4 t8 H') ?_ n H ?_
  · intro n H
    suffices hs : ∀ s9 : Value, ∀ s10 : Value, ∀ s5 : Value, ∀ s11 : Value, ∀ s12 : Value, ∀ s13 : Value, ∀ s14 : Value, ∀ s15 : Value, ∀ s16 : Value, ∀ s17 : Value, ∀ s4 : Value, ∀ s18 : Value, ∀ s8 : Value, ((AS.asInt .i64 s4 fun t4 => AS.asInt .i64 s8 fun t8 => I n t4 t8 H) → wpCode en L_slices_IndexFunc_grace_wait_grace_wait_0 [] [(.slice t0 t0l 0), t1, undef, undef, s4, s5, (.slice t6 t6l 0), (.int .i64 t7), s8, s9, s10, s11, s12, s13, s14, s15, s16, s17, s18] H (loopQ (fun m xs H' => AS.asInt .i64 (xs.getD 4 undef) fun t4 => AS.asInt .i64 (xs.getD 8 undef) fun t8 => I m t4 t8 H') n [(X.exit 0, K0), (X.ret, K1)])) by
      apply turnInto hs
      kernel_rfl
    intro s9 s10 s5 s11 s12 s13 s14 s15 s16 s17 s4 s18 s8 hP
    replace hP := asInt_elim hP
    obtain ⟨t4, rfl, hP⟩ := hP
    replace hP := asInt_elim hP
    obtain ⟨t8, rfl, hP⟩ := hP
    apply turnInto (hstep n t4 t8 [(.slice t0 t0l 0), t1, undef, undef, (.int .i64 t4), s5, (.slice t6 t6l 0), (.int .i64 t7), (.int .i64 t8), s9, s10, s11, s12, s13, s14, s15, s16, s17, s18] H hP)
    kernel_rfl
  · apply turnInto h0
    kernel_rfl


/-! maps_Clone_map_intbool_int_bool -/

theorem vc_maps_Clone_map_intbool_int_bool (x0 : Option Nat) (H : Heap) (R : Value → Heap → Prop) :
    (
 bif x0.isNone then (
 R (.map none) H)
 else (
 clM H x0 fun i1 H2 =>
 R (.map (some i1)) H2)) →
    CA en F.maps_Clone_map_intbool_int_bool [(.map x0)] H R := by
  intro h
  refine wpFn_ok (Z := []) (fn := Go.Proofs.Try.f56) ?_ ?_ ?_
  · kernel_rfl
  · kernel_rfl
  · apply turnInto h
    kernel_rfl

end Go.Proofs.Ytdkbgjhlpoibdaa
