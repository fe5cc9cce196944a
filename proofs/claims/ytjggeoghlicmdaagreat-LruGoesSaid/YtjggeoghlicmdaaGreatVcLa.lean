/-
  What functions of this seat's program need (printed by a program, checked by the kernel).
-/
import Derived.Test.YtjggeoghlicmdaaGreatNames
import Derived.Test.YtjggeoghlicmdaaGreatAs41
namespace Go.Proofs.YtjggeoghlicmdaaGreat
open Go Go.AS Go.RowKit
set_option linter.unusedVariables false
set_option maxRecDepth 100000
set_option maxHeartbeats 2000000

/-! crossbarlaw16_made -/

theorem vc_crossbarlaw16_made (x0 : Int) (x1 : Int) (H : Heap) (R : Value → Heap → Prop) :
    (
 nwH H (.cells true 0 [(.pointer none), (.pointer none), (.pointer none)]) fun i1 H2 =>
 CA en F.smem_New [(.int .i64 x1)] H2 fun v3 H4 =>
 ∃ a5, v3 = (.pointer a5) ∧
 bif a5.isNone then (
 stc H4 i1 0 [(.pointer none), (.pointer none), (.pointer none)] fun H6 =>
 ∃ a7, ∃ a8, ∃ a9, H6.cellsAt i1 0 3 = some [(.pointer a7), (.pointer a8), (.pointer a9)] ∧
 R (.tuple #[(.agg #[(.pointer a7), (.pointer a8), (.pointer a9)]), (.bool false)]) H6)
 else (
 CA en F.grace_New [(.int .i64 2), (.pointer a5)] H4 fun v10 H11 =>
 ∃ a12, v10 = (.pointer a12) ∧
 bif a12.isNone then (
 stc H11 i1 0 [(.pointer none), (.pointer none), (.pointer none)] fun H13 =>
 ∃ a14, ∃ a15, ∃ a16, H13.cellsAt i1 0 3 = some [(.pointer a14), (.pointer a15), (.pointer a16)] ∧
 R (.tuple #[(.agg #[(.pointer a14), (.pointer a15), (.pointer a16)]), (.bool false)]) H13)
 else (
 CA en F.lru_New [(.pointer a5), (.pointer a12), (.agg #[(.int .i64 5), (.int .i64 x0), (.int .i64 1), (.int .i64 0), (.int .i64 0)]), (.int .i64 1)] H11 fun v17 H18 =>
 ∃ a19, ∃ n20, v17 = (.tuple #[(.pointer a19), (.int .i64 n20)]) ∧
 bif (n20 == 0) then (
 stc H18 i1 0 [(.pointer a5), (.pointer a12), (.pointer a19)] fun H21 =>
 ∃ a22, ∃ a23, ∃ a24, H21.cellsAt i1 0 3 = some [(.pointer a22), (.pointer a23), (.pointer a24)] ∧
 R (.tuple #[(.agg #[(.pointer a22), (.pointer a23), (.pointer a24)]), (.bool (!a19.isNone))]) H21)
 else (
 stc H18 i1 0 [(.pointer a5), (.pointer a12), (.pointer a19)] fun H25 =>
 ∃ a26, ∃ a27, ∃ a28, H25.cellsAt i1 0 3 = some [(.pointer a26), (.pointer a27), (.pointer a28)] ∧
 R (.tuple #[(.agg #[(.pointer a26), (.pointer a27), (.pointer a28)]), (.bool false)]) H25)))) →
    CA en F.crossbarlaw16_made [(.int .i64 x0), (.int .i64 x1)] H R := by
  intro h
  refine wpFn_ok (Z := []) (fn := Go.Proofs.Tryz.f13) ?_ ?_ ?_
  · kernel_rfl
  · kernel_rfl
  · apply turnInto h
    kernel_rfl


/-! crossbarlaw16_one_alone -/
noncomputable def L_crossbarlaw16_one_alone_0 : Code := loopAt Go.Proofs.Tryz.f14 0

theorem vc_crossbarlaw16_one_alone (x0_0 : Option Addr) (x0_1 : Option Addr) (x0_2 : Option Addr) (x1 : Int) (x2 : Int) (x3 : Int) (x4 : Int) (H : Heap) (R : Value → Heap → Prop) :
    (
 nwH H (.cells true 0 [(.pointer x0_0), (.pointer x0_1), (.pointer x0_2)]) fun i1 H2 =>
 nwH H2 (.cells true 0 [(.int .i64 0), (.slice none 0 0), (.int .u64 0), (.int .i64 0)]) fun i3 H4 =>
 ∃ a5, H4.cell i1 1 = some (.pointer a5) ∧
 CA en F.grace_Grace_Enter [(.pointer a5), (.int .i64 0)] H4 fun v6 H7 =>
 ∃ b8, v6 = (.bool b8) ∧
 nwH H7 (.cells true 0 [(.int .i64 0), (.int .u64 0), (.slice none 0 0), (.int .i64 0), (.int .i64 0)]) fun i9 H10 =>
 stc H10 i9 0 [(.int .i64 x1), (.int .u64 x2), (.slice none 0 0), (.int .i64 x4), (.int .i64 0)] fun H11 =>
 ∃ J12 : List Value → Heap → Prop, (
 bif (x1 == 2) then (
 nwH H11 (.cells true 1 [(.int .u64 x3)]) fun i13 H14 =>
 stc H14 i9 2 [(.slice (some ⟨i13, 0, none⟩) 1 0)] fun H15 =>
 J12 [] H15)
 else (
 J12 [] H11)) ∧
 ∀ (ys16 : Fr) (H17 : Heap), J12 [] H17 →
 ∃ a18, H17.cell i1 2 = some (.pointer a18) ∧
 ∃ n19, ∃ n20, ∃ a21 i22, ∃ n23, ∃ n24, H17.cellsAt i9 0 5 = some [(.int .i64 n19), (.int .u64 n20), (.slice a21 i22 0), (.int .i64 n23), (.int .i64 n24)] ∧
 CA en F.lru_Map_Begin [(.pointer a18), (.agg #[(.int .i64 n19), (.int .u64 n20), (.slice a21 i22 0), (.int .i64 n23), (.int .i64 n24)])] H17 fun v25 H26 =>
 ∃ a27, v25 = (.pointer a27) ∧
 bif a27.isNone then (
 stc H26 i3 0 [(.int .i64 0), (.slice none 0 0), (.int .u64 0), (.int .i64 0)] fun H28 =>
 ∃ n29, ∃ a30 i31, ∃ n32, ∃ n33, H28.cellsAt i3 0 4 = some [(.int .i64 n29), (.slice a30 i31 0), (.int .u64 n32), (.int .i64 n33)] ∧
 R (.tuple #[(.agg #[(.int .i64 n29), (.slice a30 i31 0), (.int .u64 n32), (.int .i64 n33)]), (.int .i64 (-1))]) H28)
 else (
 LA en L_crossbarlaw16_one_alone_0 [(.agg #[(.pointer x0_0), (.pointer x0_1), (.pointer x0_2)]), (.int .i64 x1), (.int .u64 x2), (.int .u64 x3), (.int .i64 x4), (.pointer (some ⟨i1, 0, none⟩)), undef, undef, undef, undef, (.pointer (some ⟨i3, 0, none⟩)), (.int .i64 0), (.bool b8), (.pointer (some ⟨i9, 0, none⟩)), (.pointer a27), (.int .i64 0), (.int .i64 1), undef, undef, (.pointer (some ⟨i1, 1, none⟩)), (.pointer a5), (.bool b8), (.int .i64 x1), (.int .u64 x2), (.int .i64 x4), (.agg #[(.int .i64 x1), (.int .u64 x2), (.slice none 0 0), (.int .i64 x4), (.int .i64 0)]), (ys16.getD 26 undef), (ys16.getD 27 undef), (ys16.getD 28 undef), (ys16.getD 29 undef), (ys16.getD 30 undef), (.pointer (some ⟨i1, 2, none⟩)), (.pointer a18), (.agg #[(.int .i64 n19), (.int .u64 n20), (.slice a21 i22 0), (.int .i64 n23), (.int .i64 n24)]), (.pointer a27), (.pointer a27), (.bool false), undef, undef, undef, undef, undef, undef, undef, undef, undef, undef, undef, undef, undef, undef, undef, undef, undef, undef, undef, undef, undef, undef, undef, undef, undef] H26 [(X.exit 0, fun (y34 : Fr) (H35 : Heap) =>
 AS.asInt .i64 (y34.getD 11 undef) fun n36 =>
 stc H35 i3 0 [(.int .i64 0), (.slice none 0 0), (.int .u64 0), (.int .i64 0)] fun H37 =>
 ∃ n38, ∃ a39 i40, ∃ n41, ∃ n42, H37.cellsAt i3 0 4 = some [(.int .i64 n38), (.slice a39 i40 0), (.int .u64 n41), (.int .i64 n42)] ∧
 R (.tuple #[(.agg #[(.int .i64 n38), (.slice a39 i40 0), (.int .u64 n41), (.int .i64 n42)]), (.int .i64 (-1))]) H37),
 (X.ret, fun (y43 : Fr) (H44 : Heap) =>
 AS.asInt .i64 (y43.getD 11 undef) fun n45 =>
 ∃ n46, ∃ a47 i48, ∃ n49, ∃ n50, H44.cellsAt i3 0 4 = some [(.int .i64 n46), (.slice a47 i48 0), (.int .u64 n49), (.int .i64 n50)] ∧
 R (.tuple #[(.agg #[(.int .i64 n46), (.slice a47 i48 0), (.int .u64 n49), (.int .i64 n50)]), (.int .i64 n45)]) H44)])) →
    CA en F.crossbarlaw16_one_alone [(.agg #[(.pointer x0_0), (.pointer x0_1), (.pointer x0_2)]), (.int .i64 x1), (.int .u64 x2), (.int .u64 x3), (.int .i64 x4)] H R := by
  intro h
  refine wpFnC_ok (C := [none, none, none, some [], none, none, none, none, none, none, none, none, none]) (Z := [[(11, (.int .i64 0))]]) (fn := Go.Proofs.Tryz.f14) ?_ ?_ ?_
  · kernel_rfl
  · kernel_rfl
  · apply turnInto h
    kernel_rfl

theorem use_crossbarlaw16_one_alone_0 {t0_0 : Option Addr} {t0_1 : Option Addr} {t0_2 : Option Addr} {t1 : Int} {t2 : Int} {t3 : Int} {t4 : Int} {t5 : Nat} {t10 : Nat} {t12 : Bool} {t13 : Nat} {t14 : Option Addr} {t19 : Nat} {t20 : Option Addr} {t21 : Bool} {t22 : Int} {t23 : Int} {t24 : Int} {t25_0 : Int} {t25_1 : Int} {t25_3 : Int} {t26 : Value} {t27 : Value} {t28 : Value} {t29 : Value} {t30 : Value} {t31 : Nat} {t32 : Option Addr} {t33_0 : Int} {t33_1 : Int} {t33_2 : Option Addr} {t33_2l : Nat} {t33_3 : Int} {t33_4 : Int} {t34 : Option Addr} {t35 : Option Addr} {K0 : Fr → Heap → Prop} {K1 : Fr → Heap → Prop} {t11 : Int} {t15 : Int} {t16 : Int} {t17 : Value} {t18 : Value} {t38 : Value} {t39 : Value} {t40 : Value} {t41 : Value} {t42 : Value} {t43 : Value} {t44 : Value} {t45 : Value} {t46 : Value} {t47 : Value} {t48 : Value} {t49 : Value} {t50 : Value} {t51 : Value} {t52 : Value} {t53 : Value} {t54 : Value} {t55 : Value} {t56 : Value} {t57 : Value} {t58 : Value} {t59 : Value} {t60 : Value} {H : Heap} (I : Nat → Int → Int → Int → Heap → Prop) (n : Nat) (h0 : I n t11 t15 t16 H)
    (hstep : ∀ (n : Nat) (t11 : Int) (t15 : Int) (t16 : Int) (ys : Fr) (H : Heap), I n t11 t15 t16 H →
    (
 bif (decide (t16 < 1000)) then (
 CA en F.lru_Run_Step [(.pointer t14)] H fun v1 H2 =>
 ∃ b3, ∃ b4, v1 = (.tuple #[(.bool b3), (.bool b4)]) ∧
 bif b3 then (
 bif b4 then (
 bif t12 then (
 ∃ a5, H2.cell t5 1 = some (.pointer a5) ∧
 CA en F.grace_Grace_Leave [(.pointer a5), (.int .i64 0)] H2 fun v6 H7 =>
 ∃ a8 i9, v6 = (.slice a8 i9 0) ∧
 bif ((IntKind.i64.wrap (t15 + 1)) != 1) then (
 stc H7 t10 0 [(.int .i64 0), (.slice none 0 0), (.int .u64 0), (.int .i64 0)] fun H10 =>
 K1 [(.agg #[(.pointer t0_0), (.pointer t0_1), (.pointer t0_2)]), (.int .i64 t1), (.int .u64 t2), (.int .u64 t3), (.int .i64 t4), (.pointer (some ⟨t5, 0, none⟩)), undef, undef, undef, undef, (.pointer (some ⟨t10, 0, none⟩)), (.int .i64 (-1)), (.bool t12), (.pointer (some ⟨t13, 0, none⟩)), (.pointer t14), (.int .i64 (IntKind.i64.wrap (t15 + 1))), (.int .i64 t16), (.bool b3), (.bool b4), (.pointer (some ⟨t19, 1, none⟩)), (.pointer t20), (.bool t21), (.int .i64 t22), (.int .u64 t23), (.int .i64 t24), (.agg #[(.int .i64 t25_0), (.int .u64 t25_1), (.slice none 0 0), (.int .i64 t25_3), (.int .i64 0)]), t26, t27, t28, t29, t30, (.pointer (some ⟨t31, 2, none⟩)), (.pointer t32), (.agg #[(.int .i64 t33_0), (.int .u64 t33_1), (.slice t33_2 t33_2l 0), (.int .i64 t33_3), (.int .i64 t33_4)]), (.pointer t34), (.pointer t35), (.bool false), undef, (.int .i64 t16), (.bool true), (ys.getD 40 undef), (ys.getD 41 undef), (.tuple #[(.bool b3), (.bool b4)]), (.pointer t14), (.tuple #[(.bool b3), (.bool b4)]), (.bool b3), (.bool b4), (.bool true), (.int .i64 t15), (.int .i64 (IntKind.i64.wrap (t15 + 1))), (.bool true), (.bool true), (.pointer (some ⟨t5, 1, none⟩)), (.pointer a5), (.slice a8 i9 0), (.int .i64 (IntKind.i64.wrap (t15 + 1))), (.bool true), (.agg #[(.int .i64 0), (.slice none 0 0), (.int .u64 0), (.int .i64 0)]), (ys.getD 58 undef), (ys.getD 59 undef), (ys.getD 60 undef), undef] H10)
 else (
 CA en F.lru_Run_Result [(.pointer t14)] H7 fun v11 H12 =>
 ∃ n13, ∃ a14 i15, ∃ n16, ∃ n17, v11 = (.agg #[(.int .i64 n13), (.slice a14 i15 0), (.int .u64 n16), (.int .i64 n17)]) ∧
 stc H12 t10 0 [(.int .i64 n13), (.slice a14 i15 0), (.int .u64 n16), (.int .i64 n17)] fun H18 =>
 K1 [(.agg #[(.pointer t0_0), (.pointer t0_1), (.pointer t0_2)]), (.int .i64 t1), (.int .u64 t2), (.int .u64 t3), (.int .i64 t4), (.pointer (some ⟨t5, 0, none⟩)), undef, undef, undef, undef, (.pointer (some ⟨t10, 0, none⟩)), (.int .i64 t16), (.bool t12), (.pointer (some ⟨t13, 0, none⟩)), (.pointer t14), (.int .i64 (IntKind.i64.wrap (t15 + 1))), (.int .i64 t16), (.bool b3), (.bool b4), (.pointer (some ⟨t19, 1, none⟩)), (.pointer t20), (.bool t21), (.int .i64 t22), (.int .u64 t23), (.int .i64 t24), (.agg #[(.int .i64 t25_0), (.int .u64 t25_1), (.slice none 0 0), (.int .i64 t25_3), (.int .i64 0)]), t26, t27, t28, t29, t30, (.pointer (some ⟨t31, 2, none⟩)), (.pointer t32), (.agg #[(.int .i64 t33_0), (.int .u64 t33_1), (.slice t33_2 t33_2l 0), (.int .i64 t33_3), (.int .i64 t33_4)]), (.pointer t34), (.pointer t35), (.bool false), undef, (.int .i64 t16), (.bool true), (ys.getD 40 undef), (ys.getD 41 undef), (.tuple #[(.bool b3), (.bool b4)]), (.pointer t14), (.tuple #[(.bool b3), (.bool b4)]), (.bool b3), (.bool b4), (.bool true), (.int .i64 t15), (.int .i64 (IntKind.i64.wrap (t15 + 1))), (.bool true), (.bool true), (.pointer (some ⟨t5, 1, none⟩)), (.pointer a5), (.slice a8 i9 0), (.int .i64 (IntKind.i64.wrap (t15 + 1))), (.bool false), (ys.getD 57 undef), (.pointer t14), (.agg #[(.int .i64 n13), (.slice a14 i15 0), (.int .u64 n16), (.int .i64 n17)]), (.int .i64 t16), undef] H18))
 else (
 bif ((IntKind.i64.wrap (t15 + 1)) != 1) then (
 stc H2 t10 0 [(.int .i64 0), (.slice none 0 0), (.int .u64 0), (.int .i64 0)] fun H19 =>
 K1 [(.agg #[(.pointer t0_0), (.pointer t0_1), (.pointer t0_2)]), (.int .i64 t1), (.int .u64 t2), (.int .u64 t3), (.int .i64 t4), (.pointer (some ⟨t5, 0, none⟩)), undef, undef, undef, undef, (.pointer (some ⟨t10, 0, none⟩)), (.int .i64 (-1)), (.bool t12), (.pointer (some ⟨t13, 0, none⟩)), (.pointer t14), (.int .i64 (IntKind.i64.wrap (t15 + 1))), (.int .i64 t16), (.bool b3), (.bool b4), (.pointer (some ⟨t19, 1, none⟩)), (.pointer t20), (.bool t21), (.int .i64 t22), (.int .u64 t23), (.int .i64 t24), (.agg #[(.int .i64 t25_0), (.int .u64 t25_1), (.slice none 0 0), (.int .i64 t25_3), (.int .i64 0)]), t26, t27, t28, t29, t30, (.pointer (some ⟨t31, 2, none⟩)), (.pointer t32), (.agg #[(.int .i64 t33_0), (.int .u64 t33_1), (.slice t33_2 t33_2l 0), (.int .i64 t33_3), (.int .i64 t33_4)]), (.pointer t34), (.pointer t35), (.bool false), undef, (.int .i64 t16), (.bool true), (ys.getD 40 undef), (ys.getD 41 undef), (.tuple #[(.bool b3), (.bool b4)]), (.pointer t14), (.tuple #[(.bool b3), (.bool b4)]), (.bool b3), (.bool b4), (.bool true), (.int .i64 t15), (.int .i64 (IntKind.i64.wrap (t15 + 1))), (.bool true), (.bool false), (ys.getD 52 undef), (ys.getD 53 undef), (ys.getD 54 undef), (.int .i64 (IntKind.i64.wrap (t15 + 1))), (.bool true), (.agg #[(.int .i64 0), (.slice none 0 0), (.int .u64 0), (.int .i64 0)]), (ys.getD 58 undef), (ys.getD 59 undef), (ys.getD 60 undef), undef] H19)
 else (
 CA en F.lru_Run_Result [(.pointer t14)] H2 fun v20 H21 =>
 ∃ n22, ∃ a23 i24, ∃ n25, ∃ n26, v20 = (.agg #[(.int .i64 n22), (.slice a23 i24 0), (.int .u64 n25), (.int .i64 n26)]) ∧
 stc H21 t10 0 [(.int .i64 n22), (.slice a23 i24 0), (.int .u64 n25), (.int .i64 n26)] fun H27 =>
 K1 [(.agg #[(.pointer t0_0), (.pointer t0_1), (.pointer t0_2)]), (.int .i64 t1), (.int .u64 t2), (.int .u64 t3), (.int .i64 t4), (.pointer (some ⟨t5, 0, none⟩)), undef, undef, undef, undef, (.pointer (some ⟨t10, 0, none⟩)), (.int .i64 t16), (.bool t12), (.pointer (some ⟨t13, 0, none⟩)), (.pointer t14), (.int .i64 (IntKind.i64.wrap (t15 + 1))), (.int .i64 t16), (.bool b3), (.bool b4), (.pointer (some ⟨t19, 1, none⟩)), (.pointer t20), (.bool t21), (.int .i64 t22), (.int .u64 t23), (.int .i64 t24), (.agg #[(.int .i64 t25_0), (.int .u64 t25_1), (.slice none 0 0), (.int .i64 t25_3), (.int .i64 0)]), t26, t27, t28, t29, t30, (.pointer (some ⟨t31, 2, none⟩)), (.pointer t32), (.agg #[(.int .i64 t33_0), (.int .u64 t33_1), (.slice t33_2 t33_2l 0), (.int .i64 t33_3), (.int .i64 t33_4)]), (.pointer t34), (.pointer t35), (.bool false), undef, (.int .i64 t16), (.bool true), (ys.getD 40 undef), (ys.getD 41 undef), (.tuple #[(.bool b3), (.bool b4)]), (.pointer t14), (.tuple #[(.bool b3), (.bool b4)]), (.bool b3), (.bool b4), (.bool true), (.int .i64 t15), (.int .i64 (IntKind.i64.wrap (t15 + 1))), (.bool true), (.bool false), (ys.getD 52 undef), (ys.getD 53 undef), (ys.getD 54 undef), (.int .i64 (IntKind.i64.wrap (t15 + 1))), (.bool false), (ys.getD 57 undef), (.pointer t14), (.agg #[(.int .i64 n22), (.slice a23 i24 0), (.int .u64 n25), (.int .i64 n26)]), (.int .i64 t16), undef] H27)))
 else (
 ∃ k28, k28 < n ∧
 I k28 t11 (IntKind.i64.wrap (t15 + 1)) (IntKind.i64.wrap (t16 + 1)) H2))
 else (
 bif b4 then (
 bif t12 then (
 ∃ a29, H2.cell t5 1 = some (.pointer a29) ∧
 CA en F.grace_Grace_Leave [(.pointer a29), (.int .i64 0)] H2 fun v30 H31 =>
 ∃ a32 i33, v30 = (.slice a32 i33 0) ∧
 bif (t15 != 1) then (
 stc H31 t10 0 [(.int .i64 0), (.slice none 0 0), (.int .u64 0), (.int .i64 0)] fun H34 =>
 K1 [(.agg #[(.pointer t0_0), (.pointer t0_1), (.pointer t0_2)]), (.int .i64 t1), (.int .u64 t2), (.int .u64 t3), (.int .i64 t4), (.pointer (some ⟨t5, 0, none⟩)), undef, undef, undef, undef, (.pointer (some ⟨t10, 0, none⟩)), (.int .i64 (-1)), (.bool t12), (.pointer (some ⟨t13, 0, none⟩)), (.pointer t14), (.int .i64 t15), (.int .i64 t16), (.bool b3), (.bool b4), (.pointer (some ⟨t19, 1, none⟩)), (.pointer t20), (.bool t21), (.int .i64 t22), (.int .u64 t23), (.int .i64 t24), (.agg #[(.int .i64 t25_0), (.int .u64 t25_1), (.slice none 0 0), (.int .i64 t25_3), (.int .i64 0)]), t26, t27, t28, t29, t30, (.pointer (some ⟨t31, 2, none⟩)), (.pointer t32), (.agg #[(.int .i64 t33_0), (.int .u64 t33_1), (.slice t33_2 t33_2l 0), (.int .i64 t33_3), (.int .i64 t33_4)]), (.pointer t34), (.pointer t35), (.bool false), undef, (.int .i64 t16), (.bool true), (ys.getD 40 undef), (ys.getD 41 undef), (.tuple #[(.bool b3), (.bool b4)]), (.pointer t14), (.tuple #[(.bool b3), (.bool b4)]), (.bool b3), (.bool b4), (.bool false), (ys.getD 48 undef), (ys.getD 49 undef), (.bool true), (.bool true), (.pointer (some ⟨t5, 1, none⟩)), (.pointer a29), (.slice a32 i33 0), (.int .i64 t15), (.bool true), (.agg #[(.int .i64 0), (.slice none 0 0), (.int .u64 0), (.int .i64 0)]), (ys.getD 58 undef), (ys.getD 59 undef), (ys.getD 60 undef), undef] H34)
 else (
 CA en F.lru_Run_Result [(.pointer t14)] H31 fun v35 H36 =>
 ∃ n37, ∃ a38 i39, ∃ n40, ∃ n41, v35 = (.agg #[(.int .i64 n37), (.slice a38 i39 0), (.int .u64 n40), (.int .i64 n41)]) ∧
 stc H36 t10 0 [(.int .i64 n37), (.slice a38 i39 0), (.int .u64 n40), (.int .i64 n41)] fun H42 =>
 K1 [(.agg #[(.pointer t0_0), (.pointer t0_1), (.pointer t0_2)]), (.int .i64 t1), (.int .u64 t2), (.int .u64 t3), (.int .i64 t4), (.pointer (some ⟨t5, 0, none⟩)), undef, undef, undef, undef, (.pointer (some ⟨t10, 0, none⟩)), (.int .i64 t16), (.bool t12), (.pointer (some ⟨t13, 0, none⟩)), (.pointer t14), (.int .i64 t15), (.int .i64 t16), (.bool b3), (.bool b4), (.pointer (some ⟨t19, 1, none⟩)), (.pointer t20), (.bool t21), (.int .i64 t22), (.int .u64 t23), (.int .i64 t24), (.agg #[(.int .i64 t25_0), (.int .u64 t25_1), (.slice none 0 0), (.int .i64 t25_3), (.int .i64 0)]), t26, t27, t28, t29, t30, (.pointer (some ⟨t31, 2, none⟩)), (.pointer t32), (.agg #[(.int .i64 t33_0), (.int .u64 t33_1), (.slice t33_2 t33_2l 0), (.int .i64 t33_3), (.int .i64 t33_4)]), (.pointer t34), (.pointer t35), (.bool false), undef, (.int .i64 t16), (.bool true), (ys.getD 40 undef), (ys.getD 41 undef), (.tuple #[(.bool b3), (.bool b4)]), (.pointer t14), (.tuple #[(.bool b3), (.bool b4)]), (.bool b3), (.bool b4), (.bool false), (ys.getD 48 undef), (ys.getD 49 undef), (.bool true), (.bool true), (.pointer (some ⟨t5, 1, none⟩)), (.pointer a29), (.slice a32 i33 0), (.int .i64 t15), (.bool false), (ys.getD 57 undef), (.pointer t14), (.agg #[(.int .i64 n37), (.slice a38 i39 0), (.int .u64 n40), (.int .i64 n41)]), (.int .i64 t16), undef] H42))
 else (
 bif (t15 != 1) then (
 stc H2 t10 0 [(.int .i64 0), (.slice none 0 0), (.int .u64 0), (.int .i64 0)] fun H43 =>
 K1 [(.agg #[(.pointer t0_0), (.pointer t0_1), (.pointer t0_2)]), (.int .i64 t1), (.int .u64 t2), (.int .u64 t3), (.int .i64 t4), (.pointer (some ⟨t5, 0, none⟩)), undef, undef, undef, undef, (.pointer (some ⟨t10, 0, none⟩)), (.int .i64 (-1)), (.bool t12), (.pointer (some ⟨t13, 0, none⟩)), (.pointer t14), (.int .i64 t15), (.int .i64 t16), (.bool b3), (.bool b4), (.pointer (some ⟨t19, 1, none⟩)), (.pointer t20), (.bool t21), (.int .i64 t22), (.int .u64 t23), (.int .i64 t24), (.agg #[(.int .i64 t25_0), (.int .u64 t25_1), (.slice none 0 0), (.int .i64 t25_3), (.int .i64 0)]), t26, t27, t28, t29, t30, (.pointer (some ⟨t31, 2, none⟩)), (.pointer t32), (.agg #[(.int .i64 t33_0), (.int .u64 t33_1), (.slice t33_2 t33_2l 0), (.int .i64 t33_3), (.int .i64 t33_4)]), (.pointer t34), (.pointer t35), (.bool false), undef, (.int .i64 t16), (.bool true), (ys.getD 40 undef), (ys.getD 41 undef), (.tuple #[(.bool b3), (.bool b4)]), (.pointer t14), (.tuple #[(.bool b3), (.bool b4)]), (.bool b3), (.bool b4), (.bool false), (ys.getD 48 undef), (ys.getD 49 undef), (.bool true), (.bool false), (ys.getD 52 undef), (ys.getD 53 undef), (ys.getD 54 undef), (.int .i64 t15), (.bool true), (.agg #[(.int .i64 0), (.slice none 0 0), (.int .u64 0), (.int .i64 0)]), (ys.getD 58 undef), (ys.getD 59 undef), (ys.getD 60 undef), undef] H43)
 else (
 CA en F.lru_Run_Result [(.pointer t14)] H2 fun v44 H45 =>
 ∃ n46, ∃ a47 i48, ∃ n49, ∃ n50, v44 = (.agg #[(.int .i64 n46), (.slice a47 i48 0), (.int .u64 n49), (.int .i64 n50)]) ∧
 stc H45 t10 0 [(.int .i64 n46), (.slice a47 i48 0), (.int .u64 n49), (.int .i64 n50)] fun H51 =>
 K1 [(.agg #[(.pointer t0_0), (.pointer t0_1), (.pointer t0_2)]), (.int .i64 t1), (.int .u64 t2), (.int .u64 t3), (.int .i64 t4), (.pointer (some ⟨t5, 0, none⟩)), undef, undef, undef, undef, (.pointer (some ⟨t10, 0, none⟩)), (.int .i64 t16), (.bool t12), (.pointer (some ⟨t13, 0, none⟩)), (.pointer t14), (.int .i64 t15), (.int .i64 t16), (.bool b3), (.bool b4), (.pointer (some ⟨t19, 1, none⟩)), (.pointer t20), (.bool t21), (.int .i64 t22), (.int .u64 t23), (.int .i64 t24), (.agg #[(.int .i64 t25_0), (.int .u64 t25_1), (.slice none 0 0), (.int .i64 t25_3), (.int .i64 0)]), t26, t27, t28, t29, t30, (.pointer (some ⟨t31, 2, none⟩)), (.pointer t32), (.agg #[(.int .i64 t33_0), (.int .u64 t33_1), (.slice t33_2 t33_2l 0), (.int .i64 t33_3), (.int .i64 t33_4)]), (.pointer t34), (.pointer t35), (.bool false), undef, (.int .i64 t16), (.bool true), (ys.getD 40 undef), (ys.getD 41 undef), (.tuple #[(.bool b3), (.bool b4)]), (.pointer t14), (.tuple #[(.bool b3), (.bool b4)]), (.bool b3), (.bool b4), (.bool false), (ys.getD 48 undef), (ys.getD 49 undef), (.bool true), (.bool false), (ys.getD 52 undef), (ys.getD 53 undef), (ys.getD 54 undef), (.int .i64 t15), (.bool false), (ys.getD 57 undef), (.pointer t14), (.agg #[(.int .i64 n46), (.slice a47 i48 0), (.int .u64 n49), (.int .i64 n50)]), (.int .i64 t16), undef] H51)))
 else (
 ∃ k52, k52 < n ∧
 I k52 t11 t15 (IntKind.i64.wrap (t16 + 1)) H2)))
 else (
 K0 [(.agg #[(.pointer t0_0), (.pointer t0_1), (.pointer t0_2)]), (.int .i64 t1), (.int .u64 t2), (.int .u64 t3), (.int .i64 t4), (.pointer (some ⟨t5, 0, none⟩)), undef, undef, undef, undef, (.pointer (some ⟨t10, 0, none⟩)), (.int .i64 t11), (.bool t12), (.pointer (some ⟨t13, 0, none⟩)), (.pointer t14), (.int .i64 t15), (.int .i64 t16), (ys.getD 17 undef), (ys.getD 18 undef), (.pointer (some ⟨t19, 1, none⟩)), (.pointer t20), (.bool t21), (.int .i64 t22), (.int .u64 t23), (.int .i64 t24), (.agg #[(.int .i64 t25_0), (.int .u64 t25_1), (.slice none 0 0), (.int .i64 t25_3), (.int .i64 0)]), t26, t27, t28, t29, t30, (.pointer (some ⟨t31, 2, none⟩)), (.pointer t32), (.agg #[(.int .i64 t33_0), (.int .u64 t33_1), (.slice t33_2 t33_2l 0), (.int .i64 t33_3), (.int .i64 t33_4)]), (.pointer t34), (.pointer t35), (.bool false), undef, (.int .i64 t16), (.bool false), (ys.getD 40 undef), (ys.getD 41 undef), (ys.getD 42 undef), (ys.getD 43 undef), (ys.getD 44 undef), (ys.getD 45 undef), (ys.getD 46 undef), (ys.getD 47 undef), (ys.getD 48 undef), (ys.getD 49 undef), (ys.getD 50 undef), (ys.getD 51 undef), (ys.getD 52 undef), (ys.getD 53 undef), (ys.getD 54 undef), (ys.getD 55 undef), (ys.getD 56 undef), (ys.getD 57 undef), (ys.getD 58 undef), (ys.getD 59 undef), (ys.getD 60 undef), undef] H))) :
    LA en L_crossbarlaw16_one_alone_0 [(.agg #[(.pointer t0_0), (.pointer t0_1), (.pointer t0_2)]), (.int .i64 t1), (.int .u64 t2), (.int .u64 t3), (.int .i64 t4), (.pointer (some ⟨t5, 0, none⟩)), undef, undef, undef, undef, (.pointer (some ⟨t10, 0, none⟩)), (.int .i64 t11), (.bool t12), (.pointer (some ⟨t13, 0, none⟩)), (.pointer t14), (.int .i64 t15), (.int .i64 t16), t17, t18, (.pointer (some ⟨t19, 1, none⟩)), (.pointer t20), (.bool t21), (.int .i64 t22), (.int .u64 t23), (.int .i64 t24), (.agg #[(.int .i64 t25_0), (.int .u64 t25_1), (.slice none 0 0), (.int .i64 t25_3), (.int .i64 0)]), t26, t27, t28, t29, t30, (.pointer (some ⟨t31, 2, none⟩)), (.pointer t32), (.agg #[(.int .i64 t33_0), (.int .u64 t33_1), (.slice t33_2 t33_2l 0), (.int .i64 t33_3), (.int .i64 t33_4)]), (.pointer t34), (.pointer t35), (.bool false), undef, t38, t39, t40, t41, t42, t43, t44, t45, t46, t47, t48, t49, t50, t51, t52, t53, t54, t55, t56, t57, t58, t59, t60, undef] H [(X.exit 0, K0), (X.ret, K1)] := by
  refine LA_rule (Z := []) (fun m xs H' => AS.asInt .i64 (xs.getD 11 undef) fun t11 => AS.asInt .i64 (xs.getD 15 undef) fun t15 => AS.asInt .i64 (xs.getD 16 undef) fun t16 => I m t11 t15 t16 H') ?_ n H ?_
  · intro n H
    suffices hs : ∀ s38 : Value, ∀ s39 : Value, ∀ s43 : Value, ∀ s44 : Value, ∀ s42 : Value, ∀ s45 : Value, ∀ s46 : Value, ∀ s17 : Value, ∀ s18 : Value, ∀ s47 : Value, ∀ s48 : Value, ∀ s49 : Value, ∀ s15 : Value, ∀ s50 : Value, ∀ s51 : Value, ∀ s52 : Value, ∀ s53 : Value, ∀ s54 : Value, ∀ s55 : Value, ∀ s56 : Value, ∀ s57 : Value, ∀ s11 : Value, ∀ s58 : Value, ∀ s59 : Value, ∀ s60 : Value, ∀ s40 : Value, ∀ s41 : Value, ∀ s16 : Value, ((AS.asInt .i64 s11 fun t11 => AS.asInt .i64 s15 fun t15 => AS.asInt .i64 s16 fun t16 => I n t11 t15 t16 H) → wpCode en L_crossbarlaw16_one_alone_0 [] [(.agg #[(.pointer t0_0), (.pointer t0_1), (.pointer t0_2)]), (.int .i64 t1), (.int .u64 t2), (.int .u64 t3), (.int .i64 t4), (.pointer (some ⟨t5, 0, none⟩)), undef, undef, undef, undef, (.pointer (some ⟨t10, 0, none⟩)), s11, (.bool t12), (.pointer (some ⟨t13, 0, none⟩)), (.pointer t14), s15, s16, s17, s18, (.pointer (some ⟨t19, 1, none⟩)), (.pointer t20), (.bool t21), (.int .i64 t22), (.int .u64 t23), (.int .i64 t24), (.agg #[(.int .i64 t25_0), (.int .u64 t25_1), (.slice none 0 0), (.int .i64 t25_3), (.int .i64 0)]), t26, t27, t28, t29, t30, (.pointer (some ⟨t31, 2, none⟩)), (.pointer t32), (.agg #[(.int .i64 t33_0), (.int .u64 t33_1), (.slice t33_2 t33_2l 0), (.int .i64 t33_3), (.int .i64 t33_4)]), (.pointer t34), (.pointer t35), (.bool false), undef, s38, s39, s40, s41, s42, s43, s44, s45, s46, s47, s48, s49, s50, s51, s52, s53, s54, s55, s56, s57, s58, s59, s60, undef] H (loopQ (fun m xs H' => AS.asInt .i64 (xs.getD 11 undef) fun t11 => AS.asInt .i64 (xs.getD 15 undef) fun t15 => AS.asInt .i64 (xs.getD 16 undef) fun t16 => I m t11 t15 t16 H') n [(X.exit 0, K0), (X.ret, K1)])) by
      apply turnInto hs
      kernel_rfl
    intro s38 s39 s43 s44 s42 s45 s46 s17 s18 s47 s48 s49 s15 s50 s51 s52 s53 s54 s55 s56 s57 s11 s58 s59 s60 s40 s41 s16 hP
    replace hP := asInt_elim hP
    obtain ⟨t11, rfl, hP⟩ := hP
    replace hP := asInt_elim hP
    obtain ⟨t15, rfl, hP⟩ := hP
    replace hP := asInt_elim hP
    obtain ⟨t16, rfl, hP⟩ := hP
    apply turnInto (hstep n t11 t15 t16 [(.agg #[(.pointer t0_0), (.pointer t0_1), (.pointer t0_2)]), (.int .i64 t1), (.int .u64 t2), (.int .u64 t3), (.int .i64 t4), (.pointer (some ⟨t5, 0, none⟩)), undef, undef, undef, undef, (.pointer (some ⟨t10, 0, none⟩)), (.int .i64 t11), (.bool t12), (.pointer (some ⟨t13, 0, none⟩)), (.pointer t14), (.int .i64 t15), (.int .i64 t16), s17, s18, (.pointer (some ⟨t19, 1, none⟩)), (.pointer t20), (.bool t21), (.int .i64 t22), (.int .u64 t23), (.int .i64 t24), (.agg #[(.int .i64 t25_0), (.int .u64 t25_1), (.slice none 0 0), (.int .i64 t25_3), (.int .i64 0)]), t26, t27, t28, t29, t30, (.pointer (some ⟨t31, 2, none⟩)), (.pointer t32), (.agg #[(.int .i64 t33_0), (.int .u64 t33_1), (.slice t33_2 t33_2l 0), (.int .i64 t33_3), (.int .i64 t33_4)]), (.pointer t34), (.pointer t35), (.bool false), undef, s38, s39, s40, s41, s42, s43, s44, s45, s46, s47, s48, s49, s50, s51, s52, s53, s54, s55, s56, s57, s58, s59, s60, undef] H hP)
    kernel_rfl
  · apply turnInto h0
    kernel_rfl

end Go.Proofs.YtjggeoghlicmdaaGreat
