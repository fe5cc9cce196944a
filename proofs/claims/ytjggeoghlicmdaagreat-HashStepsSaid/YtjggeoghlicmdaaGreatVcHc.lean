/-
  What functions of this seat's program need (printed by a program, checked by the kernel).
-/
import Derived.Test.YtjggeoghlicmdaaGreatNames
import Derived.Test.YtjggeoghlicmdaaGreatAs41
namespace Go.Proofs.YtjggeoghlicmdaaGreat
open Go Go.AS Go.RowKit
set_option linter.unusedVariables false
set_option maxRecDepth 100000
set_option maxHeartbeats 2000000

/-! crossbarlaw15_HashSteps -/
noncomputable def L_crossbarlaw15_HashSteps_0 : Code := loopAt Go.Proofs.Tryz.f5 0

theorem vc_crossbarlaw15_HashSteps (x0 : Int) (x1 : Int) (x2 : Option Addr) (x2l : Nat) (x3_0 : Int) (x3_1 : Int) (x3_2 : Option Addr) (x3_2l : Nat) (x3_3 : Int) (x3_4 : Int) (H : Heap) (R : Value → Heap → Prop) :
    (
 nwH H (.cells true 0 [(.int .i64 x3_0), (.int .u64 x3_1), (.slice x3_2 x3_2l 0), (.int .i64 x3_3), (.int .i64 x3_4)]) fun i1 H2 =>
 CA en F.crossbarkit_Pick [(.int .i64 x0), (.int .i64 64)] H2 fun v3 H4 =>
 ∃ n5, v3 = (.int .i64 n5) ∧
 CA en F.crossbarkit_Pick [(.int .i64 x1), (.int .i64 6)] H4 fun v6 H7 =>
 ∃ n8, v6 = (.int .i64 n8) ∧
 nn (IntKind.u64.wrap n8) ∧
 CA en F.crossbarlaw15_made [(.int .i64 (IntKind.i64.wrap (1 + n5))), (.int .i64 (IntKind.i64.wrap (1 * 2 ^ (min (IntKind.u64.wrap n8).toNat 64)))), (.int .i64 1000)] H7 fun v9 H10 =>
 ∃ a11, ∃ a12, ∃ a13, v9 = (.tuple #[(.pointer a11), (.pointer a12), (.pointer a13)]) ∧
 bif a11.isNone then (
 R (.bool false) H10)
 else (
 LA en L_crossbarlaw15_HashSteps_0 [(.int .i64 (IntKind.i64.wrap (1 + n5))), (.int .i64 (IntKind.i64.wrap (1 * 2 ^ (min (IntKind.u64.wrap n8).toNat 64)))), (.slice x2 x2l 0), (.agg #[(.int .i64 x3_0), (.int .u64 x3_1), (.slice x3_2 x3_2l 0), (.int .i64 x3_3), (.int .i64 x3_4)]), undef, undef, undef, (.pointer (some ⟨i1, 0, none⟩)), (.bool false), (.pointer a11), (.pointer a12), (.pointer a13), (.int .i64 (IntKind.i64.wrap ((IntKind.i64.wrap ((IntKind.i64.wrap (10 * (IntKind.i64.wrap (1 + n5)))) + (IntKind.i64.wrap (10 * (IntKind.i64.wrap (1 * 2 ^ (min (IntKind.u64.wrap n8).toNat 64))))))) + 60))), (.int .i64 0), undef, undef, undef, undef, undef, undef, (.int .i64 x0), (.int .i64 n5), (.int .i64 (IntKind.i64.wrap (1 + n5))), (.int .i64 x1), (.int .i64 n8), (.int .u64 (IntKind.u64.wrap n8)), (.int .i64 (IntKind.i64.wrap (1 * 2 ^ (min (IntKind.u64.wrap n8).toNat 64)))), (.tuple #[(.pointer a11), (.pointer a12), (.pointer a13)]), (.int .i64 (IntKind.i64.wrap (1 + n5))), (.int .i64 (IntKind.i64.wrap (1 * 2 ^ (min (IntKind.u64.wrap n8).toNat 64)))), (.tuple #[(.pointer a11), (.pointer a12), (.pointer a13)]), (.pointer a11), (.pointer a12), (.pointer a13), (.pointer a11), (.bool false), (.int .i64 (IntKind.i64.wrap (1 + n5))), (.int .i64 (IntKind.i64.wrap (10 * (IntKind.i64.wrap (1 + n5))))), (.int .i64 (IntKind.i64.wrap (1 * 2 ^ (min (IntKind.u64.wrap n8).toNat 64)))), (.int .i64 (IntKind.i64.wrap (10 * (IntKind.i64.wrap (1 * 2 ^ (min (IntKind.u64.wrap n8).toNat 64)))))), (.int .i64 (IntKind.i64.wrap ((IntKind.i64.wrap (10 * (IntKind.i64.wrap (1 + n5)))) + (IntKind.i64.wrap (10 * (IntKind.i64.wrap (1 * 2 ^ (min (IntKind.u64.wrap n8).toNat 64)))))))), (.int .i64 (IntKind.i64.wrap ((IntKind.i64.wrap ((IntKind.i64.wrap (10 * (IntKind.i64.wrap (1 + n5)))) + (IntKind.i64.wrap (10 * (IntKind.i64.wrap (1 * 2 ^ (min (IntKind.u64.wrap n8).toNat 64))))))) + 60))), undef, undef, undef, undef, undef, undef, undef, undef, undef, undef, undef, undef, undef, undef, undef, undef, undef, undef, undef, undef, undef, undef, undef, undef, undef, undef, undef, undef, undef, undef, undef, undef, undef, undef, undef, undef, undef, undef, undef, undef, undef, undef, undef, undef, undef, undef, undef, undef, undef, undef, undef, undef, undef, undef] H10 [(X.exit 0, fun (y14 : Fr) (H15 : Heap) =>
 AS.asBool (y14.getD 8 undef) fun b16 =>
 ∃ n17, H15.cell i1 0 = some (.int .i64 n17) ∧
 CA en F.crossbarkit_Pick [(.int .i64 n17), (.int .i64 5)] H15 fun v18 H19 =>
 ∃ n20, v18 = (.int .i64 n20) ∧
 bif ((IntKind.i64.wrap (1 + n20)) == 2) then (
 ∃ n21, H19.cell i1 3 = some (.int .i64 n21) ∧
 CA en F.crossbarkit_Pick [(.int .i64 n21), (.int .i64 2)] H19 fun v22 H23 =>
 ∃ n24, v22 = (.int .i64 n24) ∧
 ∃ n25, H23.cell i1 1 = some (.int .u64 n25) ∧
 nwH H23 (.cells true 1 [(.int .u64 3)]) fun i26 H27 =>
 CA en F.hash_Map_Begin [(.pointer a11), (.agg #[(.int .i64 (IntKind.i64.wrap (1 + n20))), (.int .u64 n25), (.slice (some ⟨i26, 0, none⟩) 1 0), (.int .i64 n24), (.int .i64 0)])] H27 fun v28 H29 =>
 ∃ a30, v28 = (.pointer a30) ∧
 CA en F.crossbarlaw15_finish [(.pointer a30), (.int .i64 (IntKind.i64.wrap ((IntKind.i64.wrap ((IntKind.i64.wrap (10 * (IntKind.i64.wrap (1 + n5)))) + (IntKind.i64.wrap (10 * (IntKind.i64.wrap (1 * 2 ^ (min (IntKind.u64.wrap n8).toNat 64))))))) + 60)))] H29 fun v31 H32 =>
 ∃ n33, ∃ a34 i35, ∃ n36, ∃ n37, ∃ b38, v31 = (.tuple #[(.agg #[(.int .i64 n33), (.slice a34 i35 0), (.int .u64 n36), (.int .i64 n37)]), (.bool b38)]) ∧
 nwH H32 (.cells true 0 [(.int .i64 0), (.slice none 0 0), (.int .u64 0), (.int .i64 0)]) fun i39 H40 =>
 stc H40 i39 0 [(.int .i64 n33), (.slice a34 i35 0), (.int .u64 n36), (.int .i64 n37)] fun H41 =>
 bif b38 then (
 CA en F.crossbarlaw15_works [] H41 fun v42 H43 =>
 ∃ b44, v42 = (.bool b44) ∧
 R (.bool b44) H43)
 else (
 R (.bool false) H41))
 else (
 bif ((IntKind.i64.wrap (1 + n20)) == 4) then (
 ∃ n45, H19.cell i1 3 = some (.int .i64 n45) ∧
 CA en F.crossbarkit_Pick [(.int .i64 n45), (.int .i64 2)] H19 fun v46 H47 =>
 ∃ n48, v46 = (.int .i64 n48) ∧
 ∃ n49, H47.cell i1 1 = some (.int .u64 n49) ∧
 nwH H47 (.cells true 1 [(.int .u64 3)]) fun i50 H51 =>
 CA en F.hash_Map_Begin [(.pointer a11), (.agg #[(.int .i64 (IntKind.i64.wrap (1 + n20))), (.int .u64 n49), (.slice (some ⟨i50, 0, none⟩) 1 0), (.int .i64 n48), (.int .i64 0)])] H51 fun v52 H53 =>
 ∃ a54, v52 = (.pointer a54) ∧
 CA en F.crossbarlaw15_finish [(.pointer a54), (.int .i64 (IntKind.i64.wrap ((IntKind.i64.wrap ((IntKind.i64.wrap (10 * (IntKind.i64.wrap (1 + n5)))) + (IntKind.i64.wrap (10 * (IntKind.i64.wrap (1 * 2 ^ (min (IntKind.u64.wrap n8).toNat 64))))))) + 60)))] H53 fun v55 H56 =>
 ∃ n57, ∃ a58 i59, ∃ n60, ∃ n61, ∃ b62, v55 = (.tuple #[(.agg #[(.int .i64 n57), (.slice a58 i59 0), (.int .u64 n60), (.int .i64 n61)]), (.bool b62)]) ∧
 nwH H56 (.cells true 0 [(.int .i64 0), (.slice none 0 0), (.int .u64 0), (.int .i64 0)]) fun i63 H64 =>
 stc H64 i63 0 [(.int .i64 n57), (.slice a58 i59 0), (.int .u64 n60), (.int .i64 n61)] fun H65 =>
 bif b62 then (
 CA en F.crossbarlaw15_works [] H65 fun v66 H67 =>
 ∃ b68, v66 = (.bool b68) ∧
 R (.bool b68) H67)
 else (
 R (.bool false) H65))
 else (
 ∃ n69, H19.cell i1 1 = some (.int .u64 n69) ∧
 nwH H19 (.cells true 1 [(.int .u64 3)]) fun i70 H71 =>
 CA en F.hash_Map_Begin [(.pointer a11), (.agg #[(.int .i64 (IntKind.i64.wrap (1 + n20))), (.int .u64 n69), (.slice (some ⟨i70, 0, none⟩) 1 0), (.int .i64 0), (.int .i64 0)])] H71 fun v72 H73 =>
 ∃ a74, v72 = (.pointer a74) ∧
 CA en F.crossbarlaw15_finish [(.pointer a74), (.int .i64 (IntKind.i64.wrap ((IntKind.i64.wrap ((IntKind.i64.wrap (10 * (IntKind.i64.wrap (1 + n5)))) + (IntKind.i64.wrap (10 * (IntKind.i64.wrap (1 * 2 ^ (min (IntKind.u64.wrap n8).toNat 64))))))) + 60)))] H73 fun v75 H76 =>
 ∃ n77, ∃ a78 i79, ∃ n80, ∃ n81, ∃ b82, v75 = (.tuple #[(.agg #[(.int .i64 n77), (.slice a78 i79 0), (.int .u64 n80), (.int .i64 n81)]), (.bool b82)]) ∧
 nwH H76 (.cells true 0 [(.int .i64 0), (.slice none 0 0), (.int .u64 0), (.int .i64 0)]) fun i83 H84 =>
 stc H84 i83 0 [(.int .i64 n77), (.slice a78 i79 0), (.int .u64 n80), (.int .i64 n81)] fun H85 =>
 bif b82 then (
 CA en F.crossbarlaw15_works [] H85 fun v86 H87 =>
 ∃ b88, v86 = (.bool b88) ∧
 R (.bool b88) H87)
 else (
 R (.bool false) H85)))),
 (X.ret, fun (y89 : Fr) (H90 : Heap) =>
 AS.asBool (y89.getD 8 undef) fun b91 =>
 R (.bool b91) H90)])) →
    CA en F.crossbarlaw15_HashSteps [(.int .i64 x0), (.int .i64 x1), (.slice x2 x2l 0), (.agg #[(.int .i64 x3_0), (.int .u64 x3_1), (.slice x3_2 x3_2l 0), (.int .i64 x3_3), (.int .i64 x3_4)])] H R := by
  intro h
  refine wpFn_ok (Z := [[(8, (.bool false))]]) (fn := Go.Proofs.Tryz.f5) ?_ ?_ ?_
  · kernel_rfl
  · kernel_rfl
  · apply turnInto h
    kernel_rfl

theorem use_crossbarlaw15_HashSteps_0 {t0 : Int} {t1 : Int} {t2 : Option Addr} {t2l : Nat} {t3_0 : Int} {t3_1 : Int} {t3_2 : Option Addr} {t3_2l : Nat} {t3_3 : Int} {t3_4 : Int} {t7 : Nat} {t9 : Option Addr} {t10 : Option Addr} {t11 : Option Addr} {t12 : Int} {t20 : Int} {t21 : Int} {t22 : Int} {t23 : Int} {t24 : Int} {t25 : Int} {t26 : Int} {t27_0 : Option Addr} {t27_1 : Option Addr} {t27_2 : Option Addr} {t28 : Int} {t29 : Int} {t30_0 : Option Addr} {t30_1 : Option Addr} {t30_2 : Option Addr} {t31 : Option Addr} {t32 : Option Addr} {t33 : Option Addr} {t34 : Option Addr} {t36 : Int} {t37 : Int} {t38 : Int} {t39 : Int} {t40 : Int} {t41 : Int} {K0 : Fr → Heap → Prop} {K1 : Fr → Heap → Prop} {t8 : Bool} {t13 : Int} {t14 : Value} {t15 : Value} {t42 : Value} {t43 : Value} {t44 : Value} {t45 : Value} {t46 : Value} {t47 : Value} {t48 : Value} {t49 : Value} {t50 : Value} {t51 : Value} {t52 : Value} {t53 : Value} {t54 : Value} {t55 : Value} {t56 : Value} {t57 : Value} {t58 : Value} {t59 : Value} {t60 : Value} {t61 : Value} {t62 : Value} {t63 : Value} {t64 : Value} {t65 : Value} {H : Heap} (I : Nat → Bool → Int → Heap → Prop) (n : Nat) (h0 : I n t8 t13 H)
    (hstep : ∀ (n : Nat) (t8 : Bool) (t13 : Int) (ys : Fr) (H : Heap), I n t8 t13 H →
    (
 bif (decide (t13 < ((t2l : Nat) : Int))) then (
 bif (decide (t13 < 64)) then (
 inB t13 t2l ∧
 asRow t2 fun i1 i2 =>
 ∃ n3, H.cell i1 (i2 + (t13.toNat * 1)) = some (.int .u64 n3) ∧
 CA en F.crossbarlaw15_update [(.int .u64 n3), (.int .u64 1), (.int .i64 0)] H fun v4 H5 =>
 ∃ n6, ∃ n7, ∃ a8 i9, ∃ n10, ∃ n11, v4 = (.agg #[(.int .i64 n6), (.int .u64 n7), (.slice a8 i9 0), (.int .i64 n10), (.int .i64 n11)]) ∧
 CA en F.hash_Map_Begin [(.pointer t9), (.agg #[(.int .i64 n6), (.int .u64 n7), (.slice a8 i9 0), (.int .i64 n10), (.int .i64 n11)])] H5 fun v12 H13 =>
 ∃ a14, v12 = (.pointer a14) ∧
 CA en F.crossbarlaw15_finish [(.pointer a14), (.int .i64 t12)] H13 fun v15 H16 =>
 ∃ n17, ∃ a18 i19, ∃ n20, ∃ n21, ∃ b22, v15 = (.tuple #[(.agg #[(.int .i64 n17), (.slice a18 i19 0), (.int .u64 n20), (.int .i64 n21)]), (.bool b22)]) ∧
 nwH H16 (.cells true 0 [(.int .i64 0), (.slice none 0 0), (.int .u64 0), (.int .i64 0)]) fun i23 H24 =>
 stc H24 i23 0 [(.int .i64 n17), (.slice a18 i19 0), (.int .u64 n20), (.int .i64 n21)] fun H25 =>
 bif (!b22) then (
 K1 [(.int .i64 t0), (.int .i64 t1), (.slice t2 t2l 0), (.agg #[(.int .i64 t3_0), (.int .u64 t3_1), (.slice t3_2 t3_2l 0), (.int .i64 t3_3), (.int .i64 t3_4)]), undef, undef, undef, (.pointer (some ⟨t7, 0, none⟩)), (.bool false), (.pointer t9), (.pointer t10), (.pointer t11), (.int .i64 t12), (.int .i64 t13), (.pointer (some ⟨i23, 0, none⟩)), (.bool b22), undef, undef, undef, undef, (.int .i64 t20), (.int .i64 t21), (.int .i64 t22), (.int .i64 t23), (.int .i64 t24), (.int .u64 t25), (.int .i64 t26), (.tuple #[(.pointer t27_0), (.pointer t27_1), (.pointer t27_2)]), (.int .i64 t28), (.int .i64 t29), (.tuple #[(.pointer t30_0), (.pointer t30_1), (.pointer t30_2)]), (.pointer t31), (.pointer t32), (.pointer t33), (.pointer t34), (.bool false), (.int .i64 t36), (.int .i64 t37), (.int .i64 t38), (.int .i64 t39), (.int .i64 t40), (.int .i64 t41), (.int .i64 t13), (.slice t2 t2l 0), (.int .i64 ((t2l : Nat) : Int)), (.bool (decide (t13 < ((t2l : Nat) : Int)))), (.bool true), (.int .i64 t13), (.bool (decide (t13 < 64))), (.bool true), (ys.getD 50 undef), (ys.getD 51 undef), (.tuple #[(.agg #[(.int .i64 n17), (.slice a18 i19 0), (.int .u64 n20), (.int .i64 n21)]), (.bool b22)]), (.pointer t9), (.slice t2 t2l 0), (.int .i64 t13), (.pointer (some ⟨i1, (i2 + (t13.toNat * 1)), none⟩)), (.int .u64 n3), (.agg #[(.int .i64 n6), (.int .u64 n7), (.slice a8 i9 0), (.int .i64 n10), (.int .i64 n11)]), (.pointer a14), (.int .i64 t12), (.tuple #[(.agg #[(.int .i64 n17), (.slice a18 i19 0), (.int .u64 n20), (.int .i64 n21)]), (.bool b22)]), (.agg #[(.int .i64 n17), (.slice a18 i19 0), (.int .u64 n20), (.int .i64 n21)]), (.bool b22), (.bool b22), (.bool true), undef, undef, undef, undef, undef, undef, undef, undef, undef, undef, undef, undef, undef, undef, undef, undef, undef, undef, undef, undef, undef, undef, undef, undef, undef, undef, undef, undef, undef, undef] H25)
 else (
 ∃ k26, k26 < n ∧
 I k26 t8 (IntKind.i64.wrap (t13 + 1)) H25))
 else (
 K0 [(.int .i64 t0), (.int .i64 t1), (.slice t2 t2l 0), (.agg #[(.int .i64 t3_0), (.int .u64 t3_1), (.slice t3_2 t3_2l 0), (.int .i64 t3_3), (.int .i64 t3_4)]), undef, undef, undef, (.pointer (some ⟨t7, 0, none⟩)), (.bool t8), (.pointer t9), (.pointer t10), (.pointer t11), (.int .i64 t12), (.int .i64 t13), (ys.getD 14 undef), (ys.getD 15 undef), undef, undef, undef, undef, (.int .i64 t20), (.int .i64 t21), (.int .i64 t22), (.int .i64 t23), (.int .i64 t24), (.int .u64 t25), (.int .i64 t26), (.tuple #[(.pointer t27_0), (.pointer t27_1), (.pointer t27_2)]), (.int .i64 t28), (.int .i64 t29), (.tuple #[(.pointer t30_0), (.pointer t30_1), (.pointer t30_2)]), (.pointer t31), (.pointer t32), (.pointer t33), (.pointer t34), (.bool false), (.int .i64 t36), (.int .i64 t37), (.int .i64 t38), (.int .i64 t39), (.int .i64 t40), (.int .i64 t41), (.int .i64 t13), (.slice t2 t2l 0), (.int .i64 ((t2l : Nat) : Int)), (.bool (decide (t13 < ((t2l : Nat) : Int)))), (.bool true), (.int .i64 t13), (.bool (decide (t13 < 64))), (.bool false), (ys.getD 50 undef), (ys.getD 51 undef), (ys.getD 52 undef), (ys.getD 53 undef), (ys.getD 54 undef), (ys.getD 55 undef), (ys.getD 56 undef), (ys.getD 57 undef), (ys.getD 58 undef), (ys.getD 59 undef), (ys.getD 60 undef), (ys.getD 61 undef), (ys.getD 62 undef), (ys.getD 63 undef), (ys.getD 64 undef), (ys.getD 65 undef), undef, undef, undef, undef, undef, undef, undef, undef, undef, undef, undef, undef, undef, undef, undef, undef, undef, undef, undef, undef, undef, undef, undef, undef, undef, undef, undef, undef, undef, undef] H))
 else (
 K0 [(.int .i64 t0), (.int .i64 t1), (.slice t2 t2l 0), (.agg #[(.int .i64 t3_0), (.int .u64 t3_1), (.slice t3_2 t3_2l 0), (.int .i64 t3_3), (.int .i64 t3_4)]), undef, undef, undef, (.pointer (some ⟨t7, 0, none⟩)), (.bool t8), (.pointer t9), (.pointer t10), (.pointer t11), (.int .i64 t12), (.int .i64 t13), (ys.getD 14 undef), (ys.getD 15 undef), undef, undef, undef, undef, (.int .i64 t20), (.int .i64 t21), (.int .i64 t22), (.int .i64 t23), (.int .i64 t24), (.int .u64 t25), (.int .i64 t26), (.tuple #[(.pointer t27_0), (.pointer t27_1), (.pointer t27_2)]), (.int .i64 t28), (.int .i64 t29), (.tuple #[(.pointer t30_0), (.pointer t30_1), (.pointer t30_2)]), (.pointer t31), (.pointer t32), (.pointer t33), (.pointer t34), (.bool false), (.int .i64 t36), (.int .i64 t37), (.int .i64 t38), (.int .i64 t39), (.int .i64 t40), (.int .i64 t41), (.int .i64 t13), (.slice t2 t2l 0), (.int .i64 ((t2l : Nat) : Int)), (.bool (decide (t13 < ((t2l : Nat) : Int)))), (.bool false), undef, undef, (.bool false), (ys.getD 50 undef), (ys.getD 51 undef), (ys.getD 52 undef), (ys.getD 53 undef), (ys.getD 54 undef), (ys.getD 55 undef), (ys.getD 56 undef), (ys.getD 57 undef), (ys.getD 58 undef), (ys.getD 59 undef), (ys.getD 60 undef), (ys.getD 61 undef), (ys.getD 62 undef), (ys.getD 63 undef), (ys.getD 64 undef), (ys.getD 65 undef), undef, undef, undef, undef, undef, undef, undef, undef, undef, undef, undef, undef, undef, undef, undef, undef, undef, undef, undef, undef, undef, undef, undef, undef, undef, undef, undef, undef, undef, undef] H))) :
    LA en L_crossbarlaw15_HashSteps_0 [(.int .i64 t0), (.int .i64 t1), (.slice t2 t2l 0), (.agg #[(.int .i64 t3_0), (.int .u64 t3_1), (.slice t3_2 t3_2l 0), (.int .i64 t3_3), (.int .i64 t3_4)]), undef, undef, undef, (.pointer (some ⟨t7, 0, none⟩)), (.bool t8), (.pointer t9), (.pointer t10), (.pointer t11), (.int .i64 t12), (.int .i64 t13), t14, t15, undef, undef, undef, undef, (.int .i64 t20), (.int .i64 t21), (.int .i64 t22), (.int .i64 t23), (.int .i64 t24), (.int .u64 t25), (.int .i64 t26), (.tuple #[(.pointer t27_0), (.pointer t27_1), (.pointer t27_2)]), (.int .i64 t28), (.int .i64 t29), (.tuple #[(.pointer t30_0), (.pointer t30_1), (.pointer t30_2)]), (.pointer t31), (.pointer t32), (.pointer t33), (.pointer t34), (.bool false), (.int .i64 t36), (.int .i64 t37), (.int .i64 t38), (.int .i64 t39), (.int .i64 t40), (.int .i64 t41), t42, t43, t44, t45, t46, t47, t48, t49, t50, t51, t52, t53, t54, t55, t56, t57, t58, t59, t60, t61, t62, t63, t64, t65, undef, undef, undef, undef, undef, undef, undef, undef, undef, undef, undef, undef, undef, undef, undef, undef, undef, undef, undef, undef, undef, undef, undef, undef, undef, undef, undef, undef, undef, undef] H [(X.exit 0, K0), (X.ret, K1)] := by
  refine LA_rule (Z := []) (fun m xs H' => AS.asBool (xs.getD 8 undef) fun t8 => AS.asInt .i64 (xs.getD 13 undef) fun t13 => I m t8 t13 H') ?_ n H ?_
  · intro n H
    suffices hs : ∀ s42 : Value, ∀ s43 : Value, ∀ s44 : Value, ∀ s45 : Value, ∀ s46 : Value, ∀ s47 : Value, ∀ s48 : Value, ∀ s49 : Value, ∀ s53 : Value, ∀ s54 : Value, ∀ s55 : Value, ∀ s56 : Value, ∀ s57 : Value, ∀ s58 : Value, ∀ s59 : Value, ∀ s60 : Value, ∀ s61 : Value, ∀ s52 : Value, ∀ s62 : Value, ∀ s63 : Value, ∀ s14 : Value, ∀ s15 : Value, ∀ s64 : Value, ∀ s65 : Value, ∀ s8 : Value, ∀ s50 : Value, ∀ s51 : Value, ∀ s13 : Value, ((AS.asBool s8 fun t8 => AS.asInt .i64 s13 fun t13 => I n t8 t13 H) → wpCode en L_crossbarlaw15_HashSteps_0 [] [(.int .i64 t0), (.int .i64 t1), (.slice t2 t2l 0), (.agg #[(.int .i64 t3_0), (.int .u64 t3_1), (.slice t3_2 t3_2l 0), (.int .i64 t3_3), (.int .i64 t3_4)]), undef, undef, undef, (.pointer (some ⟨t7, 0, none⟩)), s8, (.pointer t9), (.pointer t10), (.pointer t11), (.int .i64 t12), s13, s14, s15, undef, undef, undef, undef, (.int .i64 t20), (.int .i64 t21), (.int .i64 t22), (.int .i64 t23), (.int .i64 t24), (.int .u64 t25), (.int .i64 t26), (.tuple #[(.pointer t27_0), (.pointer t27_1), (.pointer t27_2)]), (.int .i64 t28), (.int .i64 t29), (.tuple #[(.pointer t30_0), (.pointer t30_1), (.pointer t30_2)]), (.pointer t31), (.pointer t32), (.pointer t33), (.pointer t34), (.bool false), (.int .i64 t36), (.int .i64 t37), (.int .i64 t38), (.int .i64 t39), (.int .i64 t40), (.int .i64 t41), s42, s43, s44, s45, s46, s47, s48, s49, s50, s51, s52, s53, s54, s55, s56, s57, s58, s59, s60, s61, s62, s63, s64, s65, undef, undef, undef, undef, undef, undef, undef, undef, undef, undef, undef, undef, undef, undef, undef, undef, undef, undef, undef, undef, undef, undef, undef, undef, undef, undef, undef, undef, undef, undef] H (loopQ (fun m xs H' => AS.asBool (xs.getD 8 undef) fun t8 => AS.asInt .i64 (xs.getD 13 undef) fun t13 => I m t8 t13 H') n [(X.exit 0, K0), (X.ret, K1)])) by
      apply turnInto hs
      kernel_rfl
    intro s42 s43 s44 s45 s46 s47 s48 s49 s53 s54 s55 s56 s57 s58 s59 s60 s61 s52 s62 s63 s14 s15 s64 s65 s8 s50 s51 s13 hP
    replace hP := asBool_elim hP
    obtain ⟨t8, rfl, hP⟩ := hP
    replace hP := asInt_elim hP
    obtain ⟨t13, rfl, hP⟩ := hP
    apply turnInto (hstep n t8 t13 [(.int .i64 t0), (.int .i64 t1), (.slice t2 t2l 0), (.agg #[(.int .i64 t3_0), (.int .u64 t3_1), (.slice t3_2 t3_2l 0), (.int .i64 t3_3), (.int .i64 t3_4)]), undef, undef, undef, (.pointer (some ⟨t7, 0, none⟩)), (.bool t8), (.pointer t9), (.pointer t10), (.pointer t11), (.int .i64 t12), (.int .i64 t13), s14, s15, undef, undef, undef, undef, (.int .i64 t20), (.int .i64 t21), (.int .i64 t22), (.int .i64 t23), (.int .i64 t24), (.int .u64 t25), (.int .i64 t26), (.tuple #[(.pointer t27_0), (.pointer t27_1), (.pointer t27_2)]), (.int .i64 t28), (.int .i64 t29), (.tuple #[(.pointer t30_0), (.pointer t30_1), (.pointer t30_2)]), (.pointer t31), (.pointer t32), (.pointer t33), (.pointer t34), (.bool false), (.int .i64 t36), (.int .i64 t37), (.int .i64 t38), (.int .i64 t39), (.int .i64 t40), (.int .i64 t41), s42, s43, s44, s45, s46, s47, s48, s49, s50, s51, s52, s53, s54, s55, s56, s57, s58, s59, s60, s61, s62, s63, s64, s65, undef, undef, undef, undef, undef, undef, undef, undef, undef, undef, undef, undef, undef, undef, undef, undef, undef, undef, undef, undef, undef, undef, undef, undef, undef, undef, undef, undef, undef, undef] H hP)
    kernel_rfl
  · apply turnInto h0
    kernel_rfl

end Go.Proofs.YtjggeoghlicmdaaGreat
