/-
  What functions of this seat's program need (printed by a program, checked by the kernel).
-/
import Derived.Test.YtmgkngdbphkmmaaDoorNames
import Derived.Test.YtmgkngdbphkmmaaDoorAs41
namespace Go.Proofs.YtmgkngdbphkmmaaDoor
open Go Go.AS Go.RowKit
set_option linter.unusedVariables false
set_option maxRecDepth 100000

/-! crossbarlaw06_FlowPlaces -/
noncomputable def L_crossbarlaw06_FlowPlaces_0 : Code := loopAt Go.Proofs.Tryd.f10 0

theorem vc_crossbarlaw06_FlowPlaces (x0 : Option Addr) (x0l : Nat) (H : Heap) (R : Value → Heap → Prop) :
    (
 CA en F.crossbarlaw06_Big [(.slice x0 x0l 0)] H fun v1 H2 =>
 ∃ b3, v1 = (.bool b3) ∧
 bif b3 then (
 CA en F.crossbarlaw06_known [] H2 fun v4 H5 =>
 ∃ b6, v4 = (.bool b6) ∧
 R (.bool b6) H5)
 else (
 CA en F.flow_Places [(.slice x0 x0l 0)] H2 fun v7 H8 =>
 ∃ a9 i10, v7 = (.slice a9 i10 0) ∧
 CA en F.flow_Targets [(.slice x0 x0l 0)] H8 fun v11 H12 =>
 ∃ a13 i14, ∃ n15, v11 = (.tuple #[(.slice a13 i14 0), (.int .i64 n15)]) ∧
 bif (((i10 : Nat) : Int) != ((x0l : Nat) : Int)) then (
 R (.bool false) H12)
 else (
 bif (n15 == 0) then (
 bif (((i14 : Nat) : Int) != ((x0l : Nat) : Int)) then (
 R (.bool false) H12)
 else (
 LA en L_crossbarlaw06_FlowPlaces_0 [(.slice x0 x0l 0), undef, (.bool false), (.slice a9 i10 0), (.slice a13 i14 0), (.int .i64 n15), (.int .i64 0), (.int .i64 0), (.slice x0 x0l 0), (.bool false), undef, (.slice x0 x0l 0), (.slice a9 i10 0), (.tuple #[(.slice a13 i14 0), (.int .i64 n15)]), (.slice x0 x0l 0), (.tuple #[(.slice a13 i14 0), (.int .i64 n15)]), (.slice a13 i14 0), (.int .i64 n15), (.slice a9 i10 0), (.int .i64 ((i10 : Nat) : Int)), (.slice x0 x0l 0), (.int .i64 ((x0l : Nat) : Int)), (.bool (((i10 : Nat) : Int) != ((x0l : Nat) : Int))), (.bool false), (.int .i64 n15), (.bool (n15 == 0)), (.bool true), (.slice a13 i14 0), (.int .i64 ((i14 : Nat) : Int)), (.slice x0 x0l 0), (.int .i64 ((x0l : Nat) : Int)), (.bool (((i14 : Nat) : Int) != ((x0l : Nat) : Int))), (.bool (((i14 : Nat) : Int) != ((x0l : Nat) : Int))), (.bool false), undef, undef, undef, undef, undef, undef, undef, undef, undef, undef, undef, undef, undef, undef, undef, undef, undef, undef, undef, undef, undef, undef, undef, undef, undef, undef, undef, undef, undef, undef, undef, undef, undef, undef, undef, undef, undef, undef, undef, undef, undef, undef, undef, undef, undef, undef, undef, undef, undef, undef, undef, undef, undef, undef, undef, undef, undef, undef, undef, undef, undef, undef, undef, undef, undef, undef, undef, undef, undef, undef, undef, undef, undef] H12 [(X.exit 0, fun (y16 : Fr) (H17 : Heap) =>
 AS.asBool (y16.getD 2 undef) fun b18 =>
 CA en F.crossbarlaw06_known [] H17 fun v19 H20 =>
 ∃ b21, v19 = (.bool b21) ∧
 R (.bool b21) H20),
 (X.ret, fun (y22 : Fr) (H23 : Heap) =>
 AS.asBool (y22.getD 2 undef) fun b24 =>
 R (.bool b24) H23)]))
 else (
 LA en L_crossbarlaw06_FlowPlaces_0 [(.slice x0 x0l 0), undef, (.bool false), (.slice a9 i10 0), (.slice a13 i14 0), (.int .i64 n15), (.int .i64 0), (.int .i64 0), (.slice x0 x0l 0), (.bool false), undef, (.slice x0 x0l 0), (.slice a9 i10 0), (.tuple #[(.slice a13 i14 0), (.int .i64 n15)]), (.slice x0 x0l 0), (.tuple #[(.slice a13 i14 0), (.int .i64 n15)]), (.slice a13 i14 0), (.int .i64 n15), (.slice a9 i10 0), (.int .i64 ((i10 : Nat) : Int)), (.slice x0 x0l 0), (.int .i64 ((x0l : Nat) : Int)), (.bool (((i10 : Nat) : Int) != ((x0l : Nat) : Int))), (.bool false), (.int .i64 n15), (.bool (n15 == 0)), (.bool false), undef, undef, undef, undef, undef, (.bool false), (.bool false), undef, undef, undef, undef, undef, undef, undef, undef, undef, undef, undef, undef, undef, undef, undef, undef, undef, undef, undef, undef, undef, undef, undef, undef, undef, undef, undef, undef, undef, undef, undef, undef, undef, undef, undef, undef, undef, undef, undef, undef, undef, undef, undef, undef, undef, undef, undef, undef, undef, undef, undef, undef, undef, undef, undef, undef, undef, undef, undef, undef, undef, undef, undef, undef, undef, undef, undef, undef, undef, undef, undef, undef, undef] H12 [(X.exit 0, fun (y25 : Fr) (H26 : Heap) =>
 AS.asBool (y25.getD 2 undef) fun b27 =>
 CA en F.crossbarlaw06_known [] H26 fun v28 H29 =>
 ∃ b30, v28 = (.bool b30) ∧
 R (.bool b30) H29),
 (X.ret, fun (y31 : Fr) (H32 : Heap) =>
 AS.asBool (y31.getD 2 undef) fun b33 =>
 R (.bool b33) H32)])))) →
    CA en F.crossbarlaw06_FlowPlaces [(.slice x0 x0l 0)] H R := by
  intro h
  refine wpFn_ok (Z := [[(2, (.bool false))]]) (fn := Go.Proofs.Tryd.f10) ?_ ?_ ?_
  · kernel_rfl
  · kernel_rfl
  · apply turnInto h
    kernel_rfl

theorem use_crossbarlaw06_FlowPlaces_0 {t0 : Option Addr} {t0l : Nat} {t3 : Option Addr} {t3l : Nat} {t4 : Option Addr} {t4l : Nat} {t5 : Int} {t8 : Option Addr} {t8l : Nat} {t11 : Option Addr} {t11l : Nat} {t12 : Option Addr} {t12l : Nat} {t13_0 : Option Addr} {t13_0l : Nat} {t13_1 : Int} {t14 : Option Addr} {t14l : Nat} {t15_0 : Option Addr} {t15_0l : Nat} {t15_1 : Int} {t16 : Option Addr} {t16l : Nat} {t17 : Int} {t18 : Option Addr} {t18l : Nat} {t19 : Int} {t20 : Option Addr} {t20l : Nat} {t21 : Int} {t22 : Bool} {t24 : Int} {t25 : Bool} {t26 : Bool} {t27 : Value} {t28 : Value} {t29 : Value} {t30 : Value} {t31 : Value} {t32 : Bool} {K0 : Fr → Heap → Prop} {K1 : Fr → Heap → Prop} {t2 : Bool} {t6 : Int} {t7 : Int} {t34 : Value} {t35 : Value} {t36 : Value} {t37 : Value} {t38 : Value} {t39 : Value} {t40 : Value} {t41 : Value} {t42 : Value} {t43 : Value} {t44 : Value} {t45 : Value} {t46 : Value} {t47 : Value} {t48 : Value} {t49 : Value} {t50 : Value} {t51 : Value} {t52 : Value} {t53 : Value} {t54 : Value} {t55 : Value} {t56 : Value} {t57 : Value} {t58 : Value} {t59 : Value} {t60 : Value} {t61 : Value} {t62 : Value} {t63 : Value} {t64 : Value} {t65 : Value} {t66 : Value} {t67 : Value} {t68 : Value} {t69 : Value} {t70 : Value} {t71 : Value} {t72 : Value} {t73 : Value} {t74 : Value} {t75 : Value} {t76 : Value} {t77 : Value} {t78 : Value} {t79 : Value} {t80 : Value} {t81 : Value} {t82 : Value} {t83 : Value} {t84 : Value} {t85 : Value} {t86 : Value} {t87 : Value} {t88 : Value} {t89 : Value} {t90 : Value} {t91 : Value} {t92 : Value} {t93 : Value} {t94 : Value} {t95 : Value} {t96 : Value} {t97 : Value} {t98 : Value} {t99 : Value} {t100 : Value} {t101 : Value} {t102 : Value} {t103 : Value} {t104 : Value} {t105 : Value} {H : Heap} (I : Nat → Bool → Int → Int → Heap → Prop) (n : Nat) (h0 : I n t2 t6 t7 H)
    (hstep : ∀ (n : Nat) (t2 : Bool) (t6 : Int) (t7 : Int) (ys : Fr) (H : Heap), I n t2 t6 t7 H →
    (
 bif (decide (t7 < ((t0l : Nat) : Int))) then (
 inB t7 t3l ∧
 asRow t3 fun i1 i2 =>
 ∃ n3, H.cell i1 (i2 + (t7.toNat * 1)) = some (.int .i64 n3) ∧
 bif (n3 != t6) then (
 K1 [(.slice t0 t0l 0), undef, (.bool false), (.slice t3 t3l 0), (.slice t4 t4l 0), (.int .i64 t5), (.int .i64 t6), (.int .i64 t7), (.slice t8 t8l 0), (.bool false), undef, (.slice t11 t11l 0), (.slice t12 t12l 0), (.tuple #[(.slice t13_0 t13_0l 0), (.int .i64 t13_1)]), (.slice t14 t14l 0), (.tuple #[(.slice t15_0 t15_0l 0), (.int .i64 t15_1)]), (.slice t16 t16l 0), (.int .i64 t17), (.slice t18 t18l 0), (.int .i64 t19), (.slice t20 t20l 0), (.int .i64 t21), (.bool t22), (.bool false), (.int .i64 t24), (.bool t25), (.bool t26), t27, t28, t29, t30, t31, (.bool t32), (.bool false), (.int .i64 t7), (.slice t0 t0l 0), (.int .i64 ((t0l : Nat) : Int)), (.bool true), (ys.getD 38 undef), (ys.getD 39 undef), (.slice t3 t3l 0), (.int .i64 t7), (.pointer (some ⟨i1, (i2 + (t7.toNat * 1)), none⟩)), (.int .i64 n3), (.int .i64 t6), (.bool true), (ys.getD 46 undef), (ys.getD 47 undef), (ys.getD 48 undef), (ys.getD 49 undef), (ys.getD 50 undef), (ys.getD 51 undef), (ys.getD 52 undef), (ys.getD 53 undef), (ys.getD 54 undef), (ys.getD 55 undef), (ys.getD 56 undef), (ys.getD 57 undef), (ys.getD 58 undef), (ys.getD 59 undef), (ys.getD 60 undef), (ys.getD 61 undef), (ys.getD 62 undef), (ys.getD 63 undef), (ys.getD 64 undef), (ys.getD 65 undef), (ys.getD 66 undef), (ys.getD 67 undef), (ys.getD 68 undef), (ys.getD 69 undef), (ys.getD 70 undef), (ys.getD 71 undef), (ys.getD 72 undef), (ys.getD 73 undef), (ys.getD 74 undef), (ys.getD 75 undef), (ys.getD 76 undef), (ys.getD 77 undef), (ys.getD 78 undef), (ys.getD 79 undef), (ys.getD 80 undef), (ys.getD 81 undef), (ys.getD 82 undef), (ys.getD 83 undef), (ys.getD 84 undef), (ys.getD 85 undef), (ys.getD 86 undef), (ys.getD 87 undef), (ys.getD 88 undef), (ys.getD 89 undef), (ys.getD 90 undef), (ys.getD 91 undef), (ys.getD 92 undef), (ys.getD 93 undef), (ys.getD 94 undef), (ys.getD 95 undef), (ys.getD 96 undef), (ys.getD 97 undef), (ys.getD 98 undef), (ys.getD 99 undef), (ys.getD 100 undef), (ys.getD 101 undef), (ys.getD 102 undef), (ys.getD 103 undef), (ys.getD 104 undef), (ys.getD 105 undef), undef] H)
 else (
 inB t7 t0l ∧
 asRow t0 fun i4 i5 =>
 ∃ n6, H.cell i4 (i5 + (t7.toNat * 5)) = some (.int .i64 n6) ∧
 bif (n6 == 24) then (
 bif (t5 != 0) then (
 ∃ k7, k7 < n ∧
 I k7 t2 (IntKind.i64.wrap ((IntKind.i64.wrap (t6 + 1)) + 1)) (IntKind.i64.wrap (t7 + 1)) H)
 else (
 inB t7 t0l ∧
 asRow t0 fun i8 i9 =>
 ∃ n10, ∃ n11, ∃ n12, ∃ n13, ∃ n14, (H.bump 48).cellsAt i8 (i9 + (t7.toNat * 5)) 5 = some [(.int .i64 n10), (.int .i64 n11), (.int .i64 n12), (.int .i64 n13), (.int .i64 n14)] ∧
 CA en F.flow_Jumps [(.agg #[(.int .i64 n10), (.int .i64 n11), (.int .i64 n12), (.int .i64 n13), (.int .i64 n14)])] (H.bump 48) fun v15 H16 =>
 ∃ b17, v15 = (.bool b17) ∧
 inB t7 t4l ∧
 asRow t4 fun i18 i19 =>
 ∃ n20, H16.cell i18 (i19 + (t7.toNat * 1)) = some (.int .i64 n20) ∧
 bif (!(b17 == (decide (n20 ≥ 0)))) then (
 (
 K1 [(.slice t0 t0l 0), undef, (.bool false), (.slice t3 t3l 0), (.slice t4 t4l 0), (.int .i64 t5), (.int .i64 (IntKind.i64.wrap ((IntKind.i64.wrap (t6 + 1)) + 1))), (.int .i64 t7), (.slice t8 t8l 0), (.bool false), undef, (.slice t11 t11l 0), (.slice t12 t12l 0), (.tuple #[(.slice t13_0 t13_0l 0), (.int .i64 t13_1)]), (.slice t14 t14l 0), (.tuple #[(.slice t15_0 t15_0l 0), (.int .i64 t15_1)]), (.slice t16 t16l 0), (.int .i64 t17), (.slice t18 t18l 0), (.int .i64 t19), (.slice t20 t20l 0), (.int .i64 t21), (.bool t22), (.bool false), (.int .i64 t24), (.bool t25), (.bool t26), t27, t28, t29, t30, t31, (.bool t32), (.bool false), (.int .i64 t7), (.slice t0 t0l 0), (.int .i64 ((t0l : Nat) : Int)), (.bool true), (ys.getD 38 undef), (ys.getD 39 undef), (.slice t3 t3l 0), (.int .i64 t7), (.pointer (some ⟨i1, (i2 + (t7.toNat * 1)), none⟩)), (.int .i64 n3), (.int .i64 t6), (.bool false), (.int .i64 t6), (.int .i64 (IntKind.i64.wrap (t6 + 1))), (.slice t0 t0l 0), (.int .i64 t7), (.pointer (some ⟨i4, (i5 + (t7.toNat * 5)), none⟩)), (.pointer (some ⟨i4, (i5 + (t7.toNat * 5)), none⟩)), (.int .i64 n6), (.bool true), (.int .i64 (IntKind.i64.wrap (t6 + 1))), (.int .i64 (IntKind.i64.wrap ((IntKind.i64.wrap (t6 + 1)) + 1))), (.int .i64 t5), (.bool false), (.slice t0 t0l 0), (.int .i64 t7), (.pointer (some ⟨i8, (i9 + (t7.toNat * 5)), none⟩)), (.agg #[(.int .i64 n10), (.int .i64 n11), (.int .i64 n12), (.int .i64 n13), (.int .i64 n14)]), (.bool b17), (.slice t4 t4l 0), (.int .i64 t7), (.pointer (some ⟨i18, (i19 + (t7.toNat * 1)), none⟩)), (.int .i64 n20), (.bool (decide (n20 ≥ 0))), (.bool (!(b17 == (decide (n20 ≥ 0))))), (.bool true), undef, undef, undef, undef, undef, undef, undef, (.bool true), (.bool true), undef, undef, undef, undef, undef, undef, undef, undef, undef, undef, undef, undef, undef, undef, undef, undef, undef, undef, undef, undef, undef, undef, undef, undef, undef, undef, (.bool true), undef] H16) ∧
 (((decide (n20 ≥ 0)) = (decide (n20 ≥ 0))) ∧ ((decide (n20 ≥ 0)) = (decide (n20 ≥ 0))) ∧ True) ∧
 ((∃ n22, (H.bump 48).cell i18 (i19 + (t7.toNat * 1)) = some (.int .i64 n22) ∧
 n20 = n22) ∧ (∃ n21, H16.cell i18 (i19 + (t7.toNat * 1)) = some (.int .i64 n21) ∧
 n20 = n21) ∧ True) ∧
 True)
 else (
 inB t7 t4l ∧
 asRow t4 fun i23 i24 =>
 ∃ n25, H16.cell i23 (i24 + (t7.toNat * 1)) = some (.int .i64 n25) ∧
 bif (decide (n25 ≥ ((t0l : Nat) : Int))) then (
 (
 K1 [(.slice t0 t0l 0), undef, (.bool false), (.slice t3 t3l 0), (.slice t4 t4l 0), (.int .i64 t5), (.int .i64 (IntKind.i64.wrap ((IntKind.i64.wrap (t6 + 1)) + 1))), (.int .i64 t7), (.slice t8 t8l 0), (.bool false), undef, (.slice t11 t11l 0), (.slice t12 t12l 0), (.tuple #[(.slice t13_0 t13_0l 0), (.int .i64 t13_1)]), (.slice t14 t14l 0), (.tuple #[(.slice t15_0 t15_0l 0), (.int .i64 t15_1)]), (.slice t16 t16l 0), (.int .i64 t17), (.slice t18 t18l 0), (.int .i64 t19), (.slice t20 t20l 0), (.int .i64 t21), (.bool t22), (.bool false), (.int .i64 t24), (.bool t25), (.bool t26), t27, t28, t29, t30, t31, (.bool t32), (.bool false), (.int .i64 t7), (.slice t0 t0l 0), (.int .i64 ((t0l : Nat) : Int)), (.bool true), (ys.getD 38 undef), (ys.getD 39 undef), (.slice t3 t3l 0), (.int .i64 t7), (.pointer (some ⟨i1, (i2 + (t7.toNat * 1)), none⟩)), (.int .i64 n3), (.int .i64 t6), (.bool false), (.int .i64 t6), (.int .i64 (IntKind.i64.wrap (t6 + 1))), (.slice t0 t0l 0), (.int .i64 t7), (.pointer (some ⟨i4, (i5 + (t7.toNat * 5)), none⟩)), (.pointer (some ⟨i4, (i5 + (t7.toNat * 5)), none⟩)), (.int .i64 n6), (.bool true), (.int .i64 (IntKind.i64.wrap (t6 + 1))), (.int .i64 (IntKind.i64.wrap ((IntKind.i64.wrap (t6 + 1)) + 1))), (.int .i64 t5), (.bool false), (.slice t0 t0l 0), (.int .i64 t7), (.pointer (some ⟨i8, (i9 + (t7.toNat * 5)), none⟩)), (.agg #[(.int .i64 n10), (.int .i64 n11), (.int .i64 n12), (.int .i64 n13), (.int .i64 n14)]), (.bool b17), (.slice t4 t4l 0), (.int .i64 t7), (.pointer (some ⟨i18, (i19 + (t7.toNat * 1)), none⟩)), (.int .i64 n20), (.bool (decide (n20 ≥ 0))), (.bool (!(b17 == (decide (n20 ≥ 0))))), (.bool false), (.slice t4 t4l 0), (.int .i64 t7), (.pointer (some ⟨i23, (i24 + (t7.toNat * 1)), none⟩)), (.int .i64 n25), (.slice t0 t0l 0), (.int .i64 ((t0l : Nat) : Int)), (.bool (decide (n25 ≥ ((t0l : Nat) : Int)))), (.bool (decide (n25 ≥ ((t0l : Nat) : Int)))), (.bool true), undef, undef, undef, undef, undef, undef, undef, undef, undef, undef, undef, undef, undef, undef, undef, undef, undef, undef, undef, undef, undef, undef, undef, undef, undef, undef, (.bool true), undef] H16) ∧
 (((decide (n20 ≥ 0)) = (decide (n20 ≥ 0))) ∧ ((decide (n20 ≥ 0)) = (decide (n20 ≥ 0))) ∧ True) ∧
 ((∃ n27, (H.bump 48).cell i18 (i19 + (t7.toNat * 1)) = some (.int .i64 n27) ∧
 n20 = n27) ∧ (∃ n26, H16.cell i18 (i19 + (t7.toNat * 1)) = some (.int .i64 n26) ∧
 n20 = n26) ∧ True) ∧
 True)
 else (
 inB t7 t4l ∧
 asRow t4 fun i28 i29 =>
 ∃ n30, H16.cell i28 (i29 + (t7.toNat * 1)) = some (.int .i64 n30) ∧
 bif (decide (n30 ≥ 0)) then (
 inB t7 t4l ∧
 asRow t4 fun i31 i32 =>
 ∃ n33, H16.cell i31 (i32 + (t7.toNat * 1)) = some (.int .i64 n33) ∧
 inB n33 t3l ∧
 asRow t3 fun i34 i35 =>
 ∃ n36, H16.cell i34 (i35 + (n33.toNat * 1)) = some (.int .i64 n36) ∧
 inB t7 t3l ∧
 asRow t3 fun i37 i38 =>
 ∃ n39, H16.cell i37 (i38 + (t7.toNat * 1)) = some (.int .i64 n39) ∧
 inB t7 t0l ∧
 asRow t0 fun i40 i41 =>
 ∃ n42, H16.cell i40 ((i41 + (t7.toNat * 5)) + 3) = some (.int .i64 n42) ∧
 (
 bif (n36 != (IntKind.i64.wrap ((IntKind.i64.wrap (n39 + 1)) + n42))) then (
 K1 [(.slice t0 t0l 0), undef, (.bool false), (.slice t3 t3l 0), (.slice t4 t4l 0), (.int .i64 t5), (.int .i64 (IntKind.i64.wrap ((IntKind.i64.wrap (t6 + 1)) + 1))), (.int .i64 t7), (.slice t8 t8l 0), (.bool false), undef, (.slice t11 t11l 0), (.slice t12 t12l 0), (.tuple #[(.slice t13_0 t13_0l 0), (.int .i64 t13_1)]), (.slice t14 t14l 0), (.tuple #[(.slice t15_0 t15_0l 0), (.int .i64 t15_1)]), (.slice t16 t16l 0), (.int .i64 t17), (.slice t18 t18l 0), (.int .i64 t19), (.slice t20 t20l 0), (.int .i64 t21), (.bool t22), (.bool false), (.int .i64 t24), (.bool t25), (.bool t26), t27, t28, t29, t30, t31, (.bool t32), (.bool false), (.int .i64 t7), (.slice t0 t0l 0), (.int .i64 ((t0l : Nat) : Int)), (.bool true), (ys.getD 38 undef), (ys.getD 39 undef), (.slice t3 t3l 0), (.int .i64 t7), (.pointer (some ⟨i1, (i2 + (t7.toNat * 1)), none⟩)), (.int .i64 n3), (.int .i64 t6), (.bool false), (.int .i64 t6), (.int .i64 (IntKind.i64.wrap (t6 + 1))), (.slice t0 t0l 0), (.int .i64 t7), (.pointer (some ⟨i4, (i5 + (t7.toNat * 5)), none⟩)), (.pointer (some ⟨i4, (i5 + (t7.toNat * 5)), none⟩)), (.int .i64 n6), (.bool true), (.int .i64 (IntKind.i64.wrap (t6 + 1))), (.int .i64 (IntKind.i64.wrap ((IntKind.i64.wrap (t6 + 1)) + 1))), (.int .i64 t5), (.bool false), (.slice t0 t0l 0), (.int .i64 t7), (.pointer (some ⟨i8, (i9 + (t7.toNat * 5)), none⟩)), (.agg #[(.int .i64 n10), (.int .i64 n11), (.int .i64 n12), (.int .i64 n13), (.int .i64 n14)]), (.bool b17), (.slice t4 t4l 0), (.int .i64 t7), (.pointer (some ⟨i18, (i19 + (t7.toNat * 1)), none⟩)), (.int .i64 n20), (.bool (decide (n20 ≥ 0))), (.bool (!(b17 == (decide (n20 ≥ 0))))), (.bool false), (.slice t4 t4l 0), (.int .i64 t7), (.pointer (some ⟨i23, (i24 + (t7.toNat * 1)), none⟩)), (.int .i64 n25), (.slice t0 t0l 0), (.int .i64 ((t0l : Nat) : Int)), (.bool (decide (n25 ≥ ((t0l : Nat) : Int)))), (.bool (decide (n25 ≥ ((t0l : Nat) : Int)))), (.bool false), (.slice t4 t4l 0), (.int .i64 t7), (.pointer (some ⟨i28, (i29 + (t7.toNat * 1)), none⟩)), (.int .i64 n30), (.bool (decide (n30 ≥ 0))), (.bool true), (.slice t3 t3l 0), (.slice t4 t4l 0), (.int .i64 t7), (.pointer (some ⟨i31, (i32 + (t7.toNat * 1)), none⟩)), (.int .i64 n33), (.pointer (some ⟨i34, (i35 + (n33.toNat * 1)), none⟩)), (.int .i64 n36), (.slice t3 t3l 0), (.int .i64 t7), (.pointer (some ⟨i37, (i38 + (t7.toNat * 1)), none⟩)), (.int .i64 n39), (.int .i64 (IntKind.i64.wrap (n39 + 1))), (.slice t0 t0l 0), (.int .i64 t7), (.pointer (some ⟨i40, (i41 + (t7.toNat * 5)), none⟩)), (.pointer (some ⟨i40, ((i41 + (t7.toNat * 5)) + 3), none⟩)), (.int .i64 n42), (.int .i64 (IntKind.i64.wrap ((IntKind.i64.wrap (n39 + 1)) + n42))), (.bool (n36 != (IntKind.i64.wrap ((IntKind.i64.wrap (n39 + 1)) + n42)))), (.bool (n36 != (IntKind.i64.wrap ((IntKind.i64.wrap (n39 + 1)) + n42)))), (.bool true), undef] H16)
 else (
 ∃ k45, k45 < n ∧
 I k45 t2 (IntKind.i64.wrap ((IntKind.i64.wrap (t6 + 1)) + 1)) (IntKind.i64.wrap (t7 + 1)) H16)) ∧
 (((decide (n20 ≥ 0)) = (decide (n20 ≥ 0))) ∧ ((decide (n20 ≥ 0)) = (decide (n20 ≥ 0))) ∧ True) ∧
 ((∃ n44, (H.bump 48).cell i18 (i19 + (t7.toNat * 1)) = some (.int .i64 n44) ∧
 n20 = n44) ∧ (∃ n43, H16.cell i18 (i19 + (t7.toNat * 1)) = some (.int .i64 n43) ∧
 n20 = n43) ∧ True) ∧
 True)
 else (
 (
 ∃ k48, k48 < n ∧
 I k48 t2 (IntKind.i64.wrap ((IntKind.i64.wrap (t6 + 1)) + 1)) (IntKind.i64.wrap (t7 + 1)) H16) ∧
 (((decide (n20 ≥ 0)) = (decide (n20 ≥ 0))) ∧ ((decide (n20 ≥ 0)) = (decide (n20 ≥ 0))) ∧ True) ∧
 ((∃ n47, (H.bump 48).cell i18 (i19 + (t7.toNat * 1)) = some (.int .i64 n47) ∧
 n20 = n47) ∧ (∃ n46, H16.cell i18 (i19 + (t7.toNat * 1)) = some (.int .i64 n46) ∧
 n20 = n46) ∧ True) ∧
 True)))))
 else (
 bif (t5 != 0) then (
 ∃ k49, k49 < n ∧
 I k49 t2 (IntKind.i64.wrap (t6 + 1)) (IntKind.i64.wrap (t7 + 1)) H)
 else (
 inB t7 t0l ∧
 asRow t0 fun i50 i51 =>
 ∃ n52, ∃ n53, ∃ n54, ∃ n55, ∃ n56, (H.bump 48).cellsAt i50 (i51 + (t7.toNat * 5)) 5 = some [(.int .i64 n52), (.int .i64 n53), (.int .i64 n54), (.int .i64 n55), (.int .i64 n56)] ∧
 CA en F.flow_Jumps [(.agg #[(.int .i64 n52), (.int .i64 n53), (.int .i64 n54), (.int .i64 n55), (.int .i64 n56)])] (H.bump 48) fun v57 H58 =>
 ∃ b59, v57 = (.bool b59) ∧
 inB t7 t4l ∧
 asRow t4 fun i60 i61 =>
 ∃ n62, H58.cell i60 (i61 + (t7.toNat * 1)) = some (.int .i64 n62) ∧
 bif (!(b59 == (decide (n62 ≥ 0)))) then (
 (
 K1 [(.slice t0 t0l 0), undef, (.bool false), (.slice t3 t3l 0), (.slice t4 t4l 0), (.int .i64 t5), (.int .i64 (IntKind.i64.wrap (t6 + 1))), (.int .i64 t7), (.slice t8 t8l 0), (.bool false), undef, (.slice t11 t11l 0), (.slice t12 t12l 0), (.tuple #[(.slice t13_0 t13_0l 0), (.int .i64 t13_1)]), (.slice t14 t14l 0), (.tuple #[(.slice t15_0 t15_0l 0), (.int .i64 t15_1)]), (.slice t16 t16l 0), (.int .i64 t17), (.slice t18 t18l 0), (.int .i64 t19), (.slice t20 t20l 0), (.int .i64 t21), (.bool t22), (.bool false), (.int .i64 t24), (.bool t25), (.bool t26), t27, t28, t29, t30, t31, (.bool t32), (.bool false), (.int .i64 t7), (.slice t0 t0l 0), (.int .i64 ((t0l : Nat) : Int)), (.bool true), (ys.getD 38 undef), (ys.getD 39 undef), (.slice t3 t3l 0), (.int .i64 t7), (.pointer (some ⟨i1, (i2 + (t7.toNat * 1)), none⟩)), (.int .i64 n3), (.int .i64 t6), (.bool false), (.int .i64 t6), (.int .i64 (IntKind.i64.wrap (t6 + 1))), (.slice t0 t0l 0), (.int .i64 t7), (.pointer (some ⟨i4, (i5 + (t7.toNat * 5)), none⟩)), (.pointer (some ⟨i4, (i5 + (t7.toNat * 5)), none⟩)), (.int .i64 n6), (.bool false), (ys.getD 54 undef), (ys.getD 55 undef), (.int .i64 t5), (.bool false), (.slice t0 t0l 0), (.int .i64 t7), (.pointer (some ⟨i50, (i51 + (t7.toNat * 5)), none⟩)), (.agg #[(.int .i64 n52), (.int .i64 n53), (.int .i64 n54), (.int .i64 n55), (.int .i64 n56)]), (.bool b59), (.slice t4 t4l 0), (.int .i64 t7), (.pointer (some ⟨i60, (i61 + (t7.toNat * 1)), none⟩)), (.int .i64 n62), (.bool (decide (n62 ≥ 0))), (.bool (!(b59 == (decide (n62 ≥ 0))))), (.bool true), undef, undef, undef, undef, undef, undef, undef, (.bool true), (.bool true), undef, undef, undef, undef, undef, undef, undef, undef, undef, undef, undef, undef, undef, undef, undef, undef, undef, undef, undef, undef, undef, undef, undef, undef, undef, undef, (.bool true), undef] H58) ∧
 (((decide (n62 ≥ 0)) = (decide (n62 ≥ 0))) ∧ ((decide (n62 ≥ 0)) = (decide (n62 ≥ 0))) ∧ True) ∧
 ((∃ n64, (H.bump 48).cell i60 (i61 + (t7.toNat * 1)) = some (.int .i64 n64) ∧
 n62 = n64) ∧ (∃ n63, H58.cell i60 (i61 + (t7.toNat * 1)) = some (.int .i64 n63) ∧
 n62 = n63) ∧ True) ∧
 True)
 else (
 inB t7 t4l ∧
 asRow t4 fun i65 i66 =>
 ∃ n67, H58.cell i65 (i66 + (t7.toNat * 1)) = some (.int .i64 n67) ∧
 bif (decide (n67 ≥ ((t0l : Nat) : Int))) then (
 (
 K1 [(.slice t0 t0l 0), undef, (.bool false), (.slice t3 t3l 0), (.slice t4 t4l 0), (.int .i64 t5), (.int .i64 (IntKind.i64.wrap (t6 + 1))), (.int .i64 t7), (.slice t8 t8l 0), (.bool false), undef, (.slice t11 t11l 0), (.slice t12 t12l 0), (.tuple #[(.slice t13_0 t13_0l 0), (.int .i64 t13_1)]), (.slice t14 t14l 0), (.tuple #[(.slice t15_0 t15_0l 0), (.int .i64 t15_1)]), (.slice t16 t16l 0), (.int .i64 t17), (.slice t18 t18l 0), (.int .i64 t19), (.slice t20 t20l 0), (.int .i64 t21), (.bool t22), (.bool false), (.int .i64 t24), (.bool t25), (.bool t26), t27, t28, t29, t30, t31, (.bool t32), (.bool false), (.int .i64 t7), (.slice t0 t0l 0), (.int .i64 ((t0l : Nat) : Int)), (.bool true), (ys.getD 38 undef), (ys.getD 39 undef), (.slice t3 t3l 0), (.int .i64 t7), (.pointer (some ⟨i1, (i2 + (t7.toNat * 1)), none⟩)), (.int .i64 n3), (.int .i64 t6), (.bool false), (.int .i64 t6), (.int .i64 (IntKind.i64.wrap (t6 + 1))), (.slice t0 t0l 0), (.int .i64 t7), (.pointer (some ⟨i4, (i5 + (t7.toNat * 5)), none⟩)), (.pointer (some ⟨i4, (i5 + (t7.toNat * 5)), none⟩)), (.int .i64 n6), (.bool false), (ys.getD 54 undef), (ys.getD 55 undef), (.int .i64 t5), (.bool false), (.slice t0 t0l 0), (.int .i64 t7), (.pointer (some ⟨i50, (i51 + (t7.toNat * 5)), none⟩)), (.agg #[(.int .i64 n52), (.int .i64 n53), (.int .i64 n54), (.int .i64 n55), (.int .i64 n56)]), (.bool b59), (.slice t4 t4l 0), (.int .i64 t7), (.pointer (some ⟨i60, (i61 + (t7.toNat * 1)), none⟩)), (.int .i64 n62), (.bool (decide (n62 ≥ 0))), (.bool (!(b59 == (decide (n62 ≥ 0))))), (.bool false), (.slice t4 t4l 0), (.int .i64 t7), (.pointer (some ⟨i65, (i66 + (t7.toNat * 1)), none⟩)), (.int .i64 n67), (.slice t0 t0l 0), (.int .i64 ((t0l : Nat) : Int)), (.bool (decide (n67 ≥ ((t0l : Nat) : Int)))), (.bool (decide (n67 ≥ ((t0l : Nat) : Int)))), (.bool true), undef, undef, undef, undef, undef, undef, undef, undef, undef, undef, undef, undef, undef, undef, undef, undef, undef, undef, undef, undef, undef, undef, undef, undef, undef, undef, (.bool true), undef] H58) ∧
 (((decide (n62 ≥ 0)) = (decide (n62 ≥ 0))) ∧ ((decide (n62 ≥ 0)) = (decide (n62 ≥ 0))) ∧ True) ∧
 ((∃ n69, (H.bump 48).cell i60 (i61 + (t7.toNat * 1)) = some (.int .i64 n69) ∧
 n62 = n69) ∧ (∃ n68, H58.cell i60 (i61 + (t7.toNat * 1)) = some (.int .i64 n68) ∧
 n62 = n68) ∧ True) ∧
 True)
 else (
 inB t7 t4l ∧
 asRow t4 fun i70 i71 =>
 ∃ n72, H58.cell i70 (i71 + (t7.toNat * 1)) = some (.int .i64 n72) ∧
 bif (decide (n72 ≥ 0)) then (
 inB t7 t4l ∧
 asRow t4 fun i73 i74 =>
 ∃ n75, H58.cell i73 (i74 + (t7.toNat * 1)) = some (.int .i64 n75) ∧
 inB n75 t3l ∧
 asRow t3 fun i76 i77 =>
 ∃ n78, H58.cell i76 (i77 + (n75.toNat * 1)) = some (.int .i64 n78) ∧
 inB t7 t3l ∧
 asRow t3 fun i79 i80 =>
 ∃ n81, H58.cell i79 (i80 + (t7.toNat * 1)) = some (.int .i64 n81) ∧
 inB t7 t0l ∧
 asRow t0 fun i82 i83 =>
 ∃ n84, H58.cell i82 ((i83 + (t7.toNat * 5)) + 3) = some (.int .i64 n84) ∧
 (
 bif (n78 != (IntKind.i64.wrap ((IntKind.i64.wrap (n81 + 1)) + n84))) then (
 K1 [(.slice t0 t0l 0), undef, (.bool false), (.slice t3 t3l 0), (.slice t4 t4l 0), (.int .i64 t5), (.int .i64 (IntKind.i64.wrap (t6 + 1))), (.int .i64 t7), (.slice t8 t8l 0), (.bool false), undef, (.slice t11 t11l 0), (.slice t12 t12l 0), (.tuple #[(.slice t13_0 t13_0l 0), (.int .i64 t13_1)]), (.slice t14 t14l 0), (.tuple #[(.slice t15_0 t15_0l 0), (.int .i64 t15_1)]), (.slice t16 t16l 0), (.int .i64 t17), (.slice t18 t18l 0), (.int .i64 t19), (.slice t20 t20l 0), (.int .i64 t21), (.bool t22), (.bool false), (.int .i64 t24), (.bool t25), (.bool t26), t27, t28, t29, t30, t31, (.bool t32), (.bool false), (.int .i64 t7), (.slice t0 t0l 0), (.int .i64 ((t0l : Nat) : Int)), (.bool true), (ys.getD 38 undef), (ys.getD 39 undef), (.slice t3 t3l 0), (.int .i64 t7), (.pointer (some ⟨i1, (i2 + (t7.toNat * 1)), none⟩)), (.int .i64 n3), (.int .i64 t6), (.bool false), (.int .i64 t6), (.int .i64 (IntKind.i64.wrap (t6 + 1))), (.slice t0 t0l 0), (.int .i64 t7), (.pointer (some ⟨i4, (i5 + (t7.toNat * 5)), none⟩)), (.pointer (some ⟨i4, (i5 + (t7.toNat * 5)), none⟩)), (.int .i64 n6), (.bool false), (ys.getD 54 undef), (ys.getD 55 undef), (.int .i64 t5), (.bool false), (.slice t0 t0l 0), (.int .i64 t7), (.pointer (some ⟨i50, (i51 + (t7.toNat * 5)), none⟩)), (.agg #[(.int .i64 n52), (.int .i64 n53), (.int .i64 n54), (.int .i64 n55), (.int .i64 n56)]), (.bool b59), (.slice t4 t4l 0), (.int .i64 t7), (.pointer (some ⟨i60, (i61 + (t7.toNat * 1)), none⟩)), (.int .i64 n62), (.bool (decide (n62 ≥ 0))), (.bool (!(b59 == (decide (n62 ≥ 0))))), (.bool false), (.slice t4 t4l 0), (.int .i64 t7), (.pointer (some ⟨i65, (i66 + (t7.toNat * 1)), none⟩)), (.int .i64 n67), (.slice t0 t0l 0), (.int .i64 ((t0l : Nat) : Int)), (.bool (decide (n67 ≥ ((t0l : Nat) : Int)))), (.bool (decide (n67 ≥ ((t0l : Nat) : Int)))), (.bool false), (.slice t4 t4l 0), (.int .i64 t7), (.pointer (some ⟨i70, (i71 + (t7.toNat * 1)), none⟩)), (.int .i64 n72), (.bool (decide (n72 ≥ 0))), (.bool true), (.slice t3 t3l 0), (.slice t4 t4l 0), (.int .i64 t7), (.pointer (some ⟨i73, (i74 + (t7.toNat * 1)), none⟩)), (.int .i64 n75), (.pointer (some ⟨i76, (i77 + (n75.toNat * 1)), none⟩)), (.int .i64 n78), (.slice t3 t3l 0), (.int .i64 t7), (.pointer (some ⟨i79, (i80 + (t7.toNat * 1)), none⟩)), (.int .i64 n81), (.int .i64 (IntKind.i64.wrap (n81 + 1))), (.slice t0 t0l 0), (.int .i64 t7), (.pointer (some ⟨i82, (i83 + (t7.toNat * 5)), none⟩)), (.pointer (some ⟨i82, ((i83 + (t7.toNat * 5)) + 3), none⟩)), (.int .i64 n84), (.int .i64 (IntKind.i64.wrap ((IntKind.i64.wrap (n81 + 1)) + n84))), (.bool (n78 != (IntKind.i64.wrap ((IntKind.i64.wrap (n81 + 1)) + n84)))), (.bool (n78 != (IntKind.i64.wrap ((IntKind.i64.wrap (n81 + 1)) + n84)))), (.bool true), undef] H58)
 else (
 ∃ k87, k87 < n ∧
 I k87 t2 (IntKind.i64.wrap (t6 + 1)) (IntKind.i64.wrap (t7 + 1)) H58)) ∧
 (((decide (n62 ≥ 0)) = (decide (n62 ≥ 0))) ∧ ((decide (n62 ≥ 0)) = (decide (n62 ≥ 0))) ∧ True) ∧
 ((∃ n86, (H.bump 48).cell i60 (i61 + (t7.toNat * 1)) = some (.int .i64 n86) ∧
 n62 = n86) ∧ (∃ n85, H58.cell i60 (i61 + (t7.toNat * 1)) = some (.int .i64 n85) ∧
 n62 = n85) ∧ True) ∧
 True)
 else (
 (
 ∃ k90, k90 < n ∧
 I k90 t2 (IntKind.i64.wrap (t6 + 1)) (IntKind.i64.wrap (t7 + 1)) H58) ∧
 (((decide (n62 ≥ 0)) = (decide (n62 ≥ 0))) ∧ ((decide (n62 ≥ 0)) = (decide (n62 ≥ 0))) ∧ True) ∧
 ((∃ n89, (H.bump 48).cell i60 (i61 + (t7.toNat * 1)) = some (.int .i64 n89) ∧
 n62 = n89) ∧ (∃ n88, H58.cell i60 (i61 + (t7.toNat * 1)) = some (.int .i64 n88) ∧
 n62 = n88) ∧ True) ∧
 True)))))))
 else (
 K0 [(.slice t0 t0l 0), undef, (.bool t2), (.slice t3 t3l 0), (.slice t4 t4l 0), (.int .i64 t5), (.int .i64 t6), (.int .i64 t7), (.slice t8 t8l 0), (.bool false), undef, (.slice t11 t11l 0), (.slice t12 t12l 0), (.tuple #[(.slice t13_0 t13_0l 0), (.int .i64 t13_1)]), (.slice t14 t14l 0), (.tuple #[(.slice t15_0 t15_0l 0), (.int .i64 t15_1)]), (.slice t16 t16l 0), (.int .i64 t17), (.slice t18 t18l 0), (.int .i64 t19), (.slice t20 t20l 0), (.int .i64 t21), (.bool t22), (.bool false), (.int .i64 t24), (.bool t25), (.bool t26), t27, t28, t29, t30, t31, (.bool t32), (.bool false), (.int .i64 t7), (.slice t0 t0l 0), (.int .i64 ((t0l : Nat) : Int)), (.bool false), (ys.getD 38 undef), (ys.getD 39 undef), (ys.getD 40 undef), (ys.getD 41 undef), (ys.getD 42 undef), (ys.getD 43 undef), (ys.getD 44 undef), (ys.getD 45 undef), (ys.getD 46 undef), (ys.getD 47 undef), (ys.getD 48 undef), (ys.getD 49 undef), (ys.getD 50 undef), (ys.getD 51 undef), (ys.getD 52 undef), (ys.getD 53 undef), (ys.getD 54 undef), (ys.getD 55 undef), (ys.getD 56 undef), (ys.getD 57 undef), (ys.getD 58 undef), (ys.getD 59 undef), (ys.getD 60 undef), (ys.getD 61 undef), (ys.getD 62 undef), (ys.getD 63 undef), (ys.getD 64 undef), (ys.getD 65 undef), (ys.getD 66 undef), (ys.getD 67 undef), (ys.getD 68 undef), (ys.getD 69 undef), (ys.getD 70 undef), (ys.getD 71 undef), (ys.getD 72 undef), (ys.getD 73 undef), (ys.getD 74 undef), (ys.getD 75 undef), (ys.getD 76 undef), (ys.getD 77 undef), (ys.getD 78 undef), (ys.getD 79 undef), (ys.getD 80 undef), (ys.getD 81 undef), (ys.getD 82 undef), (ys.getD 83 undef), (ys.getD 84 undef), (ys.getD 85 undef), (ys.getD 86 undef), (ys.getD 87 undef), (ys.getD 88 undef), (ys.getD 89 undef), (ys.getD 90 undef), (ys.getD 91 undef), (ys.getD 92 undef), (ys.getD 93 undef), (ys.getD 94 undef), (ys.getD 95 undef), (ys.getD 96 undef), (ys.getD 97 undef), (ys.getD 98 undef), (ys.getD 99 undef), (ys.getD 100 undef), (ys.getD 101 undef), (ys.getD 102 undef), (ys.getD 103 undef), (ys.getD 104 undef), (ys.getD 105 undef), undef] H))) :
    LA en L_crossbarlaw06_FlowPlaces_0 [(.slice t0 t0l 0), undef, (.bool t2), (.slice t3 t3l 0), (.slice t4 t4l 0), (.int .i64 t5), (.int .i64 t6), (.int .i64 t7), (.slice t8 t8l 0), (.bool false), undef, (.slice t11 t11l 0), (.slice t12 t12l 0), (.tuple #[(.slice t13_0 t13_0l 0), (.int .i64 t13_1)]), (.slice t14 t14l 0), (.tuple #[(.slice t15_0 t15_0l 0), (.int .i64 t15_1)]), (.slice t16 t16l 0), (.int .i64 t17), (.slice t18 t18l 0), (.int .i64 t19), (.slice t20 t20l 0), (.int .i64 t21), (.bool t22), (.bool false), (.int .i64 t24), (.bool t25), (.bool t26), t27, t28, t29, t30, t31, (.bool t32), (.bool false), t34, t35, t36, t37, t38, t39, t40, t41, t42, t43, t44, t45, t46, t47, t48, t49, t50, t51, t52, t53, t54, t55, t56, t57, t58, t59, t60, t61, t62, t63, t64, t65, t66, t67, t68, t69, t70, t71, t72, t73, t74, t75, t76, t77, t78, t79, t80, t81, t82, t83, t84, t85, t86, t87, t88, t89, t90, t91, t92, t93, t94, t95, t96, t97, t98, t99, t100, t101, t102, t103, t104, t105, undef] H [(X.exit 0, K0), (X.ret, K1)] := by
  refine LA_rule (Z := []) (fun m xs H' => AS.asBool (xs.getD 2 undef) fun t2 => AS.asInt .i64 (xs.getD 6 undef) fun t6 => AS.asInt .i64 (xs.getD 7 undef) fun t7 => I m t2 t6 t7 H') ?_ n H ?_
  · intro n H
    suffices hs : ∀ s34 : Value, ∀ s35 : Value, ∀ s36 : Value, ∀ s37 : Value, ∀ s40 : Value, ∀ s41 : Value, ∀ s42 : Value, ∀ s43 : Value, ∀ s44 : Value, ∀ s45 : Value, ∀ s2 : Value, ∀ s46 : Value, ∀ s47 : Value, ∀ s6 : Value, ∀ s48 : Value, ∀ s49 : Value, ∀ s50 : Value, ∀ s51 : Value, ∀ s52 : Value, ∀ s53 : Value, ∀ s54 : Value, ∀ s55 : Value, ∀ s56 : Value, ∀ s57 : Value, ∀ s58 : Value, ∀ s59 : Value, ∀ s60 : Value, ∀ s61 : Value, ∀ s62 : Value, ∀ s63 : Value, ∀ s64 : Value, ∀ s65 : Value, ∀ s66 : Value, ∀ s67 : Value, ∀ s68 : Value, ∀ s69 : Value, ∀ s70 : Value, ∀ s71 : Value, ∀ s72 : Value, ∀ s73 : Value, ∀ s74 : Value, ∀ s75 : Value, ∀ s76 : Value, ∀ s77 : Value, ∀ s78 : Value, ∀ s79 : Value, ∀ s80 : Value, ∀ s81 : Value, ∀ s82 : Value, ∀ s83 : Value, ∀ s84 : Value, ∀ s85 : Value, ∀ s86 : Value, ∀ s87 : Value, ∀ s88 : Value, ∀ s89 : Value, ∀ s90 : Value, ∀ s91 : Value, ∀ s92 : Value, ∀ s93 : Value, ∀ s94 : Value, ∀ s95 : Value, ∀ s96 : Value, ∀ s97 : Value, ∀ s98 : Value, ∀ s99 : Value, ∀ s100 : Value, ∀ s101 : Value, ∀ s102 : Value, ∀ s103 : Value, ∀ s104 : Value, ∀ s105 : Value, ∀ s38 : Value, ∀ s39 : Value, ∀ s7 : Value, ((AS.asBool s2 fun t2 => AS.asInt .i64 s6 fun t6 => AS.asInt .i64 s7 fun t7 => I n t2 t6 t7 H) → wpCode en L_crossbarlaw06_FlowPlaces_0 [] [(.slice t0 t0l 0), undef, s2, (.slice t3 t3l 0), (.slice t4 t4l 0), (.int .i64 t5), s6, s7, (.slice t8 t8l 0), (.bool false), undef, (.slice t11 t11l 0), (.slice t12 t12l 0), (.tuple #[(.slice t13_0 t13_0l 0), (.int .i64 t13_1)]), (.slice t14 t14l 0), (.tuple #[(.slice t15_0 t15_0l 0), (.int .i64 t15_1)]), (.slice t16 t16l 0), (.int .i64 t17), (.slice t18 t18l 0), (.int .i64 t19), (.slice t20 t20l 0), (.int .i64 t21), (.bool t22), (.bool false), (.int .i64 t24), (.bool t25), (.bool t26), t27, t28, t29, t30, t31, (.bool t32), (.bool false), s34, s35, s36, s37, s38, s39, s40, s41, s42, s43, s44, s45, s46, s47, s48, s49, s50, s51, s52, s53, s54, s55, s56, s57, s58, s59, s60, s61, s62, s63, s64, s65, s66, s67, s68, s69, s70, s71, s72, s73, s74, s75, s76, s77, s78, s79, s80, s81, s82, s83, s84, s85, s86, s87, s88, s89, s90, s91, s92, s93, s94, s95, s96, s97, s98, s99, s100, s101, s102, s103, s104, s105, undef] H (loopQ (fun m xs H' => AS.asBool (xs.getD 2 undef) fun t2 => AS.asInt .i64 (xs.getD 6 undef) fun t6 => AS.asInt .i64 (xs.getD 7 undef) fun t7 => I m t2 t6 t7 H') n [(X.exit 0, K0), (X.ret, K1)])) by
      apply turnInto hs
      kernel_rfl
    intro s34 s35 s36 s37 s40 s41 s42 s43 s44 s45 s2 s46 s47 s6 s48 s49 s50 s51 s52 s53 s54 s55 s56 s57 s58 s59 s60 s61 s62 s63 s64 s65 s66 s67 s68 s69 s70 s71 s72 s73 s74 s75 s76 s77 s78 s79 s80 s81 s82 s83 s84 s85 s86 s87 s88 s89 s90 s91 s92 s93 s94 s95 s96 s97 s98 s99 s100 s101 s102 s103 s104 s105 s38 s39 s7 hP
    replace hP := asBool_elim hP
    obtain ⟨t2, rfl, hP⟩ := hP
    replace hP := asInt_elim hP
    obtain ⟨t6, rfl, hP⟩ := hP
    replace hP := asInt_elim hP
    obtain ⟨t7, rfl, hP⟩ := hP
    apply turnInto (hstep n t2 t6 t7 [(.slice t0 t0l 0), undef, (.bool t2), (.slice t3 t3l 0), (.slice t4 t4l 0), (.int .i64 t5), (.int .i64 t6), (.int .i64 t7), (.slice t8 t8l 0), (.bool false), undef, (.slice t11 t11l 0), (.slice t12 t12l 0), (.tuple #[(.slice t13_0 t13_0l 0), (.int .i64 t13_1)]), (.slice t14 t14l 0), (.tuple #[(.slice t15_0 t15_0l 0), (.int .i64 t15_1)]), (.slice t16 t16l 0), (.int .i64 t17), (.slice t18 t18l 0), (.int .i64 t19), (.slice t20 t20l 0), (.int .i64 t21), (.bool t22), (.bool false), (.int .i64 t24), (.bool t25), (.bool t26), t27, t28, t29, t30, t31, (.bool t32), (.bool false), s34, s35, s36, s37, s38, s39, s40, s41, s42, s43, s44, s45, s46, s47, s48, s49, s50, s51, s52, s53, s54, s55, s56, s57, s58, s59, s60, s61, s62, s63, s64, s65, s66, s67, s68, s69, s70, s71, s72, s73, s74, s75, s76, s77, s78, s79, s80, s81, s82, s83, s84, s85, s86, s87, s88, s89, s90, s91, s92, s93, s94, s95, s96, s97, s98, s99, s100, s101, s102, s103, s104, s105, undef] H hP)
    kernel_rfl
  · apply turnInto h0
    kernel_rfl

end Go.Proofs.YtmgkngdbphkmmaaDoor
