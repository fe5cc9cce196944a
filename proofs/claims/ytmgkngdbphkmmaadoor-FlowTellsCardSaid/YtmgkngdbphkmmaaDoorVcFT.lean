/-
  What functions of this seat's program need (printed by a program, checked by the kernel).
-/
import Derived.Test.YtmgkngdbphkmmaaDoorNames
import Derived.Test.YtmgkngdbphkmmaaDoorAs41
namespace Go.Proofs.YtmgkngdbphkmmaaDoor
open Go Go.AS Go.RowKit
set_option linter.unusedVariables false
set_option maxRecDepth 100000

/-! crossbarlaw06_FlowTells -/
noncomputable def L_crossbarlaw06_FlowTells_0 : Code := loopAt Go.Proofs.Tryd.f8 0

theorem vc_crossbarlaw06_FlowTells (x0 : Option Addr) (x0l : Nat) (H : Heap) (R : Value → Heap → Prop) :
    (
 CA en F.crossbarlaw06_Big [(.slice x0 x0l 0)] H fun v1 H2 =>
 ∃ b3, v1 = (.bool b3) ∧
 bif b3 then (
 CA en F.crossbarlaw06_known [] H2 fun v4 H5 =>
 ∃ b6, v4 = (.bool b6) ∧
 R (.bool b6) H5)
 else (
 CA en F.crossbarkit_LentInsns [(.slice x0 x0l 0)] H2 fun v7 H8 =>
 ∃ a9 i10, v7 = (.slice a9 i10 0) ∧
 inS ((x0l : Nat) : Int) i10 ∧
 slK H8 a9 5 0 ((x0l : Nat) : Int).toNat fun v11 =>
 CA en F.flow_Targets [v11] H8 fun v12 H13 =>
 ∃ a14 i15, ∃ n16, v12 = (.tuple #[(.slice a14 i15 0), (.int .i64 n16)]) ∧
 CA en F.crossbarref06_Targets [(.slice x0 x0l 0)] H13 fun v17 H18 =>
 ∃ a19 i20, ∃ n21, v17 = (.tuple #[(.slice a19 i20 0), (.int .i64 n21)]) ∧
 inS ((x0l : Nat) : Int) i10 ∧
 slK H18 a9 5 0 ((x0l : Nat) : Int).toNat fun v22 =>
 CA en F.flow_Places [v22] H18 fun v23 H24 =>
 ∃ a25 i26, v23 = (.slice a25 i26 0) ∧
 bif (n16 != n21) then (
 R (.bool false) H24)
 else (
 CA en F.crossbarkit_SameInts [(.slice a14 i15 0), (.slice a19 i20 0)] H24 fun v27 H28 =>
 ∃ b29, v27 = (.bool b29) ∧
 bif (!b29) then (
 R (.bool false) H28)
 else (
 CA en F.crossbarref06_Places [(.slice x0 x0l 0)] H28 fun v30 H31 =>
 ∃ a32 i33, v30 = (.slice a32 i33 0) ∧
 CA en F.crossbarkit_SameInts [(.slice a25 i26 0), (.slice a32 i33 0)] H31 fun v34 H35 =>
 ∃ b36, v34 = (.bool b36) ∧
 bif (!b36) then (
 R (.bool false) H35)
 else (
 CA en F.crossbarkit_KeptInsns [(.slice a9 i10 0), (.slice x0 x0l 0)] H35 fun v37 H38 =>
 ∃ b39, v37 = (.bool b39) ∧
 bif (!b39) then (
 R (.bool false) H38)
 else (
 LA en L_crossbarlaw06_FlowTells_0 [(.slice x0 x0l 0), undef, (.bool false), (.slice a9 i10 0), (.slice a14 i15 0), (.int .i64 n16), (.slice a19 i20 0), (.int .i64 n21), (.slice a25 i26 0), (.int .i64 0), undef, undef, (.slice x0 x0l 0), (.bool false), undef, (.slice x0 x0l 0), (.slice a9 i10 0), (.tuple #[(.slice a14 i15 0), (.int .i64 n16)]), (.slice a9 i10 0), (.slice x0 x0l 0), (.int .i64 ((x0l : Nat) : Int)), v11, (.tuple #[(.slice a14 i15 0), (.int .i64 n16)]), (.slice a14 i15 0), (.int .i64 n16), (.tuple #[(.slice a19 i20 0), (.int .i64 n21)]), (.slice x0 x0l 0), (.tuple #[(.slice a19 i20 0), (.int .i64 n21)]), (.slice a19 i20 0), (.int .i64 n21), (.slice a9 i10 0), (.slice x0 x0l 0), (.int .i64 ((x0l : Nat) : Int)), v22, (.slice a25 i26 0), (.int .i64 n16), (.int .i64 n21), (.bool (n16 != n21)), (.bool false), (.slice a14 i15 0), (.slice a19 i20 0), (.bool b29), (.bool (!b29)), (.bool (!b29)), (.bool false), (.slice a25 i26 0), (.slice x0 x0l 0), (.slice a32 i33 0), (.bool b36), (.bool (!b36)), (.bool (!b36)), (.bool false), (.slice a9 i10 0), (.slice x0 x0l 0), (.bool b39), (.bool (!b39)), (.bool false), undef, undef, undef, undef, undef, undef, undef, undef, undef, undef, undef, undef, undef, undef, undef, undef, undef, undef, undef, undef, undef, undef, undef, undef, undef, undef, undef, undef, undef, undef, undef, undef, undef, undef, undef, undef, undef, undef, undef, undef, undef, undef, undef, undef, undef, undef, undef, undef] H38 [(X.exit 0, fun (y40 : Fr) (H41 : Heap) =>
 AS.asBool (y40.getD 2 undef) fun b42 =>
 CA en F.crossbarkit_SpoilInts [(.slice a14 i15 0)] H41 fun v43 H44 =>
 v43 = undef ∧
 CA en F.crossbarkit_SpoilInts [(.slice a25 i26 0)] H44 fun v45 H46 =>
 v45 = undef ∧
 CA en F.flow_Targets [(.slice x0 x0l 0)] H46 fun v47 H48 =>
 ∃ a49 i50, ∃ n51, v47 = (.tuple #[(.slice a49 i50 0), (.int .i64 n51)]) ∧
 CA en F.crossbarkit_SameInts [(.slice a49 i50 0), (.slice a19 i20 0)] H48 fun v52 H53 =>
 ∃ b54, v52 = (.bool b54) ∧
 bif b54 then (
 CA en F.crossbarlaw06_known [] H53 fun v55 H56 =>
 ∃ b57, v55 = (.bool b57) ∧
 R (.bool b57) H56)
 else (
 R (.bool false) H53)),
 (X.ret, fun (y58 : Fr) (H59 : Heap) =>
 AS.asBool (y58.getD 2 undef) fun b60 =>
 R (.bool b60) H59)])))))) →
    CA en F.crossbarlaw06_FlowTells [(.slice x0 x0l 0)] H R := by
  intro h
  refine wpFn_ok (Z := [[(2, (.bool false))]]) (fn := Go.Proofs.Tryd.f8) ?_ ?_ ?_
  · kernel_rfl
  · kernel_rfl
  · apply turnInto h
    kernel_rfl

theorem use_crossbarlaw06_FlowTells_0 {t0 : Option Addr} {t0l : Nat} {t3 : Option Addr} {t3l : Nat} {t4 : Option Addr} {t4l : Nat} {t5 : Int} {t6 : Option Addr} {t6l : Nat} {t7 : Int} {t8 : Option Addr} {t8l : Nat} {t12 : Option Addr} {t12l : Nat} {t15 : Option Addr} {t15l : Nat} {t16 : Option Addr} {t16l : Nat} {t17_0 : Option Addr} {t17_0l : Nat} {t17_1 : Int} {t18 : Option Addr} {t18l : Nat} {t19 : Option Addr} {t19l : Nat} {t20 : Int} {t21 : Value} {t22_0 : Option Addr} {t22_0l : Nat} {t22_1 : Int} {t23 : Option Addr} {t23l : Nat} {t24 : Int} {t25_0 : Option Addr} {t25_0l : Nat} {t25_1 : Int} {t26 : Option Addr} {t26l : Nat} {t27_0 : Option Addr} {t27_0l : Nat} {t27_1 : Int} {t28 : Option Addr} {t28l : Nat} {t29 : Int} {t30 : Option Addr} {t30l : Nat} {t31 : Option Addr} {t31l : Nat} {t32 : Int} {t33 : Value} {t34 : Option Addr} {t34l : Nat} {t35 : Int} {t36 : Int} {t37 : Bool} {t39 : Option Addr} {t39l : Nat} {t40 : Option Addr} {t40l : Nat} {t41 : Bool} {t42 : Bool} {t43 : Bool} {t45 : Option Addr} {t45l : Nat} {t46 : Option Addr} {t46l : Nat} {t47 : Option Addr} {t47l : Nat} {t48 : Bool} {t49 : Bool} {t50 : Bool} {t52 : Option Addr} {t52l : Nat} {t53 : Option Addr} {t53l : Nat} {t54 : Bool} {t55 : Bool} {K0 : Fr → Heap → Prop} {K1 : Fr → Heap → Prop} {t2 : Bool} {t9 : Int} {t57 : Value} {t58 : Value} {t59 : Value} {t60 : Value} {t61 : Value} {t62 : Value} {t63 : Value} {t64 : Value} {t65 : Value} {t66 : Value} {t67 : Value} {t68 : Value} {t69 : Value} {t70 : Value} {t71 : Value} {t72 : Value} {t73 : Value} {t74 : Value} {t75 : Value} {t76 : Value} {t77 : Value} {t78 : Value} {t79 : Value} {t80 : Value} {t81 : Value} {t82 : Value} {t83 : Value} {t84 : Value} {t85 : Value} {t86 : Value} {t87 : Value} {t88 : Value} {t89 : Value} {H : Heap} (I : Nat → Bool → Int → Heap → Prop) (n : Nat) (h0 : I n t2 t9 H)
    (hstep : ∀ (n : Nat) (t2 : Bool) (t9 : Int) (ys : Fr) (H : Heap), I n t2 t9 H →
    (
 bif (decide (t9 < ((t0l : Nat) : Int))) then (
 inB t9 t0l ∧
 asRow t0 fun i1 i2 =>
 ∃ n3, ∃ n4, ∃ n5, ∃ n6, ∃ n7, (H.bump 27).cellsAt i1 (i2 + (t9.toNat * 5)) 5 = some [(.int .i64 n3), (.int .i64 n4), (.int .i64 n5), (.int .i64 n6), (.int .i64 n7)] ∧
 CA en F.flow_Jumps [(.agg #[(.int .i64 n3), (.int .i64 n4), (.int .i64 n5), (.int .i64 n6), (.int .i64 n7)])] (H.bump 27) fun v8 H9 =>
 ∃ b10, v8 = (.bool b10) ∧
 inB t9 t0l ∧
 asRow t0 fun i11 i12 =>
 ∃ n13, ∃ n14, ∃ n15, ∃ n16, ∃ n17, H9.cellsAt i11 (i12 + (t9.toNat * 5)) 5 = some [(.int .i64 n13), (.int .i64 n14), (.int .i64 n15), (.int .i64 n16), (.int .i64 n17)] ∧
 CA en F.crossbarref06_Jumps [(.agg #[(.int .i64 n13), (.int .i64 n14), (.int .i64 n15), (.int .i64 n16), (.int .i64 n17)])] H9 fun v18 H19 =>
 ∃ b20, v18 = (.bool b20) ∧
 bif (!(b10 == b20)) then (
 (
 K1 [(.slice t0 t0l 0), undef, (.bool false), (.slice t3 t3l 0), (.slice t4 t4l 0), (.int .i64 t5), (.slice t6 t6l 0), (.int .i64 t7), (.slice t8 t8l 0), (.int .i64 t9), undef, undef, (.slice t12 t12l 0), (.bool false), undef, (.slice t15 t15l 0), (.slice t16 t16l 0), (.tuple #[(.slice t17_0 t17_0l 0), (.int .i64 t17_1)]), (.slice t18 t18l 0), (.slice t19 t19l 0), (.int .i64 t20), t21, (.tuple #[(.slice t22_0 t22_0l 0), (.int .i64 t22_1)]), (.slice t23 t23l 0), (.int .i64 t24), (.tuple #[(.slice t25_0 t25_0l 0), (.int .i64 t25_1)]), (.slice t26 t26l 0), (.tuple #[(.slice t27_0 t27_0l 0), (.int .i64 t27_1)]), (.slice t28 t28l 0), (.int .i64 t29), (.slice t30 t30l 0), (.slice t31 t31l 0), (.int .i64 t32), t33, (.slice t34 t34l 0), (.int .i64 t35), (.int .i64 t36), (.bool t37), (.bool false), (.slice t39 t39l 0), (.slice t40 t40l 0), (.bool t41), (.bool t42), (.bool t43), (.bool false), (.slice t45 t45l 0), (.slice t46 t46l 0), (.slice t47 t47l 0), (.bool t48), (.bool t49), (.bool t50), (.bool false), (.slice t52 t52l 0), (.slice t53 t53l 0), (.bool t54), (.bool t55), (.bool false), (.int .i64 t9), (.slice t0 t0l 0), (.int .i64 ((t0l : Nat) : Int)), (.bool true), (ys.getD 61 undef), (ys.getD 62 undef), (.slice t0 t0l 0), (.int .i64 t9), (.pointer (some ⟨i1, (i2 + (t9.toNat * 5)), none⟩)), (.agg #[(.int .i64 n3), (.int .i64 n4), (.int .i64 n5), (.int .i64 n6), (.int .i64 n7)]), (.bool b10), (.slice t0 t0l 0), (.int .i64 t9), (.pointer (some ⟨i11, (i12 + (t9.toNat * 5)), none⟩)), (.agg #[(.int .i64 n13), (.int .i64 n14), (.int .i64 n15), (.int .i64 n16), (.int .i64 n17)]), (.bool b20), (.bool (!(b10 == b20))), (.bool true), undef, undef, undef, undef, undef, undef, undef, undef, undef, undef, undef, undef, undef, undef, (.bool true), undef, undef, undef, undef, undef, undef, undef, undef, undef, undef, undef, undef, undef, undef, undef] H19) ∧
 ((∃ n26, ∃ n27, ∃ n28, ∃ n29, ∃ n30, (H.bump 27).cellsAt i11 (i12 + (t9.toNat * 5)) 5 = some [(.int .i64 n26), (.int .i64 n27), (.int .i64 n28), (.int .i64 n29), (.int .i64 n30)] ∧
 sameN 8 (.agg #[(.int .i64 n13), (.int .i64 n14), (.int .i64 n15), (.int .i64 n16), (.int .i64 n17)]) (.agg #[(.int .i64 n26), (.int .i64 n27), (.int .i64 n28), (.int .i64 n29), (.int .i64 n30)]) = true) ∧ (∃ n21, ∃ n22, ∃ n23, ∃ n24, ∃ n25, H9.cellsAt i11 (i12 + (t9.toNat * 5)) 5 = some [(.int .i64 n21), (.int .i64 n22), (.int .i64 n23), (.int .i64 n24), (.int .i64 n25)] ∧
 sameN 8 (.agg #[(.int .i64 n13), (.int .i64 n14), (.int .i64 n15), (.int .i64 n16), (.int .i64 n17)]) (.agg #[(.int .i64 n21), (.int .i64 n22), (.int .i64 n23), (.int .i64 n24), (.int .i64 n25)]) = true) ∧ True) ∧
 True)
 else (
 bif (t5 == 0) then (
 CA en F.flow_Next [(.slice t0 t0l 0), (.slice t4 t4l 0), (.int .i64 t9)] H19 fun v31 H32 =>
 ∃ a33 i34, v31 = (.slice a33 i34 0) ∧
 CA en F.crossbarref06_Next [(.slice t0 t0l 0), (.slice t6 t6l 0), (.int .i64 t9)] H32 fun v35 H36 =>
 ∃ a37 i38, v35 = (.slice a37 i38 0) ∧
 CA en F.crossbarkit_SameInts [(.slice a33 i34 0), (.slice a37 i38 0)] H36 fun v39 H40 =>
 ∃ b41, v39 = (.bool b41) ∧
 (
 bif (!b41) then (
 K1 [(.slice t0 t0l 0), undef, (.bool false), (.slice t3 t3l 0), (.slice t4 t4l 0), (.int .i64 t5), (.slice t6 t6l 0), (.int .i64 t7), (.slice t8 t8l 0), (.int .i64 t9), undef, undef, (.slice t12 t12l 0), (.bool false), undef, (.slice t15 t15l 0), (.slice t16 t16l 0), (.tuple #[(.slice t17_0 t17_0l 0), (.int .i64 t17_1)]), (.slice t18 t18l 0), (.slice t19 t19l 0), (.int .i64 t20), t21, (.tuple #[(.slice t22_0 t22_0l 0), (.int .i64 t22_1)]), (.slice t23 t23l 0), (.int .i64 t24), (.tuple #[(.slice t25_0 t25_0l 0), (.int .i64 t25_1)]), (.slice t26 t26l 0), (.tuple #[(.slice t27_0 t27_0l 0), (.int .i64 t27_1)]), (.slice t28 t28l 0), (.int .i64 t29), (.slice t30 t30l 0), (.slice t31 t31l 0), (.int .i64 t32), t33, (.slice t34 t34l 0), (.int .i64 t35), (.int .i64 t36), (.bool t37), (.bool false), (.slice t39 t39l 0), (.slice t40 t40l 0), (.bool t41), (.bool t42), (.bool t43), (.bool false), (.slice t45 t45l 0), (.slice t46 t46l 0), (.slice t47 t47l 0), (.bool t48), (.bool t49), (.bool t50), (.bool false), (.slice t52 t52l 0), (.slice t53 t53l 0), (.bool t54), (.bool t55), (.bool false), (.int .i64 t9), (.slice t0 t0l 0), (.int .i64 ((t0l : Nat) : Int)), (.bool true), (ys.getD 61 undef), (ys.getD 62 undef), (.slice t0 t0l 0), (.int .i64 t9), (.pointer (some ⟨i1, (i2 + (t9.toNat * 5)), none⟩)), (.agg #[(.int .i64 n3), (.int .i64 n4), (.int .i64 n5), (.int .i64 n6), (.int .i64 n7)]), (.bool b10), (.slice t0 t0l 0), (.int .i64 t9), (.pointer (some ⟨i11, (i12 + (t9.toNat * 5)), none⟩)), (.agg #[(.int .i64 n13), (.int .i64 n14), (.int .i64 n15), (.int .i64 n16), (.int .i64 n17)]), (.bool b20), (.bool (!(b10 == b20))), (.bool false), (.int .i64 t5), (.bool (t5 == 0)), (.bool true), (.slice t0 t0l 0), (.slice t4 t4l 0), (.int .i64 t9), (.slice a33 i34 0), (.slice t0 t0l 0), (.slice t6 t6l 0), (.int .i64 t9), (.slice a37 i38 0), (.bool b41), (.bool (!b41)), (.bool (!b41)), (.bool true), undef, undef, undef, undef, undef, undef, undef, undef, undef, undef, undef, undef, undef, undef, undef] H40)
 else (
 ∃ k52, k52 < n ∧
 I k52 t2 (IntKind.i64.wrap (t9 + 1)) H40)) ∧
 ((∃ n47, ∃ n48, ∃ n49, ∃ n50, ∃ n51, (H.bump 27).cellsAt i11 (i12 + (t9.toNat * 5)) 5 = some [(.int .i64 n47), (.int .i64 n48), (.int .i64 n49), (.int .i64 n50), (.int .i64 n51)] ∧
 sameN 8 (.agg #[(.int .i64 n13), (.int .i64 n14), (.int .i64 n15), (.int .i64 n16), (.int .i64 n17)]) (.agg #[(.int .i64 n47), (.int .i64 n48), (.int .i64 n49), (.int .i64 n50), (.int .i64 n51)]) = true) ∧ (∃ n42, ∃ n43, ∃ n44, ∃ n45, ∃ n46, H9.cellsAt i11 (i12 + (t9.toNat * 5)) 5 = some [(.int .i64 n42), (.int .i64 n43), (.int .i64 n44), (.int .i64 n45), (.int .i64 n46)] ∧
 sameN 8 (.agg #[(.int .i64 n13), (.int .i64 n14), (.int .i64 n15), (.int .i64 n16), (.int .i64 n17)]) (.agg #[(.int .i64 n42), (.int .i64 n43), (.int .i64 n44), (.int .i64 n45), (.int .i64 n46)]) = true) ∧ True) ∧
 True)
 else (
 (
 ∃ k63, k63 < n ∧
 I k63 t2 (IntKind.i64.wrap (t9 + 1)) H19) ∧
 ((∃ n58, ∃ n59, ∃ n60, ∃ n61, ∃ n62, (H.bump 27).cellsAt i11 (i12 + (t9.toNat * 5)) 5 = some [(.int .i64 n58), (.int .i64 n59), (.int .i64 n60), (.int .i64 n61), (.int .i64 n62)] ∧
 sameN 8 (.agg #[(.int .i64 n13), (.int .i64 n14), (.int .i64 n15), (.int .i64 n16), (.int .i64 n17)]) (.agg #[(.int .i64 n58), (.int .i64 n59), (.int .i64 n60), (.int .i64 n61), (.int .i64 n62)]) = true) ∧ (∃ n53, ∃ n54, ∃ n55, ∃ n56, ∃ n57, H9.cellsAt i11 (i12 + (t9.toNat * 5)) 5 = some [(.int .i64 n53), (.int .i64 n54), (.int .i64 n55), (.int .i64 n56), (.int .i64 n57)] ∧
 sameN 8 (.agg #[(.int .i64 n13), (.int .i64 n14), (.int .i64 n15), (.int .i64 n16), (.int .i64 n17)]) (.agg #[(.int .i64 n53), (.int .i64 n54), (.int .i64 n55), (.int .i64 n56), (.int .i64 n57)]) = true) ∧ True) ∧
 True)))
 else (
 K0 [(.slice t0 t0l 0), undef, (.bool t2), (.slice t3 t3l 0), (.slice t4 t4l 0), (.int .i64 t5), (.slice t6 t6l 0), (.int .i64 t7), (.slice t8 t8l 0), (.int .i64 t9), undef, undef, (.slice t12 t12l 0), (.bool false), undef, (.slice t15 t15l 0), (.slice t16 t16l 0), (.tuple #[(.slice t17_0 t17_0l 0), (.int .i64 t17_1)]), (.slice t18 t18l 0), (.slice t19 t19l 0), (.int .i64 t20), t21, (.tuple #[(.slice t22_0 t22_0l 0), (.int .i64 t22_1)]), (.slice t23 t23l 0), (.int .i64 t24), (.tuple #[(.slice t25_0 t25_0l 0), (.int .i64 t25_1)]), (.slice t26 t26l 0), (.tuple #[(.slice t27_0 t27_0l 0), (.int .i64 t27_1)]), (.slice t28 t28l 0), (.int .i64 t29), (.slice t30 t30l 0), (.slice t31 t31l 0), (.int .i64 t32), t33, (.slice t34 t34l 0), (.int .i64 t35), (.int .i64 t36), (.bool t37), (.bool false), (.slice t39 t39l 0), (.slice t40 t40l 0), (.bool t41), (.bool t42), (.bool t43), (.bool false), (.slice t45 t45l 0), (.slice t46 t46l 0), (.slice t47 t47l 0), (.bool t48), (.bool t49), (.bool t50), (.bool false), (.slice t52 t52l 0), (.slice t53 t53l 0), (.bool t54), (.bool t55), (.bool false), (.int .i64 t9), (.slice t0 t0l 0), (.int .i64 ((t0l : Nat) : Int)), (.bool false), (ys.getD 61 undef), (ys.getD 62 undef), (ys.getD 63 undef), (ys.getD 64 undef), (ys.getD 65 undef), (ys.getD 66 undef), (ys.getD 67 undef), (ys.getD 68 undef), (ys.getD 69 undef), (ys.getD 70 undef), (ys.getD 71 undef), (ys.getD 72 undef), (ys.getD 73 undef), (ys.getD 74 undef), (ys.getD 75 undef), (ys.getD 76 undef), (ys.getD 77 undef), (ys.getD 78 undef), (ys.getD 79 undef), (ys.getD 80 undef), (ys.getD 81 undef), (ys.getD 82 undef), (ys.getD 83 undef), (ys.getD 84 undef), (ys.getD 85 undef), (ys.getD 86 undef), (ys.getD 87 undef), (ys.getD 88 undef), (ys.getD 89 undef), undef, undef, undef, undef, undef, undef, undef, undef, undef, undef, undef, undef, undef, undef, undef] H))) :
    LA en L_crossbarlaw06_FlowTells_0 [(.slice t0 t0l 0), undef, (.bool t2), (.slice t3 t3l 0), (.slice t4 t4l 0), (.int .i64 t5), (.slice t6 t6l 0), (.int .i64 t7), (.slice t8 t8l 0), (.int .i64 t9), undef, undef, (.slice t12 t12l 0), (.bool false), undef, (.slice t15 t15l 0), (.slice t16 t16l 0), (.tuple #[(.slice t17_0 t17_0l 0), (.int .i64 t17_1)]), (.slice t18 t18l 0), (.slice t19 t19l 0), (.int .i64 t20), t21, (.tuple #[(.slice t22_0 t22_0l 0), (.int .i64 t22_1)]), (.slice t23 t23l 0), (.int .i64 t24), (.tuple #[(.slice t25_0 t25_0l 0), (.int .i64 t25_1)]), (.slice t26 t26l 0), (.tuple #[(.slice t27_0 t27_0l 0), (.int .i64 t27_1)]), (.slice t28 t28l 0), (.int .i64 t29), (.slice t30 t30l 0), (.slice t31 t31l 0), (.int .i64 t32), t33, (.slice t34 t34l 0), (.int .i64 t35), (.int .i64 t36), (.bool t37), (.bool false), (.slice t39 t39l 0), (.slice t40 t40l 0), (.bool t41), (.bool t42), (.bool t43), (.bool false), (.slice t45 t45l 0), (.slice t46 t46l 0), (.slice t47 t47l 0), (.bool t48), (.bool t49), (.bool t50), (.bool false), (.slice t52 t52l 0), (.slice t53 t53l 0), (.bool t54), (.bool t55), (.bool false), t57, t58, t59, t60, t61, t62, t63, t64, t65, t66, t67, t68, t69, t70, t71, t72, t73, t74, t75, t76, t77, t78, t79, t80, t81, t82, t83, t84, t85, t86, t87, t88, t89, undef, undef, undef, undef, undef, undef, undef, undef, undef, undef, undef, undef, undef, undef, undef] H [(X.exit 0, K0), (X.ret, K1)] := by
  refine LA_rule (Z := []) (fun m xs H' => AS.asBool (xs.getD 2 undef) fun t2 => AS.asInt .i64 (xs.getD 9 undef) fun t9 => I m t2 t9 H') ?_ n H ?_
  · intro n H
    suffices hs : ∀ s57 : Value, ∀ s58 : Value, ∀ s59 : Value, ∀ s60 : Value, ∀ s63 : Value, ∀ s64 : Value, ∀ s65 : Value, ∀ s66 : Value, ∀ s67 : Value, ∀ s68 : Value, ∀ s69 : Value, ∀ s70 : Value, ∀ s71 : Value, ∀ s72 : Value, ∀ s73 : Value, ∀ s74 : Value, ∀ s75 : Value, ∀ s76 : Value, ∀ s77 : Value, ∀ s78 : Value, ∀ s79 : Value, ∀ s80 : Value, ∀ s81 : Value, ∀ s82 : Value, ∀ s83 : Value, ∀ s84 : Value, ∀ s85 : Value, ∀ s86 : Value, ∀ s87 : Value, ∀ s88 : Value, ∀ s89 : Value, ∀ s2 : Value, ∀ s61 : Value, ∀ s62 : Value, ∀ s9 : Value, ((AS.asBool s2 fun t2 => AS.asInt .i64 s9 fun t9 => I n t2 t9 H) → wpCode en L_crossbarlaw06_FlowTells_0 [] [(.slice t0 t0l 0), undef, s2, (.slice t3 t3l 0), (.slice t4 t4l 0), (.int .i64 t5), (.slice t6 t6l 0), (.int .i64 t7), (.slice t8 t8l 0), s9, undef, undef, (.slice t12 t12l 0), (.bool false), undef, (.slice t15 t15l 0), (.slice t16 t16l 0), (.tuple #[(.slice t17_0 t17_0l 0), (.int .i64 t17_1)]), (.slice t18 t18l 0), (.slice t19 t19l 0), (.int .i64 t20), t21, (.tuple #[(.slice t22_0 t22_0l 0), (.int .i64 t22_1)]), (.slice t23 t23l 0), (.int .i64 t24), (.tuple #[(.slice t25_0 t25_0l 0), (.int .i64 t25_1)]), (.slice t26 t26l 0), (.tuple #[(.slice t27_0 t27_0l 0), (.int .i64 t27_1)]), (.slice t28 t28l 0), (.int .i64 t29), (.slice t30 t30l 0), (.slice t31 t31l 0), (.int .i64 t32), t33, (.slice t34 t34l 0), (.int .i64 t35), (.int .i64 t36), (.bool t37), (.bool false), (.slice t39 t39l 0), (.slice t40 t40l 0), (.bool t41), (.bool t42), (.bool t43), (.bool false), (.slice t45 t45l 0), (.slice t46 t46l 0), (.slice t47 t47l 0), (.bool t48), (.bool t49), (.bool t50), (.bool false), (.slice t52 t52l 0), (.slice t53 t53l 0), (.bool t54), (.bool t55), (.bool false), s57, s58, s59, s60, s61, s62, s63, s64, s65, s66, s67, s68, s69, s70, s71, s72, s73, s74, s75, s76, s77, s78, s79, s80, s81, s82, s83, s84, s85, s86, s87, s88, s89, undef, undef, undef, undef, undef, undef, undef, undef, undef, undef, undef, undef, undef, undef, undef] H (loopQ (fun m xs H' => AS.asBool (xs.getD 2 undef) fun t2 => AS.asInt .i64 (xs.getD 9 undef) fun t9 => I m t2 t9 H') n [(X.exit 0, K0), (X.ret, K1)])) by
      apply turnInto hs
      kernel_rfl
    intro s57 s58 s59 s60 s63 s64 s65 s66 s67 s68 s69 s70 s71 s72 s73 s74 s75 s76 s77 s78 s79 s80 s81 s82 s83 s84 s85 s86 s87 s88 s89 s2 s61 s62 s9 hP
    replace hP := asBool_elim hP
    obtain ⟨t2, rfl, hP⟩ := hP
    replace hP := asInt_elim hP
    obtain ⟨t9, rfl, hP⟩ := hP
    apply turnInto (hstep n t2 t9 [(.slice t0 t0l 0), undef, (.bool t2), (.slice t3 t3l 0), (.slice t4 t4l 0), (.int .i64 t5), (.slice t6 t6l 0), (.int .i64 t7), (.slice t8 t8l 0), (.int .i64 t9), undef, undef, (.slice t12 t12l 0), (.bool false), undef, (.slice t15 t15l 0), (.slice t16 t16l 0), (.tuple #[(.slice t17_0 t17_0l 0), (.int .i64 t17_1)]), (.slice t18 t18l 0), (.slice t19 t19l 0), (.int .i64 t20), t21, (.tuple #[(.slice t22_0 t22_0l 0), (.int .i64 t22_1)]), (.slice t23 t23l 0), (.int .i64 t24), (.tuple #[(.slice t25_0 t25_0l 0), (.int .i64 t25_1)]), (.slice t26 t26l 0), (.tuple #[(.slice t27_0 t27_0l 0), (.int .i64 t27_1)]), (.slice t28 t28l 0), (.int .i64 t29), (.slice t30 t30l 0), (.slice t31 t31l 0), (.int .i64 t32), t33, (.slice t34 t34l 0), (.int .i64 t35), (.int .i64 t36), (.bool t37), (.bool false), (.slice t39 t39l 0), (.slice t40 t40l 0), (.bool t41), (.bool t42), (.bool t43), (.bool false), (.slice t45 t45l 0), (.slice t46 t46l 0), (.slice t47 t47l 0), (.bool t48), (.bool t49), (.bool t50), (.bool false), (.slice t52 t52l 0), (.slice t53 t53l 0), (.bool t54), (.bool t55), (.bool false), s57, s58, s59, s60, s61, s62, s63, s64, s65, s66, s67, s68, s69, s70, s71, s72, s73, s74, s75, s76, s77, s78, s79, s80, s81, s82, s83, s84, s85, s86, s87, s88, s89, undef, undef, undef, undef, undef, undef, undef, undef, undef, undef, undef, undef, undef, undef, undef] H hP)
    kernel_rfl
  · apply turnInto h0
    kernel_rfl


/-! crossbarref06_Targets -/
noncomputable def L_crossbarref06_Targets_0 : Code := loopAt Go.Proofs.Tryd.f34 0
noncomputable def L_crossbarref06_Targets_1 : Code := loopAt Go.Proofs.Tryd.f34 1

theorem vc_crossbarref06_Targets (x0 : Option Addr) (x0l : Nat) (H : Heap) (R : Value → Heap → Prop) :
    (
 bif (decide (((x0l : Nat) : Int) > 256)) then (
 R (.tuple #[(.slice none 0 0), (.int .i64 19)]) H)
 else (
 bif (((x0l : Nat) : Int) == 0) then (
 R (.tuple #[(.slice none 0 0), (.int .i64 12)]) H)
 else (
 LA en L_crossbarref06_Targets_0 [(.slice x0 x0l 0), undef, (.slice none 0 0), (.int .i64 0), (.slice none 0 0), (.int .i64 0), undef, undef, undef, undef, (.slice x0 x0l 0), (.int .i64 ((x0l : Nat) : Int)), (.bool false), (.slice x0 x0l 0), (.int .i64 ((x0l : Nat) : Int)), (.bool false), undef, undef, undef, undef, undef, undef, undef, undef, undef, undef, undef, undef, undef, undef, undef, undef, undef, undef, undef, undef, undef, undef, undef, undef, undef, undef, undef, undef, undef, undef, undef, undef, undef, undef, undef, undef, undef, undef, undef, undef, undef, undef, undef, undef, undef, undef, undef, undef] H [(X.exit 0, fun (y1 : Fr) (H2 : Heap) =>
 asSl (y1.getD 2 undef) fun a3 i4 =>
 AS.asInt .i64 (y1.getD 3 undef) fun n5 =>
 asSl (y1.getD 4 undef) fun a6 i7 =>
 inB (IntKind.i64.wrap (((x0l : Nat) : Int) - 1)) x0l ∧
 asRow x0 fun i8 i9 =>
 ∃ n10, H2.cell i8 (i9 + ((IntKind.i64.wrap (((x0l : Nat) : Int) - 1)).toNat * 5)) = some (.int .i64 n10) ∧
 bif (n10 != 149) then (
 bif (n10 != 5) then (
 R (.tuple #[(.slice none 0 0), (.int .i64 12)]) H2)
 else (
 CA en F.crossbarref06_Reached [(.slice x0 x0l 0), (.slice a6 i7 0)] H2 fun v11 H12 =>
 ∃ a13 i14, v11 = (.slice a13 i14 0) ∧
 LA en L_crossbarref06_Targets_1 [(.slice x0 x0l 0), undef, (.slice a3 i4 0), (.int .i64 n5), (.slice a6 i7 0), (y1.getD 5 undef), (y1.getD 6 undef), (.int .i64 n10), (.slice a13 i14 0), (.int .i64 0), (.slice x0 x0l 0), (.int .i64 ((x0l : Nat) : Int)), (.bool false), (.slice x0 x0l 0), (.int .i64 ((x0l : Nat) : Int)), (.bool false), (y1.getD 16 undef), (y1.getD 17 undef), (y1.getD 18 undef), (y1.getD 19 undef), (y1.getD 20 undef), (y1.getD 21 undef), (y1.getD 22 undef), (y1.getD 23 undef), (y1.getD 24 undef), (y1.getD 25 undef), (y1.getD 26 undef), (y1.getD 27 undef), (y1.getD 28 undef), (y1.getD 29 undef), (y1.getD 30 undef), (y1.getD 31 undef), (y1.getD 32 undef), (y1.getD 33 undef), (y1.getD 34 undef), (y1.getD 35 undef), (.slice x0 x0l 0), (.slice x0 x0l 0), (.int .i64 ((x0l : Nat) : Int)), (.int .i64 (IntKind.i64.wrap (((x0l : Nat) : Int) - 1))), (.pointer (some ⟨i8, (i9 + ((IntKind.i64.wrap (((x0l : Nat) : Int) - 1)).toNat * 5)), none⟩)), (.pointer (some ⟨i8, (i9 + ((IntKind.i64.wrap (((x0l : Nat) : Int) - 1)).toNat * 5)), none⟩)), (.int .i64 n10), (.int .i64 n10), (.bool (n10 != 149)), (.bool true), (.int .i64 n10), (.bool (n10 != 5)), (.bool false), (.slice x0 x0l 0), (.slice a6 i7 0), (.slice a13 i14 0), undef, undef, undef, undef, undef, undef, undef, undef, undef, undef, undef, undef] H12 [(X.exit 2, fun (y15 : Fr) (H16 : Heap) =>
 asSl (y15.getD 2 undef) fun a17 i18 =>
 AS.asInt .i64 (y15.getD 3 undef) fun n19 =>
 R (.tuple #[(.slice a6 i7 0), (.int .i64 0)]) H16),
 (X.ret, fun (y20 : Fr) (H21 : Heap) =>
 asSl (y20.getD 2 undef) fun a22 i23 =>
 AS.asInt .i64 (y20.getD 3 undef) fun n24 =>
 R (.tuple #[(.slice a22 i23 0), (.int .i64 n24)]) H21)]))
 else (
 CA en F.crossbarref06_Reached [(.slice x0 x0l 0), (.slice a6 i7 0)] H2 fun v25 H26 =>
 ∃ a27 i28, v25 = (.slice a27 i28 0) ∧
 LA en L_crossbarref06_Targets_1 [(.slice x0 x0l 0), undef, (.slice a3 i4 0), (.int .i64 n5), (.slice a6 i7 0), (y1.getD 5 undef), (y1.getD 6 undef), (.int .i64 n10), (.slice a27 i28 0), (.int .i64 0), (.slice x0 x0l 0), (.int .i64 ((x0l : Nat) : Int)), (.bool false), (.slice x0 x0l 0), (.int .i64 ((x0l : Nat) : Int)), (.bool false), (y1.getD 16 undef), (y1.getD 17 undef), (y1.getD 18 undef), (y1.getD 19 undef), (y1.getD 20 undef), (y1.getD 21 undef), (y1.getD 22 undef), (y1.getD 23 undef), (y1.getD 24 undef), (y1.getD 25 undef), (y1.getD 26 undef), (y1.getD 27 undef), (y1.getD 28 undef), (y1.getD 29 undef), (y1.getD 30 undef), (y1.getD 31 undef), (y1.getD 32 undef), (y1.getD 33 undef), (y1.getD 34 undef), (y1.getD 35 undef), (.slice x0 x0l 0), (.slice x0 x0l 0), (.int .i64 ((x0l : Nat) : Int)), (.int .i64 (IntKind.i64.wrap (((x0l : Nat) : Int) - 1))), (.pointer (some ⟨i8, (i9 + ((IntKind.i64.wrap (((x0l : Nat) : Int) - 1)).toNat * 5)), none⟩)), (.pointer (some ⟨i8, (i9 + ((IntKind.i64.wrap (((x0l : Nat) : Int) - 1)).toNat * 5)), none⟩)), (.int .i64 n10), (.int .i64 n10), (.bool (n10 != 149)), (.bool false), undef, undef, (.bool false), (.slice x0 x0l 0), (.slice a6 i7 0), (.slice a27 i28 0), undef, undef, undef, undef, undef, undef, undef, undef, undef, undef, undef, undef] H26 [(X.exit 2, fun (y29 : Fr) (H30 : Heap) =>
 asSl (y29.getD 2 undef) fun a31 i32 =>
 AS.asInt .i64 (y29.getD 3 undef) fun n33 =>
 R (.tuple #[(.slice a6 i7 0), (.int .i64 0)]) H30),
 (X.ret, fun (y34 : Fr) (H35 : Heap) =>
 asSl (y34.getD 2 undef) fun a36 i37 =>
 AS.asInt .i64 (y34.getD 3 undef) fun n38 =>
 R (.tuple #[(.slice a36 i37 0), (.int .i64 n38)]) H35)])),
 (X.ret, fun (y39 : Fr) (H40 : Heap) =>
 asSl (y39.getD 2 undef) fun a41 i42 =>
 AS.asInt .i64 (y39.getD 3 undef) fun n43 =>
 asSl (y39.getD 4 undef) fun a44 i45 =>
 R (.tuple #[(.slice a41 i42 0), (.int .i64 n43)]) H40)]))) →
    CA en F.crossbarref06_Targets [(.slice x0 x0l 0)] H R := by
  intro h
  refine wpFn_ok (Z := [[(2, (.slice none 0 0)), (3, (.int .i64 0)), (4, (.slice none 0 0))], [(2, (.slice none 0 0)), (3, (.int .i64 0))]]) (fn := Go.Proofs.Tryd.f34) ?_ ?_ ?_
  · kernel_rfl
  · kernel_rfl
  · apply turnInto h
    kernel_rfl

theorem use_crossbarref06_Targets_0 {t0 : Option Addr} {t0l : Nat} {t10 : Option Addr} {t10l : Nat} {t11 : Int} {t13 : Option Addr} {t13l : Nat} {t14 : Int} {K0 : Fr → Heap → Prop} {K1 : Fr → Heap → Prop} {t2 : Option Addr} {t2l : Nat} {t3 : Int} {t4 : Option Addr} {t4l : Nat} {t5 : Int} {t6 : Value} {t16 : Value} {t17 : Value} {t18 : Value} {t19 : Value} {t20 : Value} {t21 : Value} {t22 : Value} {t23 : Value} {t24 : Value} {t25 : Value} {t26 : Value} {t27 : Value} {t28 : Value} {t29 : Value} {t30 : Value} {t31 : Value} {t32 : Value} {t33 : Value} {t34 : Value} {t35 : Value} {H : Heap} (I : Nat → Option Addr → Nat → Int → Option Addr → Nat → Int → Heap → Prop) (n : Nat) (h0 : I n t2 t2l t3 t4 t4l t5 H)
    (hstep : ∀ (n : Nat) (t2 : Option Addr) (t2l : Nat) (t3 : Int) (t4 : Option Addr) (t4l : Nat) (t5 : Int) (ys : Fr) (H : Heap), I n t2 t2l t3 t4 t4l t5 H →
    (
 bif (decide (t5 < ((t0l : Nat) : Int))) then (
 inB t5 t0l ∧
 asRow t0 fun i1 i2 =>
 ∃ n3, ∃ n4, ∃ n5, ∃ n6, ∃ n7, H.cellsAt i1 (i2 + (t5.toNat * 5)) 5 = some [(.int .i64 n3), (.int .i64 n4), (.int .i64 n5), (.int .i64 n6), (.int .i64 n7)] ∧
 CA en F.crossbarref06_Jumps [(.agg #[(.int .i64 n3), (.int .i64 n4), (.int .i64 n5), (.int .i64 n6), (.int .i64 n7)])] H fun v8 H9 =>
 ∃ b10, v8 = (.bool b10) ∧
 bif b10 then (
 CA en F.crossbarref06_Target [(.slice t0 t0l 0), (.int .i64 t5)] H9 fun v11 H12 =>
 ∃ n13, v11 = (.int .i64 n13) ∧
 bif (decide (n13 < 0)) then (
 K1 [(.slice t0 t0l 0), undef, (.slice none 0 0), (.int .i64 11), (.slice t4 t4l 0), (.int .i64 t5), (.int .i64 n13), undef, undef, undef, (.slice t10 t10l 0), (.int .i64 t11), (.bool false), (.slice t13 t13l 0), (.int .i64 t14), (.bool false), (.int .i64 t5), (.slice t0 t0l 0), (.int .i64 ((t0l : Nat) : Int)), (.bool true), (ys.getD 20 undef), (ys.getD 21 undef), (.slice t0 t0l 0), (.int .i64 t5), (.pointer (some ⟨i1, (i2 + (t5.toNat * 5)), none⟩)), (.agg #[(.int .i64 n3), (.int .i64 n4), (.int .i64 n5), (.int .i64 n6), (.int .i64 n7)]), (.bool true), (.slice t0 t0l 0), (.int .i64 t5), (.int .i64 n13), (.int .i64 n13), (.bool true), (ys.getD 32 undef), (ys.getD 33 undef), (ys.getD 34 undef), (ys.getD 35 undef), undef, undef, undef, undef, undef, undef, undef, undef, undef, undef, undef, undef, undef, undef, undef, undef, undef, undef, undef, undef, undef, undef, undef, undef, undef, undef, undef, undef] H12)
 else (
 nwH H12 (.cells true 1 [(.int .i64 n13)]) fun i14 H15 =>
 ∃ l16, rowOf H15 1 (some ⟨i14, 0, none⟩) 1 = some l16 ∧
 apd H15 8 1 t4 t4l 1 l16 fun a17 i18 H19 =>
 ∃ k20, k20 < n ∧
 I k20 t2 t2l t3 a17 i18 (IntKind.i64.wrap (t5 + 1)) H19))
 else (
 nwH H9 (.cells true 1 [(.int .i64 (-1))]) fun i21 H22 =>
 ∃ l23, rowOf H22 1 (some ⟨i21, 0, none⟩) 1 = some l23 ∧
 apd H22 8 1 t4 t4l 1 l23 fun a24 i25 H26 =>
 ∃ k27, k27 < n ∧
 I k27 t2 t2l t3 a24 i25 (IntKind.i64.wrap (t5 + 1)) H26))
 else (
 K0 [(.slice t0 t0l 0), undef, (.slice t2 t2l 0), (.int .i64 t3), (.slice t4 t4l 0), (.int .i64 t5), (ys.getD 6 undef), undef, undef, undef, (.slice t10 t10l 0), (.int .i64 t11), (.bool false), (.slice t13 t13l 0), (.int .i64 t14), (.bool false), (.int .i64 t5), (.slice t0 t0l 0), (.int .i64 ((t0l : Nat) : Int)), (.bool false), (ys.getD 20 undef), (ys.getD 21 undef), (ys.getD 22 undef), (ys.getD 23 undef), (ys.getD 24 undef), (ys.getD 25 undef), (ys.getD 26 undef), (ys.getD 27 undef), (ys.getD 28 undef), (ys.getD 29 undef), (ys.getD 30 undef), (ys.getD 31 undef), (ys.getD 32 undef), (ys.getD 33 undef), (ys.getD 34 undef), (ys.getD 35 undef), undef, undef, undef, undef, undef, undef, undef, undef, undef, undef, undef, undef, undef, undef, undef, undef, undef, undef, undef, undef, undef, undef, undef, undef, undef, undef, undef, undef] H))) :
    LA en L_crossbarref06_Targets_0 [(.slice t0 t0l 0), undef, (.slice t2 t2l 0), (.int .i64 t3), (.slice t4 t4l 0), (.int .i64 t5), t6, undef, undef, undef, (.slice t10 t10l 0), (.int .i64 t11), (.bool false), (.slice t13 t13l 0), (.int .i64 t14), (.bool false), t16, t17, t18, t19, t20, t21, t22, t23, t24, t25, t26, t27, t28, t29, t30, t31, t32, t33, t34, t35, undef, undef, undef, undef, undef, undef, undef, undef, undef, undef, undef, undef, undef, undef, undef, undef, undef, undef, undef, undef, undef, undef, undef, undef, undef, undef, undef, undef] H [(X.exit 0, K0), (X.ret, K1)] := by
  refine LA_rule (Z := []) (fun m xs H' => asSl (xs.getD 2 undef) fun t2 t2l => AS.asInt .i64 (xs.getD 3 undef) fun t3 => asSl (xs.getD 4 undef) fun t4 t4l => AS.asInt .i64 (xs.getD 5 undef) fun t5 => I m t2 t2l t3 t4 t4l t5 H') ?_ n H ?_
  · intro n H
    suffices hs : ∀ s16 : Value, ∀ s17 : Value, ∀ s18 : Value, ∀ s19 : Value, ∀ s6 : Value, ∀ s22 : Value, ∀ s23 : Value, ∀ s24 : Value, ∀ s25 : Value, ∀ s26 : Value, ∀ s27 : Value, ∀ s28 : Value, ∀ s29 : Value, ∀ s30 : Value, ∀ s31 : Value, ∀ s2 : Value, ∀ s3 : Value, ∀ s32 : Value, ∀ s33 : Value, ∀ s34 : Value, ∀ s35 : Value, ∀ s4 : Value, ∀ s20 : Value, ∀ s21 : Value, ∀ s5 : Value, ((asSl s2 fun t2 t2l => AS.asInt .i64 s3 fun t3 => asSl s4 fun t4 t4l => AS.asInt .i64 s5 fun t5 => I n t2 t2l t3 t4 t4l t5 H) → wpCode en L_crossbarref06_Targets_0 [] [(.slice t0 t0l 0), undef, s2, s3, s4, s5, s6, undef, undef, undef, (.slice t10 t10l 0), (.int .i64 t11), (.bool false), (.slice t13 t13l 0), (.int .i64 t14), (.bool false), s16, s17, s18, s19, s20, s21, s22, s23, s24, s25, s26, s27, s28, s29, s30, s31, s32, s33, s34, s35, undef, undef, undef, undef, undef, undef, undef, undef, undef, undef, undef, undef, undef, undef, undef, undef, undef, undef, undef, undef, undef, undef, undef, undef, undef, undef, undef, undef] H (loopQ (fun m xs H' => asSl (xs.getD 2 undef) fun t2 t2l => AS.asInt .i64 (xs.getD 3 undef) fun t3 => asSl (xs.getD 4 undef) fun t4 t4l => AS.asInt .i64 (xs.getD 5 undef) fun t5 => I m t2 t2l t3 t4 t4l t5 H') n [(X.exit 0, K0), (X.ret, K1)])) by
      apply turnInto hs
      kernel_rfl
    intro s16 s17 s18 s19 s6 s22 s23 s24 s25 s26 s27 s28 s29 s30 s31 s2 s3 s32 s33 s34 s35 s4 s20 s21 s5 hP
    replace hP := asSl_elim hP
    obtain ⟨t2, t2l, rfl, hP⟩ := hP
    replace hP := asInt_elim hP
    obtain ⟨t3, rfl, hP⟩ := hP
    replace hP := asSl_elim hP
    obtain ⟨t4, t4l, rfl, hP⟩ := hP
    replace hP := asInt_elim hP
    obtain ⟨t5, rfl, hP⟩ := hP
    apply turnInto (hstep n t2 t2l t3 t4 t4l t5 [(.slice t0 t0l 0), undef, (.slice t2 t2l 0), (.int .i64 t3), (.slice t4 t4l 0), (.int .i64 t5), s6, undef, undef, undef, (.slice t10 t10l 0), (.int .i64 t11), (.bool false), (.slice t13 t13l 0), (.int .i64 t14), (.bool false), s16, s17, s18, s19, s20, s21, s22, s23, s24, s25, s26, s27, s28, s29, s30, s31, s32, s33, s34, s35, undef, undef, undef, undef, undef, undef, undef, undef, undef, undef, undef, undef, undef, undef, undef, undef, undef, undef, undef, undef, undef, undef, undef, undef, undef, undef, undef, undef] H hP)
    kernel_rfl
  · apply turnInto h0
    kernel_rfl

theorem use_crossbarref06_Targets_1 {t0 : Option Addr} {t0l : Nat} {t4 : Option Addr} {t4l : Nat} {t5 : Value} {t6 : Value} {t7 : Int} {t8 : Option Addr} {t8l : Nat} {t10 : Option Addr} {t10l : Nat} {t11 : Int} {t13 : Option Addr} {t13l : Nat} {t14 : Int} {t16 : Value} {t17 : Value} {t18 : Value} {t19 : Value} {t20 : Value} {t21 : Value} {t22 : Value} {t23 : Value} {t24 : Value} {t25 : Value} {t26 : Value} {t27 : Value} {t28 : Value} {t29 : Value} {t30 : Value} {t31 : Value} {t32 : Value} {t33 : Value} {t34 : Value} {t35 : Value} {t36 : Option Addr} {t36l : Nat} {t37 : Option Addr} {t37l : Nat} {t38 : Int} {t39 : Int} {t40 : Nat} {t40o : Nat} {t41 : Nat} {t41o : Nat} {t42 : Int} {t43 : Int} {t44 : Bool} {t45 : Bool} {t46 : Value} {t47 : Value} {t49 : Option Addr} {t49l : Nat} {t50 : Option Addr} {t50l : Nat} {t51 : Option Addr} {t51l : Nat} {K0 : Fr → Heap → Prop} {K1 : Fr → Heap → Prop} {t2 : Option Addr} {t2l : Nat} {t3 : Int} {t9 : Int} {t52 : Value} {t53 : Value} {t54 : Value} {t55 : Value} {t56 : Value} {t57 : Value} {t58 : Value} {t59 : Value} {t60 : Value} {t61 : Value} {t62 : Value} {H : Heap} (I : Nat → Option Addr → Nat → Int → Int → Heap → Prop) (n : Nat) (h0 : I n t2 t2l t3 t9 H)
    (hstep : ∀ (n : Nat) (t2 : Option Addr) (t2l : Nat) (t3 : Int) (t9 : Int) (ys : Fr) (H : Heap), I n t2 t2l t3 t9 H →
    (
 bif (decide (t9 < ((t8l : Nat) : Int))) then (
 inB t9 t8l ∧
 asRow t8 fun i1 i2 =>
 ∃ b3, H.cell i1 (i2 + (t9.toNat * 1)) = some (.bool b3) ∧
 bif (!b3) then (
 K1 [(.slice t0 t0l 0), undef, (.slice none 0 0), (.int .i64 13), (.slice t4 t4l 0), t5, t6, (.int .i64 t7), (.slice t8 t8l 0), (.int .i64 t9), (.slice t10 t10l 0), (.int .i64 t11), (.bool false), (.slice t13 t13l 0), (.int .i64 t14), (.bool false), t16, t17, t18, t19, t20, t21, t22, t23, t24, t25, t26, t27, t28, t29, t30, t31, t32, t33, t34, t35, (.slice t36 t36l 0), (.slice t37 t37l 0), (.int .i64 t38), (.int .i64 t39), (.pointer (some ⟨t40, t40o, none⟩)), (.pointer (some ⟨t41, t41o, none⟩)), (.int .i64 t42), (.int .i64 t43), (.bool t44), (.bool t45), t46, t47, (.bool false), (.slice t49 t49l 0), (.slice t50 t50l 0), (.slice t51 t51l 0), (.int .i64 t9), (.slice t8 t8l 0), (.int .i64 ((t8l : Nat) : Int)), (.bool true), (ys.getD 56 undef), (ys.getD 57 undef), (.slice t8 t8l 0), (.int .i64 t9), (.pointer (some ⟨i1, (i2 + (t9.toNat * 1)), none⟩)), (.bool b3), (.bool true), undef] H)
 else (
 ∃ k4, k4 < n ∧
 I k4 t2 t2l t3 (IntKind.i64.wrap (t9 + 1)) H))
 else (
 K0 [(.slice t0 t0l 0), undef, (.slice t2 t2l 0), (.int .i64 t3), (.slice t4 t4l 0), t5, t6, (.int .i64 t7), (.slice t8 t8l 0), (.int .i64 t9), (.slice t10 t10l 0), (.int .i64 t11), (.bool false), (.slice t13 t13l 0), (.int .i64 t14), (.bool false), t16, t17, t18, t19, t20, t21, t22, t23, t24, t25, t26, t27, t28, t29, t30, t31, t32, t33, t34, t35, (.slice t36 t36l 0), (.slice t37 t37l 0), (.int .i64 t38), (.int .i64 t39), (.pointer (some ⟨t40, t40o, none⟩)), (.pointer (some ⟨t41, t41o, none⟩)), (.int .i64 t42), (.int .i64 t43), (.bool t44), (.bool t45), t46, t47, (.bool false), (.slice t49 t49l 0), (.slice t50 t50l 0), (.slice t51 t51l 0), (.int .i64 t9), (.slice t8 t8l 0), (.int .i64 ((t8l : Nat) : Int)), (.bool false), (ys.getD 56 undef), (ys.getD 57 undef), (ys.getD 58 undef), (ys.getD 59 undef), (ys.getD 60 undef), (ys.getD 61 undef), (ys.getD 62 undef), undef] H))) :
    LA en L_crossbarref06_Targets_1 [(.slice t0 t0l 0), undef, (.slice t2 t2l 0), (.int .i64 t3), (.slice t4 t4l 0), t5, t6, (.int .i64 t7), (.slice t8 t8l 0), (.int .i64 t9), (.slice t10 t10l 0), (.int .i64 t11), (.bool false), (.slice t13 t13l 0), (.int .i64 t14), (.bool false), t16, t17, t18, t19, t20, t21, t22, t23, t24, t25, t26, t27, t28, t29, t30, t31, t32, t33, t34, t35, (.slice t36 t36l 0), (.slice t37 t37l 0), (.int .i64 t38), (.int .i64 t39), (.pointer (some ⟨t40, t40o, none⟩)), (.pointer (some ⟨t41, t41o, none⟩)), (.int .i64 t42), (.int .i64 t43), (.bool t44), (.bool t45), t46, t47, (.bool false), (.slice t49 t49l 0), (.slice t50 t50l 0), (.slice t51 t51l 0), t52, t53, t54, t55, t56, t57, t58, t59, t60, t61, t62, undef] H [(X.exit 2, K0), (X.ret, K1)] := by
  refine LA_rule (Z := []) (fun m xs H' => asSl (xs.getD 2 undef) fun t2 t2l => AS.asInt .i64 (xs.getD 3 undef) fun t3 => AS.asInt .i64 (xs.getD 9 undef) fun t9 => I m t2 t2l t3 t9 H') ?_ n H ?_
  · intro n H
    suffices hs : ∀ s52 : Value, ∀ s53 : Value, ∀ s54 : Value, ∀ s55 : Value, ∀ s58 : Value, ∀ s59 : Value, ∀ s60 : Value, ∀ s61 : Value, ∀ s62 : Value, ∀ s2 : Value, ∀ s3 : Value, ∀ s56 : Value, ∀ s57 : Value, ∀ s9 : Value, ((asSl s2 fun t2 t2l => AS.asInt .i64 s3 fun t3 => AS.asInt .i64 s9 fun t9 => I n t2 t2l t3 t9 H) → wpCode en L_crossbarref06_Targets_1 [] [(.slice t0 t0l 0), undef, s2, s3, (.slice t4 t4l 0), t5, t6, (.int .i64 t7), (.slice t8 t8l 0), s9, (.slice t10 t10l 0), (.int .i64 t11), (.bool false), (.slice t13 t13l 0), (.int .i64 t14), (.bool false), t16, t17, t18, t19, t20, t21, t22, t23, t24, t25, t26, t27, t28, t29, t30, t31, t32, t33, t34, t35, (.slice t36 t36l 0), (.slice t37 t37l 0), (.int .i64 t38), (.int .i64 t39), (.pointer (some ⟨t40, t40o, none⟩)), (.pointer (some ⟨t41, t41o, none⟩)), (.int .i64 t42), (.int .i64 t43), (.bool t44), (.bool t45), t46, t47, (.bool false), (.slice t49 t49l 0), (.slice t50 t50l 0), (.slice t51 t51l 0), s52, s53, s54, s55, s56, s57, s58, s59, s60, s61, s62, undef] H (loopQ (fun m xs H' => asSl (xs.getD 2 undef) fun t2 t2l => AS.asInt .i64 (xs.getD 3 undef) fun t3 => AS.asInt .i64 (xs.getD 9 undef) fun t9 => I m t2 t2l t3 t9 H') n [(X.exit 2, K0), (X.ret, K1)])) by
      apply turnInto hs
      kernel_rfl
    intro s52 s53 s54 s55 s58 s59 s60 s61 s62 s2 s3 s56 s57 s9 hP
    replace hP := asSl_elim hP
    obtain ⟨t2, t2l, rfl, hP⟩ := hP
    replace hP := asInt_elim hP
    obtain ⟨t3, rfl, hP⟩ := hP
    replace hP := asInt_elim hP
    obtain ⟨t9, rfl, hP⟩ := hP
    apply turnInto (hstep n t2 t2l t3 t9 [(.slice t0 t0l 0), undef, (.slice t2 t2l 0), (.int .i64 t3), (.slice t4 t4l 0), t5, t6, (.int .i64 t7), (.slice t8 t8l 0), (.int .i64 t9), (.slice t10 t10l 0), (.int .i64 t11), (.bool false), (.slice t13 t13l 0), (.int .i64 t14), (.bool false), t16, t17, t18, t19, t20, t21, t22, t23, t24, t25, t26, t27, t28, t29, t30, t31, t32, t33, t34, t35, (.slice t36 t36l 0), (.slice t37 t37l 0), (.int .i64 t38), (.int .i64 t39), (.pointer (some ⟨t40, t40o, none⟩)), (.pointer (some ⟨t41, t41o, none⟩)), (.int .i64 t42), (.int .i64 t43), (.bool t44), (.bool t45), t46, t47, (.bool false), (.slice t49 t49l 0), (.slice t50 t50l 0), (.slice t51 t51l 0), s52, s53, s54, s55, s56, s57, s58, s59, s60, s61, s62, undef] H hP)
    kernel_rfl
  · apply turnInto h0
    kernel_rfl


/-! crossbarref06_Places -/
noncomputable def L_crossbarref06_Places_0 : Code := loopAt Go.Proofs.Tryd.f37 0

theorem vc_crossbarref06_Places (x0 : Option Addr) (x0l : Nat) (H : Heap) (R : Value → Heap → Prop) :
    (
 LA en L_crossbarref06_Places_0 [(.slice x0 x0l 0), undef, (.slice none 0 0), (.slice none 0 0), (.int .i64 0), undef, undef, undef, undef, undef, undef, undef, undef, undef, undef, undef, undef, undef] H [(X.exit 0, fun (y1 : Fr) (H2 : Heap) =>
 asSl (y1.getD 3 undef) fun a3 i4 =>
 R (.slice a3 i4 0) H2)]) →
    CA en F.crossbarref06_Places [(.slice x0 x0l 0)] H R := by
  intro h
  refine wpFn_ok (Z := [[(3, (.slice none 0 0))]]) (fn := Go.Proofs.Tryd.f37) ?_ ?_ ?_
  · kernel_rfl
  · kernel_rfl
  · apply turnInto h
    kernel_rfl

theorem use_crossbarref06_Places_0 {t0 : Option Addr} {t0l : Nat} {K0 : Fr → Heap → Prop} {t3 : Option Addr} {t3l : Nat} {t4 : Int} {t5 : Value} {t6 : Value} {t7 : Value} {t8 : Value} {t9 : Value} {t10 : Value} {t11 : Value} {t12 : Value} {t13 : Value} {t14 : Value} {t15 : Value} {t16 : Value} {H : Heap} (I : Nat → Option Addr → Nat → Int → Heap → Prop) (n : Nat) (h0 : I n t3 t3l t4 H)
    (hstep : ∀ (n : Nat) (t3 : Option Addr) (t3l : Nat) (t4 : Int) (ys : Fr) (H : Heap), I n t3 t3l t4 H →
    (
 bif (decide (t4 < ((t0l : Nat) : Int))) then (
 CA en F.crossbarref06_Place [(.slice t0 t0l 0), (.int .i64 t4)] H fun v1 H2 =>
 ∃ n3, v1 = (.int .i64 n3) ∧
 nwH H2 (.cells true 1 [(.int .i64 n3)]) fun i4 H5 =>
 ∃ l6, rowOf H5 1 (some ⟨i4, 0, none⟩) 1 = some l6 ∧
 apd H5 8 1 t3 t3l 1 l6 fun a7 i8 H9 =>
 ∃ k10, k10 < n ∧
 I k10 a7 i8 (IntKind.i64.wrap (t4 + 1)) H9)
 else (
 K0 [(.slice t0 t0l 0), undef, (.slice none 0 0), (.slice t3 t3l 0), (.int .i64 t4), (.int .i64 t4), (.slice t0 t0l 0), (.int .i64 ((t0l : Nat) : Int)), (.bool false), (ys.getD 9 undef), (ys.getD 10 undef), (ys.getD 11 undef), (ys.getD 12 undef), (ys.getD 13 undef), (ys.getD 14 undef), (ys.getD 15 undef), (ys.getD 16 undef), undef] H))) :
    LA en L_crossbarref06_Places_0 [(.slice t0 t0l 0), undef, (.slice none 0 0), (.slice t3 t3l 0), (.int .i64 t4), t5, t6, t7, t8, t9, t10, t11, t12, t13, t14, t15, t16, undef] H [(X.exit 0, K0)] := by
  refine LA_rule (Z := []) (fun m xs H' => asSl (xs.getD 3 undef) fun t3 t3l => AS.asInt .i64 (xs.getD 4 undef) fun t4 => I m t3 t3l t4 H') ?_ n H ?_
  · intro n H
    suffices hs : ∀ s5 : Value, ∀ s6 : Value, ∀ s7 : Value, ∀ s8 : Value, ∀ s11 : Value, ∀ s12 : Value, ∀ s13 : Value, ∀ s14 : Value, ∀ s15 : Value, ∀ s16 : Value, ∀ s3 : Value, ∀ s9 : Value, ∀ s10 : Value, ∀ s4 : Value, ((asSl s3 fun t3 t3l => AS.asInt .i64 s4 fun t4 => I n t3 t3l t4 H) → wpCode en L_crossbarref06_Places_0 [] [(.slice t0 t0l 0), undef, (.slice none 0 0), s3, s4, s5, s6, s7, s8, s9, s10, s11, s12, s13, s14, s15, s16, undef] H (loopQ (fun m xs H' => asSl (xs.getD 3 undef) fun t3 t3l => AS.asInt .i64 (xs.getD 4 undef) fun t4 => I m t3 t3l t4 H') n [(X.exit 0, K0)])) by
      apply turnInto hs
      kernel_rfl
    intro s5 s6 s7 s8 s11 s12 s13 s14 s15 s16 s3 s9 s10 s4 hP
    replace hP := asSl_elim hP
    obtain ⟨t3, t3l, rfl, hP⟩ := hP
    replace hP := asInt_elim hP
    obtain ⟨t4, rfl, hP⟩ := hP
    apply turnInto (hstep n t3 t3l t4 [(.slice t0 t0l 0), undef, (.slice none 0 0), (.slice t3 t3l 0), (.int .i64 t4), s5, s6, s7, s8, s9, s10, s11, s12, s13, s14, s15, s16, undef] H hP)
    kernel_rfl
  · apply turnInto h0
    kernel_rfl


/-! crossbarref06_Jumps -/

theorem vc_crossbarref06_Jumps (x0_0 : Int) (x0_1 : Int) (x0_2 : Int) (x0_3 : Int) (x0_4 : Int) (H : Heap) (R : Value → Heap → Prop) :
    (
 nwH H (.cells true 0 [(.int .i64 x0_0), (.int .i64 x0_1), (.int .i64 x0_2), (.int .i64 x0_3), (.int .i64 x0_4)]) fun i1 H2 =>
 ∃ n3, H2.cell i1 0 = some (.int .i64 n3) ∧
 nz 8 ∧
 bif ((Int.tmod n3 8) == 5) then (
 ∃ n4, H2.cell i1 0 = some (.int .i64 n4) ∧
 bif (n4 != 133) then (
 ∃ n5, H2.cell i1 0 = some (.int .i64 n5) ∧
 R (.bool (n5 != 149)) H2)
 else (
 R (.bool false) H2))
 else (
 ∃ n6, H2.cell i1 0 = some (.int .i64 n6) ∧
 nz 8 ∧
 bif ((Int.tmod n6 8) == 6) then (
 ∃ n7, H2.cell i1 0 = some (.int .i64 n7) ∧
 bif (n7 != 133) then (
 ∃ n8, H2.cell i1 0 = some (.int .i64 n8) ∧
 R (.bool (n8 != 149)) H2)
 else (
 R (.bool false) H2))
 else (
 R (.bool false) H2))) →
    CA en F.crossbarref06_Jumps [(.agg #[(.int .i64 x0_0), (.int .i64 x0_1), (.int .i64 x0_2), (.int .i64 x0_3), (.int .i64 x0_4)])] H R := by
  intro h
  refine wpFn_ok (Z := []) (fn := Go.Proofs.Tryd.f39) ?_ ?_ ?_
  · kernel_rfl
  · kernel_rfl
  · apply turnInto h
    kernel_rfl


/-! crossbarref06_Next -/

theorem vc_crossbarref06_Next (x0 : Option Addr) (x0l : Nat) (x1 : Option Addr) (x1l : Nat) (x2 : Int) (H : Heap) (R : Value → Heap → Prop) :
    (
 inB x2 x0l ∧
 asRow x0 fun i1 i2 =>
 ∃ n3, H.cell i1 (i2 + (x2.toNat * 5)) = some (.int .i64 n3) ∧
 bif (n3 != 149) then (
 inB x2 x0l ∧
 asRow x0 fun i4 i5 =>
 ∃ n6, H.cell i4 (i5 + (x2.toNat * 5)) = some (.int .i64 n6) ∧
 bif (n6 != 5) then (
 nwH H (.cells true 1 [(.int .i64 (IntKind.i64.wrap (x2 + 1)))]) fun i7 H8 =>
 ∃ l9, rowOf H8 1 (some ⟨i7, 0, none⟩) 1 = some l9 ∧
 apd H8 8 1 none 0 1 l9 fun a10 i11 H12 =>
 inB x2 x1l ∧
 asRow x1 fun i13 i14 =>
 ∃ n15, (H12.bump 20).cell i13 (i14 + (x2.toNat * 1)) = some (.int .i64 n15) ∧
 bif (decide (n15 ≥ 0)) then (
 bif (((i11 : Nat) : Int) == 0) then (
 (
 inB x2 x1l ∧
 asRow x1 fun i16 i17 =>
 ∃ n18, (H12.bump 20).cell i16 (i17 + (x2.toNat * 1)) = some (.int .i64 n18) ∧
 nwH (H12.bump 20) (.cells true 1 [(.int .i64 n18)]) fun i19 H20 =>
 ∃ l21, rowOf H20 1 (some ⟨i19, 0, none⟩) 1 = some l21 ∧
 apd H20 8 1 a10 i11 1 l21 fun a22 i23 H24 =>
 R (.slice a22 i23 0) H24) ∧
 True)
 else (
 inB 0 i11 ∧
 asRow a10 fun i25 i26 =>
 ∃ n27, (H12.bump 20).cell i25 i26 = some (.int .i64 n27) ∧
 inB x2 x1l ∧
 asRow x1 fun i28 i29 =>
 ∃ n30, (H12.bump 20).cell i28 (i29 + (x2.toNat * 1)) = some (.int .i64 n30) ∧
 (
 bif (n27 != n30) then (
 inB x2 x1l ∧
 asRow x1 fun i31 i32 =>
 ∃ n33, (H12.bump 20).cell i31 (i32 + (x2.toNat * 1)) = some (.int .i64 n33) ∧
 nwH (H12.bump 20) (.cells true 1 [(.int .i64 n33)]) fun i34 H35 =>
 ∃ l36, rowOf H35 1 (some ⟨i34, 0, none⟩) 1 = some l36 ∧
 apd H35 8 1 a10 i11 1 l36 fun a37 i38 H39 =>
 R (.slice a37 i38 0) H39)
 else (
 R (.slice a10 i11 0) (H12.bump 20))) ∧
 True))
 else (
 (
 R (.slice a10 i11 0) (H12.bump 20)) ∧
 True))
 else (
 inB x2 x1l ∧
 asRow x1 fun i40 i41 =>
 ∃ n42, (H.bump 20).cell i40 (i41 + (x2.toNat * 1)) = some (.int .i64 n42) ∧
 bif (decide (n42 ≥ 0)) then (
 (
 inB x2 x1l ∧
 asRow x1 fun i43 i44 =>
 ∃ n45, (H.bump 20).cell i43 (i44 + (x2.toNat * 1)) = some (.int .i64 n45) ∧
 nwH (H.bump 20) (.cells true 1 [(.int .i64 n45)]) fun i46 H47 =>
 ∃ l48, rowOf H47 1 (some ⟨i46, 0, none⟩) 1 = some l48 ∧
 apd H47 8 1 none 0 1 l48 fun a49 i50 H51 =>
 R (.slice a49 i50 0) H51) ∧
 True)
 else (
 (
 R (.slice none 0 0) (H.bump 20)) ∧
 True)))
 else (
 inB x2 x1l ∧
 asRow x1 fun i52 i53 =>
 ∃ n54, (H.bump 20).cell i52 (i53 + (x2.toNat * 1)) = some (.int .i64 n54) ∧
 bif (decide (n54 ≥ 0)) then (
 (
 inB x2 x1l ∧
 asRow x1 fun i55 i56 =>
 ∃ n57, (H.bump 20).cell i55 (i56 + (x2.toNat * 1)) = some (.int .i64 n57) ∧
 nwH (H.bump 20) (.cells true 1 [(.int .i64 n57)]) fun i58 H59 =>
 ∃ l60, rowOf H59 1 (some ⟨i58, 0, none⟩) 1 = some l60 ∧
 apd H59 8 1 none 0 1 l60 fun a61 i62 H63 =>
 R (.slice a61 i62 0) H63) ∧
 True)
 else (
 (
 R (.slice none 0 0) (H.bump 20)) ∧
 True))) →
    CA en F.crossbarref06_Next [(.slice x0 x0l 0), (.slice x1 x1l 0), (.int .i64 x2)] H R := by
  intro h
  refine wpFn_ok (Z := []) (fn := Go.Proofs.Tryd.f41) ?_ ?_ ?_
  · kernel_rfl
  · kernel_rfl
  · apply turnInto h
    kernel_rfl


/-! crossbarref06_Target -/
noncomputable def L_crossbarref06_Target_0 : Code := loopAt Go.Proofs.Tryd.f65 0

theorem vc_crossbarref06_Target (x0 : Option Addr) (x0l : Nat) (x1 : Int) (H : Heap) (R : Value → Heap → Prop) :
    (
 CA en F.crossbarref06_Place [(.slice x0 x0l 0), (.int .i64 x1)] (H.bump 11) fun v1 H2 =>
 ∃ n3, v1 = (.int .i64 n3) ∧
 inB x1 x0l ∧
 asRow x0 fun i4 i5 =>
 ∃ n6, H2.cell i4 ((i5 + (x1.toNat * 5)) + 3) = some (.int .i64 n6) ∧
 (
 LA en L_crossbarref06_Target_0 [(.slice x0 x0l 0), (.int .i64 x1), undef, undef, (.int .i64 0), (.int .i64 (IntKind.i64.wrap ((IntKind.i64.wrap (n3 + 1)) + n6))), (.int .i64 0), (.slice x0 x0l 0), (.int .i64 x1), (.int .i64 n3), (.int .i64 (IntKind.i64.wrap (n3 + 1))), (.slice x0 x0l 0), (.int .i64 x1), (.pointer (some ⟨i4, (i5 + (x1.toNat * 5)), none⟩)), (.pointer (some ⟨i4, ((i5 + (x1.toNat * 5)) + 3), none⟩)), (.int .i64 n6), (.int .i64 (IntKind.i64.wrap ((IntKind.i64.wrap (n3 + 1)) + n6))), undef, undef, undef, undef, undef, undef, undef, undef, undef, undef, undef, undef] H2 [(X.exit 0, fun (y9 : Fr) (H10 : Heap) =>
 AS.asInt .i64 (y9.getD 4 undef) fun n11 =>
 R (.int .i64 (-1)) H10),
 (X.ret, fun (y12 : Fr) (H13 : Heap) =>
 AS.asInt .i64 (y12.getD 4 undef) fun n14 =>
 R (.int .i64 n14) H13)]) ∧
 ((∃ n8, (H.bump 11).cell i4 ((i5 + (x1.toNat * 5)) + 3) = some (.int .i64 n8) ∧
 n6 = n8) ∧ (∃ n7, H2.cell i4 ((i5 + (x1.toNat * 5)) + 3) = some (.int .i64 n7) ∧
 n6 = n7) ∧ True) ∧
 True) →
    CA en F.crossbarref06_Target [(.slice x0 x0l 0), (.int .i64 x1)] H R := by
  intro h
  refine wpFn_ok (Z := [[(4, (.int .i64 0))]]) (fn := Go.Proofs.Tryd.f65) ?_ ?_ ?_
  · kernel_rfl
  · kernel_rfl
  · apply turnInto h
    kernel_rfl

theorem use_crossbarref06_Target_0 {t0 : Option Addr} {t0l : Nat} {t1 : Int} {t5 : Int} {t7 : Option Addr} {t7l : Nat} {t8 : Int} {t9 : Int} {t10 : Int} {t11 : Option Addr} {t11l : Nat} {t12 : Int} {t13 : Nat} {t13o : Nat} {t14 : Nat} {t14o : Nat} {t15 : Int} {t16 : Int} {K0 : Fr → Heap → Prop} {K1 : Fr → Heap → Prop} {t4 : Int} {t6 : Int} {t17 : Value} {t18 : Value} {t19 : Value} {t20 : Value} {t21 : Value} {t22 : Value} {t23 : Value} {t24 : Value} {t25 : Value} {t26 : Value} {t27 : Value} {t28 : Value} {H : Heap} (I : Nat → Int → Int → Heap → Prop) (n : Nat) (h0 : I n t4 t6 H)
    (hstep : ∀ (n : Nat) (t4 : Int) (t6 : Int) (ys : Fr) (H : Heap), I n t4 t6 H →
    (
 bif (decide (t6 < ((t0l : Nat) : Int))) then (
 CA en F.crossbarref06_Place [(.slice t0 t0l 0), (.int .i64 t6)] H fun v1 H2 =>
 ∃ n3, v1 = (.int .i64 n3) ∧
 bif (n3 == t5) then (
 K1 [(.slice t0 t0l 0), (.int .i64 t1), undef, undef, (.int .i64 t6), (.int .i64 t5), (.int .i64 t6), (.slice t7 t7l 0), (.int .i64 t8), (.int .i64 t9), (.int .i64 t10), (.slice t11 t11l 0), (.int .i64 t12), (.pointer (some ⟨t13, t13o, none⟩)), (.pointer (some ⟨t14, t14o, none⟩)), (.int .i64 t15), (.int .i64 t16), (.int .i64 t6), (.slice t0 t0l 0), (.int .i64 ((t0l : Nat) : Int)), (.bool true), (ys.getD 21 undef), (ys.getD 22 undef), (.slice t0 t0l 0), (.int .i64 t6), (.int .i64 n3), (.int .i64 t5), (.bool true), (.int .i64 t6)] H2)
 else (
 ∃ k4, k4 < n ∧
 I k4 t4 (IntKind.i64.wrap (t6 + 1)) H2))
 else (
 K0 [(.slice t0 t0l 0), (.int .i64 t1), undef, undef, (.int .i64 t4), (.int .i64 t5), (.int .i64 t6), (.slice t7 t7l 0), (.int .i64 t8), (.int .i64 t9), (.int .i64 t10), (.slice t11 t11l 0), (.int .i64 t12), (.pointer (some ⟨t13, t13o, none⟩)), (.pointer (some ⟨t14, t14o, none⟩)), (.int .i64 t15), (.int .i64 t16), (.int .i64 t6), (.slice t0 t0l 0), (.int .i64 ((t0l : Nat) : Int)), (.bool false), (ys.getD 21 undef), (ys.getD 22 undef), (ys.getD 23 undef), (ys.getD 24 undef), (ys.getD 25 undef), (ys.getD 26 undef), (ys.getD 27 undef), (ys.getD 28 undef)] H))) :
    LA en L_crossbarref06_Target_0 [(.slice t0 t0l 0), (.int .i64 t1), undef, undef, (.int .i64 t4), (.int .i64 t5), (.int .i64 t6), (.slice t7 t7l 0), (.int .i64 t8), (.int .i64 t9), (.int .i64 t10), (.slice t11 t11l 0), (.int .i64 t12), (.pointer (some ⟨t13, t13o, none⟩)), (.pointer (some ⟨t14, t14o, none⟩)), (.int .i64 t15), (.int .i64 t16), t17, t18, t19, t20, t21, t22, t23, t24, t25, t26, t27, t28] H [(X.exit 0, K0), (X.ret, K1)] := by
  refine LA_rule (Z := []) (fun m xs H' => AS.asInt .i64 (xs.getD 4 undef) fun t4 => AS.asInt .i64 (xs.getD 6 undef) fun t6 => I m t4 t6 H') ?_ n H ?_
  · intro n H
    suffices hs : ∀ s17 : Value, ∀ s18 : Value, ∀ s19 : Value, ∀ s20 : Value, ∀ s23 : Value, ∀ s24 : Value, ∀ s25 : Value, ∀ s26 : Value, ∀ s27 : Value, ∀ s28 : Value, ∀ s4 : Value, ∀ s21 : Value, ∀ s22 : Value, ∀ s6 : Value, ((AS.asInt .i64 s4 fun t4 => AS.asInt .i64 s6 fun t6 => I n t4 t6 H) → wpCode en L_crossbarref06_Target_0 [] [(.slice t0 t0l 0), (.int .i64 t1), undef, undef, s4, (.int .i64 t5), s6, (.slice t7 t7l 0), (.int .i64 t8), (.int .i64 t9), (.int .i64 t10), (.slice t11 t11l 0), (.int .i64 t12), (.pointer (some ⟨t13, t13o, none⟩)), (.pointer (some ⟨t14, t14o, none⟩)), (.int .i64 t15), (.int .i64 t16), s17, s18, s19, s20, s21, s22, s23, s24, s25, s26, s27, s28] H (loopQ (fun m xs H' => AS.asInt .i64 (xs.getD 4 undef) fun t4 => AS.asInt .i64 (xs.getD 6 undef) fun t6 => I m t4 t6 H') n [(X.exit 0, K0), (X.ret, K1)])) by
      apply turnInto hs
      kernel_rfl
    intro s17 s18 s19 s20 s23 s24 s25 s26 s27 s28 s4 s21 s22 s6 hP
    replace hP := asInt_elim hP
    obtain ⟨t4, rfl, hP⟩ := hP
    replace hP := asInt_elim hP
    obtain ⟨t6, rfl, hP⟩ := hP
    apply turnInto (hstep n t4 t6 [(.slice t0 t0l 0), (.int .i64 t1), undef, undef, (.int .i64 t4), (.int .i64 t5), (.int .i64 t6), (.slice t7 t7l 0), (.int .i64 t8), (.int .i64 t9), (.int .i64 t10), (.slice t11 t11l 0), (.int .i64 t12), (.pointer (some ⟨t13, t13o, none⟩)), (.pointer (some ⟨t14, t14o, none⟩)), (.int .i64 t15), (.int .i64 t16), s17, s18, s19, s20, s21, s22, s23, s24, s25, s26, s27, s28] H hP)
    kernel_rfl
  · apply turnInto h0
    kernel_rfl


/-! crossbarref06_Reached -/
noncomputable def L_crossbarref06_Reached_0 : Code := loopAt Go.Proofs.Tryd.f66 0
noncomputable def L_crossbarref06_Reached_1 : Code := loopAt Go.Proofs.Tryd.f66 1
noncomputable def L_crossbarref06_Reached_2 : Code := loopAt Go.Proofs.Tryd.f66 2

theorem vc_crossbarref06_Reached (x0 : Option Addr) (x0l : Nat) (x1 : Option Addr) (x1l : Nat) (H : Heap) (R : Value → Heap → Prop) :
    (
 okLen 1 ((x0l : Nat) : Int) ((x0l : Nat) : Int) ∧
 nwH H (.cells true 1 (reps ((x0l : Nat) : Int).toNat [(.bool false)])) fun i1 H2 =>
 inB 0 ((x0l : Nat) : Int).toNat ∧
 stc H2 i1 0 [(.bool true)] fun H3 =>
 LA en L_crossbarref06_Reached_0 [(.slice x0 x0l 0), (.slice x1 x1l 0), undef, undef, (.slice none 0 0), (.slice (some ⟨i1, 0, none⟩) ((x0l : Nat) : Int).toNat 0), (.int .i64 0), undef, undef, undef, (.slice x0 x0l 0), (.int .i64 ((x0l : Nat) : Int)), (.slice (some ⟨i1, 0, none⟩) ((x0l : Nat) : Int).toNat 0), (.slice (some ⟨i1, 0, none⟩) ((x0l : Nat) : Int).toNat 0), (.pointer (some ⟨i1, 0, none⟩)), undef, undef, undef, undef, undef, undef, undef, undef, undef, undef, undef, undef, undef, undef, undef, undef, undef, undef, undef, undef, undef, undef, undef, undef, undef, undef, undef, undef, undef, undef, undef, undef, undef, undef, undef] H3 [(X.exit 0, fun (y4 : Fr) (H5 : Heap) =>
 R (.slice (some ⟨i1, 0, none⟩) ((x0l : Nat) : Int).toNat 0) H5)]) →
    CA en F.crossbarref06_Reached [(.slice x0 x0l 0), (.slice x1 x1l 0)] H R := by
  intro h
  refine wpFn_ok (Z := [[], [], []]) (fn := Go.Proofs.Tryd.f66) ?_ ?_ ?_
  · kernel_rfl
  · kernel_rfl
  · apply turnInto h
    kernel_rfl

theorem use_crossbarref06_Reached_0 {t0 : Option Addr} {t0l : Nat} {t1 : Option Addr} {t1l : Nat} {t5 : Nat} {t5l : Nat} {t10 : Option Addr} {t10l : Nat} {t11 : Int} {t12 : Nat} {t12l : Nat} {t13 : Nat} {t13l : Nat} {t14 : Nat} {K0 : Fr → Heap → Prop} {t6 : Int} {t7 : Value} {t8 : Value} {t9 : Value} {t15 : Value} {t16 : Value} {t17 : Value} {t18 : Value} {t19 : Value} {t20 : Value} {t21 : Value} {t22 : Value} {t23 : Value} {t24 : Value} {t25 : Value} {t26 : Value} {t27 : Value} {t28 : Value} {t29 : Value} {t30 : Value} {t31 : Value} {t32 : Value} {t33 : Value} {t34 : Value} {t35 : Value} {t36 : Value} {t37 : Value} {t38 : Value} {t39 : Value} {t40 : Value} {t41 : Value} {t42 : Value} {t43 : Value} {t44 : Value} {t45 : Value} {t46 : Value} {t47 : Value} {t48 : Value} {H : Heap} (I : Nat → Int → Heap → Prop) (n : Nat) (h0 : I n t6 H)
    (hstep : ∀ (n : Nat) (t6 : Int) (ys : Fr) (H : Heap), I n t6 H →
    (
 bif (decide (t6 < ((t0l : Nat) : Int))) then (
 LA en L_crossbarref06_Reached_1 [(.slice t0 t0l 0), (.slice t1 t1l 0), undef, undef, (.slice none 0 0), (.slice (some ⟨t5, 0, none⟩) t5l 0), (.int .i64 t6), (.int .i64 0), (ys.getD 8 undef), (ys.getD 9 undef), (.slice t10 t10l 0), (.int .i64 t11), (.slice (some ⟨t12, 0, none⟩) t12l 0), (.slice (some ⟨t13, 0, none⟩) t13l 0), (.pointer (some ⟨t14, 0, none⟩)), (.int .i64 t6), (.slice t0 t0l 0), (.int .i64 ((t0l : Nat) : Int)), (.bool true), (ys.getD 19 undef), (ys.getD 20 undef), (ys.getD 21 undef), (ys.getD 22 undef), (ys.getD 23 undef), (ys.getD 24 undef), (ys.getD 25 undef), (ys.getD 26 undef), (ys.getD 27 undef), (ys.getD 28 undef), (ys.getD 29 undef), (ys.getD 30 undef), (ys.getD 31 undef), (ys.getD 32 undef), (ys.getD 33 undef), (ys.getD 34 undef), (ys.getD 35 undef), (ys.getD 36 undef), (ys.getD 37 undef), (ys.getD 38 undef), (ys.getD 39 undef), (ys.getD 40 undef), (ys.getD 41 undef), (ys.getD 42 undef), (ys.getD 43 undef), (ys.getD 44 undef), (ys.getD 45 undef), (ys.getD 46 undef), (ys.getD 47 undef), (ys.getD 48 undef), undef] H [(X.exit 2, fun (y1 : Fr) (H2 : Heap) =>
 ∃ k3, k3 < n ∧
 I k3 (IntKind.i64.wrap (t6 + 1)) H2)])
 else (
 K0 [(.slice t0 t0l 0), (.slice t1 t1l 0), undef, undef, (.slice none 0 0), (.slice (some ⟨t5, 0, none⟩) t5l 0), (.int .i64 t6), (ys.getD 7 undef), (ys.getD 8 undef), (ys.getD 9 undef), (.slice t10 t10l 0), (.int .i64 t11), (.slice (some ⟨t12, 0, none⟩) t12l 0), (.slice (some ⟨t13, 0, none⟩) t13l 0), (.pointer (some ⟨t14, 0, none⟩)), (.int .i64 t6), (.slice t0 t0l 0), (.int .i64 ((t0l : Nat) : Int)), (.bool false), (ys.getD 19 undef), (ys.getD 20 undef), (ys.getD 21 undef), (ys.getD 22 undef), (ys.getD 23 undef), (ys.getD 24 undef), (ys.getD 25 undef), (ys.getD 26 undef), (ys.getD 27 undef), (ys.getD 28 undef), (ys.getD 29 undef), (ys.getD 30 undef), (ys.getD 31 undef), (ys.getD 32 undef), (ys.getD 33 undef), (ys.getD 34 undef), (ys.getD 35 undef), (ys.getD 36 undef), (ys.getD 37 undef), (ys.getD 38 undef), (ys.getD 39 undef), (ys.getD 40 undef), (ys.getD 41 undef), (ys.getD 42 undef), (ys.getD 43 undef), (ys.getD 44 undef), (ys.getD 45 undef), (ys.getD 46 undef), (ys.getD 47 undef), (ys.getD 48 undef), undef] H))) :
    LA en L_crossbarref06_Reached_0 [(.slice t0 t0l 0), (.slice t1 t1l 0), undef, undef, (.slice none 0 0), (.slice (some ⟨t5, 0, none⟩) t5l 0), (.int .i64 t6), t7, t8, t9, (.slice t10 t10l 0), (.int .i64 t11), (.slice (some ⟨t12, 0, none⟩) t12l 0), (.slice (some ⟨t13, 0, none⟩) t13l 0), (.pointer (some ⟨t14, 0, none⟩)), t15, t16, t17, t18, t19, t20, t21, t22, t23, t24, t25, t26, t27, t28, t29, t30, t31, t32, t33, t34, t35, t36, t37, t38, t39, t40, t41, t42, t43, t44, t45, t46, t47, t48, undef] H [(X.exit 0, K0)] := by
  refine LA_rule (Z := [[], []]) (fun m xs H' => AS.asInt .i64 (xs.getD 6 undef) fun t6 => I m t6 H') ?_ n H ?_
  · intro n H
    suffices hs : ∀ s15 : Value, ∀ s16 : Value, ∀ s17 : Value, ∀ s18 : Value, ∀ s7 : Value, ∀ s21 : Value, ∀ s22 : Value, ∀ s23 : Value, ∀ s24 : Value, ∀ s27 : Value, ∀ s28 : Value, ∀ s29 : Value, ∀ s30 : Value, ∀ s8 : Value, ∀ s9 : Value, ∀ s31 : Value, ∀ s32 : Value, ∀ s33 : Value, ∀ s34 : Value, ∀ s35 : Value, ∀ s36 : Value, ∀ s37 : Value, ∀ s38 : Value, ∀ s39 : Value, ∀ s40 : Value, ∀ s43 : Value, ∀ s44 : Value, ∀ s45 : Value, ∀ s46 : Value, ∀ s47 : Value, ∀ s48 : Value, ∀ s41 : Value, ∀ s42 : Value, ∀ s25 : Value, ∀ s26 : Value, ∀ s19 : Value, ∀ s20 : Value, ∀ s6 : Value, ((AS.asInt .i64 s6 fun t6 => I n t6 H) → wpCode en L_crossbarref06_Reached_0 [[], []] [(.slice t0 t0l 0), (.slice t1 t1l 0), undef, undef, (.slice none 0 0), (.slice (some ⟨t5, 0, none⟩) t5l 0), s6, s7, s8, s9, (.slice t10 t10l 0), (.int .i64 t11), (.slice (some ⟨t12, 0, none⟩) t12l 0), (.slice (some ⟨t13, 0, none⟩) t13l 0), (.pointer (some ⟨t14, 0, none⟩)), s15, s16, s17, s18, s19, s20, s21, s22, s23, s24, s25, s26, s27, s28, s29, s30, s31, s32, s33, s34, s35, s36, s37, s38, s39, s40, s41, s42, s43, s44, s45, s46, s47, s48, undef] H (loopQ (fun m xs H' => AS.asInt .i64 (xs.getD 6 undef) fun t6 => I m t6 H') n [(X.exit 0, K0)])) by
      apply turnInto hs
      kernel_rfl
    intro s15 s16 s17 s18 s7 s21 s22 s23 s24 s27 s28 s29 s30 s8 s9 s31 s32 s33 s34 s35 s36 s37 s38 s39 s40 s43 s44 s45 s46 s47 s48 s41 s42 s25 s26 s19 s20 s6 hP
    replace hP := asInt_elim hP
    obtain ⟨t6, rfl, hP⟩ := hP
    apply turnInto (hstep n t6 [(.slice t0 t0l 0), (.slice t1 t1l 0), undef, undef, (.slice none 0 0), (.slice (some ⟨t5, 0, none⟩) t5l 0), (.int .i64 t6), s7, s8, s9, (.slice t10 t10l 0), (.int .i64 t11), (.slice (some ⟨t12, 0, none⟩) t12l 0), (.slice (some ⟨t13, 0, none⟩) t13l 0), (.pointer (some ⟨t14, 0, none⟩)), s15, s16, s17, s18, s19, s20, s21, s22, s23, s24, s25, s26, s27, s28, s29, s30, s31, s32, s33, s34, s35, s36, s37, s38, s39, s40, s41, s42, s43, s44, s45, s46, s47, s48, undef] H hP)
    kernel_rfl
  · apply turnInto h0
    kernel_rfl

theorem use_crossbarref06_Reached_1 {t0 : Option Addr} {t0l : Nat} {t1 : Option Addr} {t1l : Nat} {t5 : Nat} {t5l : Nat} {t6 : Int} {t10 : Option Addr} {t10l : Nat} {t11 : Int} {t12 : Nat} {t12l : Nat} {t13 : Nat} {t13l : Nat} {t14 : Nat} {t15 : Int} {t16 : Option Addr} {t16l : Nat} {t17 : Int} {t19 : Value} {t20 : Value} {K0 : Fr → Heap → Prop} {t7 : Int} {t8 : Value} {t9 : Value} {t21 : Value} {t22 : Value} {t23 : Value} {t24 : Value} {t25 : Value} {t26 : Value} {t27 : Value} {t28 : Value} {t29 : Value} {t30 : Value} {t31 : Value} {t32 : Value} {t33 : Value} {t34 : Value} {t35 : Value} {t36 : Value} {t37 : Value} {t38 : Value} {t39 : Value} {t40 : Value} {t41 : Value} {t42 : Value} {t43 : Value} {t44 : Value} {t45 : Value} {t46 : Value} {t47 : Value} {t48 : Value} {H : Heap} (I : Nat → Int → Heap → Prop) (n : Nat) (h0 : I n t7 H)
    (hstep : ∀ (n : Nat) (t7 : Int) (ys : Fr) (H : Heap), I n t7 H →
    (
 bif (decide (t7 < ((t0l : Nat) : Int))) then (
 CA en F.crossbarref06_Next [(.slice t0 t0l 0), (.slice t1 t1l 0), (.int .i64 t7)] H fun v1 H2 =>
 ∃ a3 i4, v1 = (.slice a3 i4 0) ∧
 LA en L_crossbarref06_Reached_2 [(.slice t0 t0l 0), (.slice t1 t1l 0), undef, undef, (.slice none 0 0), (.slice (some ⟨t5, 0, none⟩) t5l 0), (.int .i64 t6), (.int .i64 t7), (.slice a3 i4 0), (.int .i64 0), (.slice t10 t10l 0), (.int .i64 t11), (.slice (some ⟨t12, 0, none⟩) t12l 0), (.slice (some ⟨t13, 0, none⟩) t13l 0), (.pointer (some ⟨t14, 0, none⟩)), (.int .i64 t15), (.slice t16 t16l 0), (.int .i64 t17), (.bool true), t19, t20, (.int .i64 t7), (.slice t0 t0l 0), (.int .i64 ((t0l : Nat) : Int)), (.bool true), (ys.getD 25 undef), (ys.getD 26 undef), (.slice t0 t0l 0), (.slice t1 t1l 0), (.int .i64 t7), (.slice a3 i4 0), (ys.getD 31 undef), (ys.getD 32 undef), (ys.getD 33 undef), (ys.getD 34 undef), (ys.getD 35 undef), (ys.getD 36 undef), (ys.getD 37 undef), (ys.getD 38 undef), (ys.getD 39 undef), (ys.getD 40 undef), (ys.getD 41 undef), (ys.getD 42 undef), (ys.getD 43 undef), (ys.getD 44 undef), (ys.getD 45 undef), (ys.getD 46 undef), (ys.getD 47 undef), (ys.getD 48 undef), undef] H2 [(X.exit 4, fun (y5 : Fr) (H6 : Heap) =>
 ∃ k7, k7 < n ∧
 I k7 (IntKind.i64.wrap (t7 + 1)) H6)])
 else (
 K0 [(.slice t0 t0l 0), (.slice t1 t1l 0), undef, undef, (.slice none 0 0), (.slice (some ⟨t5, 0, none⟩) t5l 0), (.int .i64 t6), (.int .i64 t7), (ys.getD 8 undef), (ys.getD 9 undef), (.slice t10 t10l 0), (.int .i64 t11), (.slice (some ⟨t12, 0, none⟩) t12l 0), (.slice (some ⟨t13, 0, none⟩) t13l 0), (.pointer (some ⟨t14, 0, none⟩)), (.int .i64 t15), (.slice t16 t16l 0), (.int .i64 t17), (.bool true), t19, t20, (.int .i64 t7), (.slice t0 t0l 0), (.int .i64 ((t0l : Nat) : Int)), (.bool false), (ys.getD 25 undef), (ys.getD 26 undef), (ys.getD 27 undef), (ys.getD 28 undef), (ys.getD 29 undef), (ys.getD 30 undef), (ys.getD 31 undef), (ys.getD 32 undef), (ys.getD 33 undef), (ys.getD 34 undef), (ys.getD 35 undef), (ys.getD 36 undef), (ys.getD 37 undef), (ys.getD 38 undef), (ys.getD 39 undef), (ys.getD 40 undef), (ys.getD 41 undef), (ys.getD 42 undef), (ys.getD 43 undef), (ys.getD 44 undef), (ys.getD 45 undef), (ys.getD 46 undef), (ys.getD 47 undef), (ys.getD 48 undef), undef] H))) :
    LA en L_crossbarref06_Reached_1 [(.slice t0 t0l 0), (.slice t1 t1l 0), undef, undef, (.slice none 0 0), (.slice (some ⟨t5, 0, none⟩) t5l 0), (.int .i64 t6), (.int .i64 t7), t8, t9, (.slice t10 t10l 0), (.int .i64 t11), (.slice (some ⟨t12, 0, none⟩) t12l 0), (.slice (some ⟨t13, 0, none⟩) t13l 0), (.pointer (some ⟨t14, 0, none⟩)), (.int .i64 t15), (.slice t16 t16l 0), (.int .i64 t17), (.bool true), t19, t20, t21, t22, t23, t24, t25, t26, t27, t28, t29, t30, t31, t32, t33, t34, t35, t36, t37, t38, t39, t40, t41, t42, t43, t44, t45, t46, t47, t48, undef] H [(X.exit 2, K0)] := by
  refine LA_rule (Z := [[]]) (fun m xs H' => AS.asInt .i64 (xs.getD 7 undef) fun t7 => I m t7 H') ?_ n H ?_
  · intro n H
    suffices hs : ∀ s21 : Value, ∀ s22 : Value, ∀ s23 : Value, ∀ s24 : Value, ∀ s27 : Value, ∀ s28 : Value, ∀ s29 : Value, ∀ s30 : Value, ∀ s8 : Value, ∀ s9 : Value, ∀ s31 : Value, ∀ s32 : Value, ∀ s33 : Value, ∀ s34 : Value, ∀ s35 : Value, ∀ s36 : Value, ∀ s37 : Value, ∀ s38 : Value, ∀ s39 : Value, ∀ s40 : Value, ∀ s43 : Value, ∀ s44 : Value, ∀ s45 : Value, ∀ s46 : Value, ∀ s47 : Value, ∀ s48 : Value, ∀ s41 : Value, ∀ s42 : Value, ∀ s25 : Value, ∀ s26 : Value, ∀ s7 : Value, ((AS.asInt .i64 s7 fun t7 => I n t7 H) → wpCode en L_crossbarref06_Reached_1 [[]] [(.slice t0 t0l 0), (.slice t1 t1l 0), undef, undef, (.slice none 0 0), (.slice (some ⟨t5, 0, none⟩) t5l 0), (.int .i64 t6), s7, s8, s9, (.slice t10 t10l 0), (.int .i64 t11), (.slice (some ⟨t12, 0, none⟩) t12l 0), (.slice (some ⟨t13, 0, none⟩) t13l 0), (.pointer (some ⟨t14, 0, none⟩)), (.int .i64 t15), (.slice t16 t16l 0), (.int .i64 t17), (.bool true), t19, t20, s21, s22, s23, s24, s25, s26, s27, s28, s29, s30, s31, s32, s33, s34, s35, s36, s37, s38, s39, s40, s41, s42, s43, s44, s45, s46, s47, s48, undef] H (loopQ (fun m xs H' => AS.asInt .i64 (xs.getD 7 undef) fun t7 => I m t7 H') n [(X.exit 2, K0)])) by
      apply turnInto hs
      kernel_rfl
    intro s21 s22 s23 s24 s27 s28 s29 s30 s8 s9 s31 s32 s33 s34 s35 s36 s37 s38 s39 s40 s43 s44 s45 s46 s47 s48 s41 s42 s25 s26 s7 hP
    replace hP := asInt_elim hP
    obtain ⟨t7, rfl, hP⟩ := hP
    apply turnInto (hstep n t7 [(.slice t0 t0l 0), (.slice t1 t1l 0), undef, undef, (.slice none 0 0), (.slice (some ⟨t5, 0, none⟩) t5l 0), (.int .i64 t6), (.int .i64 t7), s8, s9, (.slice t10 t10l 0), (.int .i64 t11), (.slice (some ⟨t12, 0, none⟩) t12l 0), (.slice (some ⟨t13, 0, none⟩) t13l 0), (.pointer (some ⟨t14, 0, none⟩)), (.int .i64 t15), (.slice t16 t16l 0), (.int .i64 t17), (.bool true), t19, t20, s21, s22, s23, s24, s25, s26, s27, s28, s29, s30, s31, s32, s33, s34, s35, s36, s37, s38, s39, s40, s41, s42, s43, s44, s45, s46, s47, s48, undef] H hP)
    kernel_rfl
  · apply turnInto h0
    kernel_rfl

theorem use_crossbarref06_Reached_2 {t0 : Option Addr} {t0l : Nat} {t1 : Option Addr} {t1l : Nat} {t5 : Nat} {t5l : Nat} {t6 : Int} {t7 : Int} {t8 : Option Addr} {t8l : Nat} {t10 : Option Addr} {t10l : Nat} {t11 : Int} {t12 : Nat} {t12l : Nat} {t13 : Nat} {t13l : Nat} {t14 : Nat} {t15 : Int} {t16 : Option Addr} {t16l : Nat} {t17 : Int} {t19 : Value} {t20 : Value} {t21 : Int} {t22 : Option Addr} {t22l : Nat} {t23 : Int} {t25 : Value} {t26 : Value} {t27 : Option Addr} {t27l : Nat} {t28 : Option Addr} {t28l : Nat} {t29 : Int} {t30 : Option Addr} {t30l : Nat} {K0 : Fr → Heap → Prop} {t9 : Int} {t31 : Value} {t32 : Value} {t33 : Value} {t34 : Value} {t35 : Value} {t36 : Value} {t37 : Value} {t38 : Value} {t39 : Value} {t40 : Value} {t41 : Value} {t42 : Value} {t43 : Value} {t44 : Value} {t45 : Value} {t46 : Value} {t47 : Value} {t48 : Value} {H : Heap} (I : Nat → Int → Heap → Prop) (n : Nat) (h0 : I n t9 H)
    (hstep : ∀ (n : Nat) (t9 : Int) (ys : Fr) (H : Heap), I n t9 H →
    (
 bif (decide (t9 < ((t8l : Nat) : Int))) then (
 inB t7 t5l ∧
 ∃ b1, H.cell t5 (0 + (t7.toNat * 1)) = some (.bool b1) ∧
 bif b1 then (
 inB t9 t8l ∧
 asRow t8 fun i2 i3 =>
 ∃ n4, H.cell i2 (i3 + (t9.toNat * 1)) = some (.int .i64 n4) ∧
 inB n4 t5l ∧
 stc H t5 (0 + (n4.toNat * 1)) [(.bool true)] fun H5 =>
 ∃ k6, k6 < n ∧
 I k6 (IntKind.i64.wrap (t9 + 1)) H5)
 else (
 K0 [(.slice t0 t0l 0), (.slice t1 t1l 0), undef, undef, (.slice none 0 0), (.slice (some ⟨t5, 0, none⟩) t5l 0), (.int .i64 t6), (.int .i64 t7), (.slice t8 t8l 0), (.int .i64 t9), (.slice t10 t10l 0), (.int .i64 t11), (.slice (some ⟨t12, 0, none⟩) t12l 0), (.slice (some ⟨t13, 0, none⟩) t13l 0), (.pointer (some ⟨t14, 0, none⟩)), (.int .i64 t15), (.slice t16 t16l 0), (.int .i64 t17), (.bool true), t19, t20, (.int .i64 t21), (.slice t22 t22l 0), (.int .i64 t23), (.bool true), t25, t26, (.slice t27 t27l 0), (.slice t28 t28l 0), (.int .i64 t29), (.slice t30 t30l 0), (.int .i64 t9), (.slice t8 t8l 0), (.int .i64 ((t8l : Nat) : Int)), (.bool (decide (t9 < ((t8l : Nat) : Int)))), (.bool true), (.slice (some ⟨t5, 0, none⟩) t5l 0), (.int .i64 t7), (.pointer (some ⟨t5, (0 + (t7.toNat * 1)), none⟩)), (.bool b1), (.bool false), (ys.getD 41 undef), (ys.getD 42 undef), (ys.getD 43 undef), (ys.getD 44 undef), (ys.getD 45 undef), (ys.getD 46 undef), (ys.getD 47 undef), (ys.getD 48 undef), undef] H))
 else (
 K0 [(.slice t0 t0l 0), (.slice t1 t1l 0), undef, undef, (.slice none 0 0), (.slice (some ⟨t5, 0, none⟩) t5l 0), (.int .i64 t6), (.int .i64 t7), (.slice t8 t8l 0), (.int .i64 t9), (.slice t10 t10l 0), (.int .i64 t11), (.slice (some ⟨t12, 0, none⟩) t12l 0), (.slice (some ⟨t13, 0, none⟩) t13l 0), (.pointer (some ⟨t14, 0, none⟩)), (.int .i64 t15), (.slice t16 t16l 0), (.int .i64 t17), (.bool true), t19, t20, (.int .i64 t21), (.slice t22 t22l 0), (.int .i64 t23), (.bool true), t25, t26, (.slice t27 t27l 0), (.slice t28 t28l 0), (.int .i64 t29), (.slice t30 t30l 0), (.int .i64 t9), (.slice t8 t8l 0), (.int .i64 ((t8l : Nat) : Int)), (.bool (decide (t9 < ((t8l : Nat) : Int)))), (.bool false), undef, undef, undef, undef, (.bool false), (ys.getD 41 undef), (ys.getD 42 undef), (ys.getD 43 undef), (ys.getD 44 undef), (ys.getD 45 undef), (ys.getD 46 undef), (ys.getD 47 undef), (ys.getD 48 undef), undef] H))) :
    LA en L_crossbarref06_Reached_2 [(.slice t0 t0l 0), (.slice t1 t1l 0), undef, undef, (.slice none 0 0), (.slice (some ⟨t5, 0, none⟩) t5l 0), (.int .i64 t6), (.int .i64 t7), (.slice t8 t8l 0), (.int .i64 t9), (.slice t10 t10l 0), (.int .i64 t11), (.slice (some ⟨t12, 0, none⟩) t12l 0), (.slice (some ⟨t13, 0, none⟩) t13l 0), (.pointer (some ⟨t14, 0, none⟩)), (.int .i64 t15), (.slice t16 t16l 0), (.int .i64 t17), (.bool true), t19, t20, (.int .i64 t21), (.slice t22 t22l 0), (.int .i64 t23), (.bool true), t25, t26, (.slice t27 t27l 0), (.slice t28 t28l 0), (.int .i64 t29), (.slice t30 t30l 0), t31, t32, t33, t34, t35, t36, t37, t38, t39, t40, t41, t42, t43, t44, t45, t46, t47, t48, undef] H [(X.exit 4, K0)] := by
  refine LA_rule (Z := []) (fun m xs H' => AS.asInt .i64 (xs.getD 9 undef) fun t9 => I m t9 H') ?_ n H ?_
  · intro n H
    suffices hs : ∀ s31 : Value, ∀ s32 : Value, ∀ s33 : Value, ∀ s34 : Value, ∀ s35 : Value, ∀ s36 : Value, ∀ s37 : Value, ∀ s38 : Value, ∀ s39 : Value, ∀ s40 : Value, ∀ s43 : Value, ∀ s44 : Value, ∀ s45 : Value, ∀ s46 : Value, ∀ s47 : Value, ∀ s48 : Value, ∀ s41 : Value, ∀ s42 : Value, ∀ s9 : Value, ((AS.asInt .i64 s9 fun t9 => I n t9 H) → wpCode en L_crossbarref06_Reached_2 [] [(.slice t0 t0l 0), (.slice t1 t1l 0), undef, undef, (.slice none 0 0), (.slice (some ⟨t5, 0, none⟩) t5l 0), (.int .i64 t6), (.int .i64 t7), (.slice t8 t8l 0), s9, (.slice t10 t10l 0), (.int .i64 t11), (.slice (some ⟨t12, 0, none⟩) t12l 0), (.slice (some ⟨t13, 0, none⟩) t13l 0), (.pointer (some ⟨t14, 0, none⟩)), (.int .i64 t15), (.slice t16 t16l 0), (.int .i64 t17), (.bool true), t19, t20, (.int .i64 t21), (.slice t22 t22l 0), (.int .i64 t23), (.bool true), t25, t26, (.slice t27 t27l 0), (.slice t28 t28l 0), (.int .i64 t29), (.slice t30 t30l 0), s31, s32, s33, s34, s35, s36, s37, s38, s39, s40, s41, s42, s43, s44, s45, s46, s47, s48, undef] H (loopQ (fun m xs H' => AS.asInt .i64 (xs.getD 9 undef) fun t9 => I m t9 H') n [(X.exit 4, K0)])) by
      apply turnInto hs
      kernel_rfl
    intro s31 s32 s33 s34 s35 s36 s37 s38 s39 s40 s43 s44 s45 s46 s47 s48 s41 s42 s9 hP
    replace hP := asInt_elim hP
    obtain ⟨t9, rfl, hP⟩ := hP
    apply turnInto (hstep n t9 [(.slice t0 t0l 0), (.slice t1 t1l 0), undef, undef, (.slice none 0 0), (.slice (some ⟨t5, 0, none⟩) t5l 0), (.int .i64 t6), (.int .i64 t7), (.slice t8 t8l 0), (.int .i64 t9), (.slice t10 t10l 0), (.int .i64 t11), (.slice (some ⟨t12, 0, none⟩) t12l 0), (.slice (some ⟨t13, 0, none⟩) t13l 0), (.pointer (some ⟨t14, 0, none⟩)), (.int .i64 t15), (.slice t16 t16l 0), (.int .i64 t17), (.bool true), t19, t20, (.int .i64 t21), (.slice t22 t22l 0), (.int .i64 t23), (.bool true), t25, t26, (.slice t27 t27l 0), (.slice t28 t28l 0), (.int .i64 t29), (.slice t30 t30l 0), s31, s32, s33, s34, s35, s36, s37, s38, s39, s40, s41, s42, s43, s44, s45, s46, s47, s48, undef] H hP)
    kernel_rfl
  · apply turnInto h0
    kernel_rfl


/-! crossbarref06_Place -/
noncomputable def L_crossbarref06_Place_0 : Code := loopAt Go.Proofs.Tryd.f67 0

theorem vc_crossbarref06_Place (x0 : Option Addr) (x0l : Nat) (x1 : Int) (H : Heap) (R : Value → Heap → Prop) :
    (
 LA en L_crossbarref06_Place_0 [(.slice x0 x0l 0), (.int .i64 x1), undef, undef, (.int .i64 0), (.int .i64 0), (.int .i64 0), undef, undef, undef, undef, undef, undef, undef, undef, undef, undef, undef, undef, undef, undef, undef, undef] H [(X.exit 0, fun (y1 : Fr) (H2 : Heap) =>
 AS.asInt .i64 (y1.getD 5 undef) fun n3 =>
 R (.int .i64 n3) H2)]) →
    CA en F.crossbarref06_Place [(.slice x0 x0l 0), (.int .i64 x1)] H R := by
  intro h
  refine wpFn_ok (Z := [[(5, (.int .i64 0))]]) (fn := Go.Proofs.Tryd.f67) ?_ ?_ ?_
  · kernel_rfl
  · kernel_rfl
  · apply turnInto h
    kernel_rfl

theorem use_crossbarref06_Place_0 {t0 : Option Addr} {t0l : Nat} {t1 : Int} {K0 : Fr → Heap → Prop} {t5 : Int} {t6 : Int} {t7 : Value} {t8 : Value} {t9 : Value} {t10 : Value} {t11 : Value} {t12 : Value} {t13 : Value} {t14 : Value} {t15 : Value} {t16 : Value} {t17 : Value} {t18 : Value} {t19 : Value} {t20 : Value} {t21 : Value} {H : Heap} (I : Nat → Int → Int → Heap → Prop) (n : Nat) (h0 : I n t5 t6 H)
    (hstep : ∀ (n : Nat) (t5 : Int) (t6 : Int) (ys : Fr) (H : Heap), I n t5 t6 H →
    (
 bif (decide (t6 < t1)) then (
 inB t6 t0l ∧
 asRow t0 fun i1 i2 =>
 ∃ n3, H.cell i1 (i2 + (t6.toNat * 5)) = some (.int .i64 n3) ∧
 bif (n3 == 24) then (
 ∃ k4, k4 < n ∧
 I k4 (IntKind.i64.wrap ((IntKind.i64.wrap (t5 + 1)) + 1)) (IntKind.i64.wrap (t6 + 1)) H)
 else (
 ∃ k5, k5 < n ∧
 I k5 (IntKind.i64.wrap (t5 + 1)) (IntKind.i64.wrap (t6 + 1)) H))
 else (
 K0 [(.slice t0 t0l 0), (.int .i64 t1), undef, undef, (.int .i64 0), (.int .i64 t5), (.int .i64 t6), (.int .i64 t6), (.int .i64 t1), (.bool false), (ys.getD 10 undef), (ys.getD 11 undef), (ys.getD 12 undef), (ys.getD 13 undef), (ys.getD 14 undef), (ys.getD 15 undef), (ys.getD 16 undef), (ys.getD 17 undef), (ys.getD 18 undef), (ys.getD 19 undef), (ys.getD 20 undef), (ys.getD 21 undef), undef] H))) :
    LA en L_crossbarref06_Place_0 [(.slice t0 t0l 0), (.int .i64 t1), undef, undef, (.int .i64 0), (.int .i64 t5), (.int .i64 t6), t7, t8, t9, t10, t11, t12, t13, t14, t15, t16, t17, t18, t19, t20, t21, undef] H [(X.exit 0, K0)] := by
  refine LA_rule (Z := []) (fun m xs H' => AS.asInt .i64 (xs.getD 5 undef) fun t5 => AS.asInt .i64 (xs.getD 6 undef) fun t6 => I m t5 t6 H') ?_ n H ?_
  · intro n H
    suffices hs : ∀ s7 : Value, ∀ s8 : Value, ∀ s9 : Value, ∀ s12 : Value, ∀ s13 : Value, ∀ s5 : Value, ∀ s14 : Value, ∀ s15 : Value, ∀ s16 : Value, ∀ s17 : Value, ∀ s18 : Value, ∀ s19 : Value, ∀ s20 : Value, ∀ s21 : Value, ∀ s10 : Value, ∀ s11 : Value, ∀ s6 : Value, ((AS.asInt .i64 s5 fun t5 => AS.asInt .i64 s6 fun t6 => I n t5 t6 H) → wpCode en L_crossbarref06_Place_0 [] [(.slice t0 t0l 0), (.int .i64 t1), undef, undef, (.int .i64 0), s5, s6, s7, s8, s9, s10, s11, s12, s13, s14, s15, s16, s17, s18, s19, s20, s21, undef] H (loopQ (fun m xs H' => AS.asInt .i64 (xs.getD 5 undef) fun t5 => AS.asInt .i64 (xs.getD 6 undef) fun t6 => I m t5 t6 H') n [(X.exit 0, K0)])) by
      apply turnInto hs
      kernel_rfl
    intro s7 s8 s9 s12 s13 s5 s14 s15 s16 s17 s18 s19 s20 s21 s10 s11 s6 hP
    replace hP := asInt_elim hP
    obtain ⟨t5, rfl, hP⟩ := hP
    replace hP := asInt_elim hP
    obtain ⟨t6, rfl, hP⟩ := hP
    apply turnInto (hstep n t5 t6 [(.slice t0 t0l 0), (.int .i64 t1), undef, undef, (.int .i64 0), (.int .i64 t5), (.int .i64 t6), s7, s8, s9, s10, s11, s12, s13, s14, s15, s16, s17, s18, s19, s20, s21, undef] H hP)
    kernel_rfl
  · apply turnInto h0
    kernel_rfl


/-! crossbarkit_SpoilInts -/
noncomputable def L_crossbarkit_SpoilInts_0 : Code := loopAt Go.Proofs.Tryd.f42 0

theorem vc_crossbarkit_SpoilInts (x0 : Option Addr) (x0l : Nat) (H : Heap) (R : Value → Heap → Prop) :
    (
 LA en L_crossbarkit_SpoilInts_0 [(.slice x0 x0l 0), undef, (.int .i64 0), undef, undef, undef, undef, undef, undef, undef, undef, undef, undef, undef, undef] H [(X.exit 0, fun (y1 : Fr) (H2 : Heap) =>
 R undef H2)]) →
    CA en F.crossbarkit_SpoilInts [(.slice x0 x0l 0)] H R := by
  intro h
  refine wpFn_ok (Z := [[]]) (fn := Go.Proofs.Tryd.f42) ?_ ?_ ?_
  · kernel_rfl
  · kernel_rfl
  · apply turnInto h
    kernel_rfl

theorem use_crossbarkit_SpoilInts_0 {t0 : Option Addr} {t0l : Nat} {K0 : Fr → Heap → Prop} {t2 : Int} {t3 : Value} {t4 : Value} {t5 : Value} {t6 : Value} {t7 : Value} {t8 : Value} {t9 : Value} {t10 : Value} {t11 : Value} {t12 : Value} {t13 : Value} {t14 : Value} {H : Heap} (I : Nat → Int → Heap → Prop) (n : Nat) (h0 : I n t2 H)
    (hstep : ∀ (n : Nat) (t2 : Int) (ys : Fr) (H : Heap), I n t2 H →
    (
 bif (decide (t2 < ((t0l : Nat) : Int))) then (
 CA en F.crossbarkit_markInts [(.int .i64 (IntKind.i64.wrap (t2 + 7)))] H fun v1 H2 =>
 ∃ n3, v1 = (.int .i64 n3) ∧
 inB t2 t0l ∧
 asRow t0 fun i4 i5 =>
 stc H2 i4 (i5 + (t2.toNat * 1)) [(.int .i64 n3)] fun H6 =>
 ∃ k7, k7 < n ∧
 I k7 (IntKind.i64.wrap (t2 + 1)) H6)
 else (
 K0 [(.slice t0 t0l 0), undef, (.int .i64 t2), (.int .i64 t2), (.slice t0 t0l 0), (.int .i64 ((t0l : Nat) : Int)), (.bool false), (ys.getD 7 undef), (ys.getD 8 undef), (ys.getD 9 undef), (ys.getD 10 undef), (ys.getD 11 undef), (ys.getD 12 undef), (ys.getD 13 undef), (ys.getD 14 undef)] H))) :
    LA en L_crossbarkit_SpoilInts_0 [(.slice t0 t0l 0), undef, (.int .i64 t2), t3, t4, t5, t6, t7, t8, t9, t10, t11, t12, t13, t14] H [(X.exit 0, K0)] := by
  refine LA_rule (Z := []) (fun m xs H' => AS.asInt .i64 (xs.getD 2 undef) fun t2 => I m t2 H') ?_ n H ?_
  · intro n H
    suffices hs : ∀ s3 : Value, ∀ s4 : Value, ∀ s5 : Value, ∀ s6 : Value, ∀ s9 : Value, ∀ s10 : Value, ∀ s11 : Value, ∀ s12 : Value, ∀ s13 : Value, ∀ s14 : Value, ∀ s7 : Value, ∀ s8 : Value, ∀ s2 : Value, ((AS.asInt .i64 s2 fun t2 => I n t2 H) → wpCode en L_crossbarkit_SpoilInts_0 [] [(.slice t0 t0l 0), undef, s2, s3, s4, s5, s6, s7, s8, s9, s10, s11, s12, s13, s14] H (loopQ (fun m xs H' => AS.asInt .i64 (xs.getD 2 undef) fun t2 => I m t2 H') n [(X.exit 0, K0)])) by
      apply turnInto hs
      kernel_rfl
    intro s3 s4 s5 s6 s9 s10 s11 s12 s13 s14 s7 s8 s2 hP
    replace hP := asInt_elim hP
    obtain ⟨t2, rfl, hP⟩ := hP
    apply turnInto (hstep n t2 [(.slice t0 t0l 0), undef, (.int .i64 t2), s3, s4, s5, s6, s7, s8, s9, s10, s11, s12, s13, s14] H hP)
    kernel_rfl
  · apply turnInto h0
    kernel_rfl


/-! crossbarkit_LentInsns -/
noncomputable def L_crossbarkit_LentInsns_0 : Code := loopAt Go.Proofs.Tryd.f13 0

theorem vc_crossbarkit_LentInsns (x0 : Option Addr) (x0l : Nat) (H : Heap) (R : Value → Heap → Prop) :
    (
 CA en F.crossbarkit_CopyInsns [(.slice x0 x0l 0)] H fun v1 H2 =>
 ∃ a3 i4, v1 = (.slice a3 i4 0) ∧
 LA en L_crossbarkit_LentInsns_0 [(.slice x0 x0l 0), undef, (.slice none 0 0), (.slice a3 i4 0), (.int .i64 0), (.slice x0 x0l 0), (.slice a3 i4 0), undef, undef, undef, undef, undef, undef, undef, undef, undef, undef] H2 [(X.exit 0, fun (y5 : Fr) (H6 : Heap) =>
 asSl (y5.getD 3 undef) fun a7 i8 =>
 R (.slice a7 i8 0) H6)]) →
    CA en F.crossbarkit_LentInsns [(.slice x0 x0l 0)] H R := by
  intro h
  refine wpFn_ok (Z := [[(3, (.slice none 0 0))]]) (fn := Go.Proofs.Tryd.f13) ?_ ?_ ?_
  · kernel_rfl
  · kernel_rfl
  · apply turnInto h
    kernel_rfl

theorem use_crossbarkit_LentInsns_0 {t0 : Option Addr} {t0l : Nat} {t5 : Option Addr} {t5l : Nat} {t6 : Option Addr} {t6l : Nat} {K0 : Fr → Heap → Prop} {t3 : Option Addr} {t3l : Nat} {t4 : Int} {t7 : Value} {t8 : Value} {t9 : Value} {t10 : Value} {t11 : Value} {t12 : Value} {t13 : Value} {t14 : Value} {t15 : Value} {H : Heap} (I : Nat → Option Addr → Nat → Int → Heap → Prop) (n : Nat) (h0 : I n t3 t3l t4 H)
    (hstep : ∀ (n : Nat) (t3 : Option Addr) (t3l : Nat) (t4 : Int) (ys : Fr) (H : Heap), I n t3 t3l t4 H →
    (
 bif (decide (t4 < 5)) then (
 CA en F.crossbarkit_markInsns [(.int .i64 t4)] H fun v1 H2 =>
 ∃ n3, ∃ n4, ∃ n5, ∃ n6, ∃ n7, v1 = (.agg #[(.int .i64 n3), (.int .i64 n4), (.int .i64 n5), (.int .i64 n6), (.int .i64 n7)]) ∧
 nwH H2 (.cells true 5 [(.int .i64 n3), (.int .i64 n4), (.int .i64 n5), (.int .i64 n6), (.int .i64 n7)]) fun i8 H9 =>
 ∃ l10, rowOf H9 5 (some ⟨i8, 0, none⟩) 1 = some l10 ∧
 apd H9 40 5 t3 t3l 1 l10 fun a11 i12 H13 =>
 ∃ k14, k14 < n ∧
 I k14 a11 i12 (IntKind.i64.wrap (t4 + 1)) H13)
 else (
 K0 [(.slice t0 t0l 0), undef, (.slice none 0 0), (.slice t3 t3l 0), (.int .i64 t4), (.slice t5 t5l 0), (.slice t6 t6l 0), (.int .i64 t4), (.bool false), (ys.getD 9 undef), (ys.getD 10 undef), (ys.getD 11 undef), (ys.getD 12 undef), (ys.getD 13 undef), (ys.getD 14 undef), (ys.getD 15 undef), undef] H))) :
    LA en L_crossbarkit_LentInsns_0 [(.slice t0 t0l 0), undef, (.slice none 0 0), (.slice t3 t3l 0), (.int .i64 t4), (.slice t5 t5l 0), (.slice t6 t6l 0), t7, t8, t9, t10, t11, t12, t13, t14, t15, undef] H [(X.exit 0, K0)] := by
  refine LA_rule (Z := []) (fun m xs H' => asSl (xs.getD 3 undef) fun t3 t3l => AS.asInt .i64 (xs.getD 4 undef) fun t4 => I m t3 t3l t4 H') ?_ n H ?_
  · intro n H
    suffices hs : ∀ s7 : Value, ∀ s8 : Value, ∀ s11 : Value, ∀ s12 : Value, ∀ s13 : Value, ∀ s14 : Value, ∀ s15 : Value, ∀ s3 : Value, ∀ s9 : Value, ∀ s10 : Value, ∀ s4 : Value, ((asSl s3 fun t3 t3l => AS.asInt .i64 s4 fun t4 => I n t3 t3l t4 H) → wpCode en L_crossbarkit_LentInsns_0 [] [(.slice t0 t0l 0), undef, (.slice none 0 0), s3, s4, (.slice t5 t5l 0), (.slice t6 t6l 0), s7, s8, s9, s10, s11, s12, s13, s14, s15, undef] H (loopQ (fun m xs H' => asSl (xs.getD 3 undef) fun t3 t3l => AS.asInt .i64 (xs.getD 4 undef) fun t4 => I m t3 t3l t4 H') n [(X.exit 0, K0)])) by
      apply turnInto hs
      kernel_rfl
    intro s7 s8 s11 s12 s13 s14 s15 s3 s9 s10 s4 hP
    replace hP := asSl_elim hP
    obtain ⟨t3, t3l, rfl, hP⟩ := hP
    replace hP := asInt_elim hP
    obtain ⟨t4, rfl, hP⟩ := hP
    apply turnInto (hstep n t3 t3l t4 [(.slice t0 t0l 0), undef, (.slice none 0 0), (.slice t3 t3l 0), (.int .i64 t4), (.slice t5 t5l 0), (.slice t6 t6l 0), s7, s8, s9, s10, s11, s12, s13, s14, s15, undef] H hP)
    kernel_rfl
  · apply turnInto h0
    kernel_rfl


/-! crossbarkit_KeptInsns -/
noncomputable def L_crossbarkit_KeptInsns_0 : Code := loopAt Go.Proofs.Tryd.f17 0

theorem vc_crossbarkit_KeptInsns (x0 : Option Addr) (x0l : Nat) (x1 : Option Addr) (x1l : Nat) (H : Heap) (R : Value → Heap → Prop) :
    (
 bif (((x0l : Nat) : Int) != (IntKind.i64.wrap (((x1l : Nat) : Int) + 5))) then (
 R (.bool false) H)
 else (
 inS ((x1l : Nat) : Int) x0l ∧
 slK H x0 5 0 ((x1l : Nat) : Int).toNat fun v1 =>
 CA en F.crossbarkit_SameInsns [v1, (.slice x1 x1l 0)] H fun v2 H3 =>
 ∃ b4, v2 = (.bool b4) ∧
 bif (!b4) then (
 R (.bool false) H3)
 else (
 LA en L_crossbarkit_KeptInsns_0 [(.slice x0 x0l 0), (.slice x1 x1l 0), undef, undef, (.bool false), (.slice none 0 0), (.int .i64 0), (.slice x0 x0l 0), (.int .i64 ((x0l : Nat) : Int)), (.slice x1 x1l 0), (.int .i64 ((x1l : Nat) : Int)), (.int .i64 (IntKind.i64.wrap (((x1l : Nat) : Int) + 5))), (.bool (((x0l : Nat) : Int) != (IntKind.i64.wrap (((x1l : Nat) : Int) + 5)))), (.bool false), (.slice x0 x0l 0), (.slice x1 x1l 0), (.int .i64 ((x1l : Nat) : Int)), v1, (.slice x1 x1l 0), (.bool b4), (.bool (!b4)), (.bool false), undef, undef, undef, undef, undef, undef, undef, undef, undef, undef, undef, undef, undef, undef, undef] H3 [(X.exit 0, fun (y5 : Fr) (H6 : Heap) =>
 asSl (y5.getD 5 undef) fun a7 i8 =>
 inS ((x1l : Nat) : Int) x0l ∧
 slK H6 x0 5 ((x1l : Nat) : Int).toNat (x0l - ((x1l : Nat) : Int).toNat) fun v9 =>
 CA en F.crossbarkit_SameInsns [v9, (.slice a7 i8 0)] H6 fun v10 H11 =>
 ∃ b12, v10 = (.bool b12) ∧
 R (.bool b12) H11)]))) →
    CA en F.crossbarkit_KeptInsns [(.slice x0 x0l 0), (.slice x1 x1l 0)] H R := by
  intro h
  refine wpFn_ok (Z := [[(5, (.slice none 0 0))]]) (fn := Go.Proofs.Tryd.f17) ?_ ?_ ?_
  · kernel_rfl
  · kernel_rfl
  · apply turnInto h
    kernel_rfl

theorem use_crossbarkit_KeptInsns_0 {t0 : Option Addr} {t0l : Nat} {t1 : Option Addr} {t1l : Nat} {t7 : Option Addr} {t7l : Nat} {t8 : Int} {t9 : Option Addr} {t9l : Nat} {t10 : Int} {t11 : Int} {t12 : Bool} {t14 : Option Addr} {t14l : Nat} {t15 : Option Addr} {t15l : Nat} {t16 : Int} {t17 : Value} {t18 : Option Addr} {t18l : Nat} {t19 : Bool} {t20 : Bool} {K0 : Fr → Heap → Prop} {t5 : Option Addr} {t5l : Nat} {t6 : Int} {t22 : Value} {t23 : Value} {t24 : Value} {t25 : Value} {t26 : Value} {t27 : Value} {t28 : Value} {t29 : Value} {t30 : Value} {H : Heap} (I : Nat → Option Addr → Nat → Int → Heap → Prop) (n : Nat) (h0 : I n t5 t5l t6 H)
    (hstep : ∀ (n : Nat) (t5 : Option Addr) (t5l : Nat) (t6 : Int) (ys : Fr) (H : Heap), I n t5 t5l t6 H →
    (
 bif (decide (t6 < 5)) then (
 CA en F.crossbarkit_markInsns [(.int .i64 t6)] H fun v1 H2 =>
 ∃ n3, ∃ n4, ∃ n5, ∃ n6, ∃ n7, v1 = (.agg #[(.int .i64 n3), (.int .i64 n4), (.int .i64 n5), (.int .i64 n6), (.int .i64 n7)]) ∧
 nwH H2 (.cells true 5 [(.int .i64 n3), (.int .i64 n4), (.int .i64 n5), (.int .i64 n6), (.int .i64 n7)]) fun i8 H9 =>
 ∃ l10, rowOf H9 5 (some ⟨i8, 0, none⟩) 1 = some l10 ∧
 apd H9 40 5 t5 t5l 1 l10 fun a11 i12 H13 =>
 ∃ k14, k14 < n ∧
 I k14 a11 i12 (IntKind.i64.wrap (t6 + 1)) H13)
 else (
 K0 [(.slice t0 t0l 0), (.slice t1 t1l 0), undef, undef, (.bool false), (.slice t5 t5l 0), (.int .i64 t6), (.slice t7 t7l 0), (.int .i64 t8), (.slice t9 t9l 0), (.int .i64 t10), (.int .i64 t11), (.bool t12), (.bool false), (.slice t14 t14l 0), (.slice t15 t15l 0), (.int .i64 t16), t17, (.slice t18 t18l 0), (.bool t19), (.bool t20), (.bool false), (.int .i64 t6), (.bool false), (ys.getD 24 undef), (ys.getD 25 undef), (ys.getD 26 undef), (ys.getD 27 undef), (ys.getD 28 undef), (ys.getD 29 undef), (ys.getD 30 undef), undef, undef, undef, undef, undef, undef] H))) :
    LA en L_crossbarkit_KeptInsns_0 [(.slice t0 t0l 0), (.slice t1 t1l 0), undef, undef, (.bool false), (.slice t5 t5l 0), (.int .i64 t6), (.slice t7 t7l 0), (.int .i64 t8), (.slice t9 t9l 0), (.int .i64 t10), (.int .i64 t11), (.bool t12), (.bool false), (.slice t14 t14l 0), (.slice t15 t15l 0), (.int .i64 t16), t17, (.slice t18 t18l 0), (.bool t19), (.bool t20), (.bool false), t22, t23, t24, t25, t26, t27, t28, t29, t30, undef, undef, undef, undef, undef, undef] H [(X.exit 0, K0)] := by
  refine LA_rule (Z := []) (fun m xs H' => asSl (xs.getD 5 undef) fun t5 t5l => AS.asInt .i64 (xs.getD 6 undef) fun t6 => I m t5 t5l t6 H') ?_ n H ?_
  · intro n H
    suffices hs : ∀ s22 : Value, ∀ s23 : Value, ∀ s26 : Value, ∀ s27 : Value, ∀ s28 : Value, ∀ s29 : Value, ∀ s30 : Value, ∀ s5 : Value, ∀ s24 : Value, ∀ s25 : Value, ∀ s6 : Value, ((asSl s5 fun t5 t5l => AS.asInt .i64 s6 fun t6 => I n t5 t5l t6 H) → wpCode en L_crossbarkit_KeptInsns_0 [] [(.slice t0 t0l 0), (.slice t1 t1l 0), undef, undef, (.bool false), s5, s6, (.slice t7 t7l 0), (.int .i64 t8), (.slice t9 t9l 0), (.int .i64 t10), (.int .i64 t11), (.bool t12), (.bool false), (.slice t14 t14l 0), (.slice t15 t15l 0), (.int .i64 t16), t17, (.slice t18 t18l 0), (.bool t19), (.bool t20), (.bool false), s22, s23, s24, s25, s26, s27, s28, s29, s30, undef, undef, undef, undef, undef, undef] H (loopQ (fun m xs H' => asSl (xs.getD 5 undef) fun t5 t5l => AS.asInt .i64 (xs.getD 6 undef) fun t6 => I m t5 t5l t6 H') n [(X.exit 0, K0)])) by
      apply turnInto hs
      kernel_rfl
    intro s22 s23 s26 s27 s28 s29 s30 s5 s24 s25 s6 hP
    replace hP := asSl_elim hP
    obtain ⟨t5, t5l, rfl, hP⟩ := hP
    replace hP := asInt_elim hP
    obtain ⟨t6, rfl, hP⟩ := hP
    apply turnInto (hstep n t5 t5l t6 [(.slice t0 t0l 0), (.slice t1 t1l 0), undef, undef, (.bool false), (.slice t5 t5l 0), (.int .i64 t6), (.slice t7 t7l 0), (.int .i64 t8), (.slice t9 t9l 0), (.int .i64 t10), (.int .i64 t11), (.bool t12), (.bool false), (.slice t14 t14l 0), (.slice t15 t15l 0), (.int .i64 t16), t17, (.slice t18 t18l 0), (.bool t19), (.bool t20), (.bool false), s22, s23, s24, s25, s26, s27, s28, s29, s30, undef, undef, undef, undef, undef, undef] H hP)
    kernel_rfl
  · apply turnInto h0
    kernel_rfl


/-! crossbarkit_markInsns -/

theorem vc_crossbarkit_markInsns (x0 : Int) (H : Heap) (R : Value → Heap → Prop) :
    (
 nwH H (.cells true 0 [(.int .i64 0), (.int .i64 0), (.int .i64 0), (.int .i64 0), (.int .i64 0)]) fun i1 H2 =>
 stc H2 i1 0 [(.int .i64 (IntKind.i64.wrap ((-9) - x0))), (.int .i64 0), (.int .i64 0), (.int .i64 0), (.int .i64 0)] fun H3 =>
 ∃ n4, ∃ n5, ∃ n6, ∃ n7, ∃ n8, H3.cellsAt i1 0 5 = some [(.int .i64 n4), (.int .i64 n5), (.int .i64 n6), (.int .i64 n7), (.int .i64 n8)] ∧
 R (.agg #[(.int .i64 n4), (.int .i64 n5), (.int .i64 n6), (.int .i64 n7), (.int .i64 n8)]) H3) →
    CA en F.crossbarkit_markInsns [(.int .i64 x0)] H R := by
  intro h
  refine wpFn_ok (Z := []) (fn := Go.Proofs.Tryd.f46) ?_ ?_ ?_
  · kernel_rfl
  · kernel_rfl
  · apply turnInto h
    kernel_rfl


/-! crossbarkit_markInts -/

theorem vc_crossbarkit_markInts (x0 : Int) (H : Heap) (R : Value → Heap → Prop) :
    (
 R (.int .i64 (IntKind.i64.wrap (7001 + (IntKind.i64.wrap (13 * x0))))) H) →
    CA en F.crossbarkit_markInts [(.int .i64 x0)] H R := by
  intro h
  refine wpFn_ok (Z := []) (fn := Go.Proofs.Tryd.f69) ?_ ?_ ?_
  · kernel_rfl
  · kernel_rfl
  · apply turnInto h
    kernel_rfl

end Go.Proofs.YtmgkngdbphkmmaaDoor
