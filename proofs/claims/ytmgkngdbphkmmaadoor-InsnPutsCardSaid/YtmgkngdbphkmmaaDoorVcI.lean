/-
  What functions of this seat's program need (printed by a program, checked by the kernel).
-/
import Derived.Test.YtmgkngdbphkmmaaDoorNames
import Derived.Test.YtmgkngdbphkmmaaDoorAs41
namespace Go.Proofs.YtmgkngdbphkmmaaDoor
open Go Go.AS Go.RowKit
set_option linter.unusedVariables false
set_option maxRecDepth 100000

/-! insn_Put -/
noncomputable def L_insn_Put_0 : Code := loopAt Go.Proofs.Tryd.f14 0

theorem vc_insn_Put (x0 : Option Addr) (x0l : Nat) (H : Heap) (R : Value → Heap → Prop) :
    (
 bif (decide (((x0l : Nat) : Int) > 256)) then (
 R (.tuple #[(.slice none 0 0), (.int .i64 19)]) H)
 else (
 LA en L_insn_Put_0 [(.slice x0 x0l 0), undef, (.slice none 0 0), (.int .i64 0), (.slice none 0 0), undef, undef, undef, undef, (.slice x0 x0l 0), (.int .i64 ((x0l : Nat) : Int)), (.bool false), (.slice x0 x0l 0), (.int .i64 ((x0l : Nat) : Int)), (.int .i64 0), undef, undef, undef, undef, undef, undef, undef, undef, undef, undef, undef, undef, undef, undef, undef, undef, undef, undef, undef, undef, undef, undef, undef, undef, undef, undef, undef, undef, undef, undef, undef, undef, undef, undef, undef, undef, undef, undef, undef, undef, undef, undef, undef, undef, undef, undef, undef, undef, undef] H [(X.exit 0, fun (y1 : Fr) (H2 : Heap) =>
 asSl (y1.getD 2 undef) fun a3 i4 =>
 AS.asInt .i64 (y1.getD 3 undef) fun n5 =>
 asSl (y1.getD 4 undef) fun a6 i7 =>
 R (.tuple #[(.slice a6 i7 0), (.int .i64 0)]) H2),
 (X.ret, fun (y8 : Fr) (H9 : Heap) =>
 asSl (y8.getD 2 undef) fun a10 i11 =>
 AS.asInt .i64 (y8.getD 3 undef) fun n12 =>
 asSl (y8.getD 4 undef) fun a13 i14 =>
 R (.tuple #[(.slice a10 i11 0), (.int .i64 n12)]) H9)])) →
    CA en F.insn_Put [(.slice x0 x0l 0)] H R := by
  intro h
  refine wpFn_ok (Z := [[(2, (.slice none 0 0)), (3, (.int .i64 0)), (4, (.slice none 0 0))]]) (fn := Go.Proofs.Tryd.f14) ?_ ?_ ?_
  · kernel_rfl
  · kernel_rfl
  · apply turnInto h
    kernel_rfl

theorem use_insn_Put_0 {t0 : Option Addr} {t0l : Nat} {t9 : Option Addr} {t9l : Nat} {t10 : Int} {t12 : Option Addr} {t12l : Nat} {t13 : Int} {K0 : Fr → Heap → Prop} {K1 : Fr → Heap → Prop} {t2 : Option Addr} {t2l : Nat} {t3 : Int} {t4 : Option Addr} {t4l : Nat} {t14 : Int} {t6 : Value} {t7 : Value} {t8 : Value} {t15 : Value} {t16 : Value} {t17 : Value} {t18 : Value} {t19 : Value} {t20 : Value} {t21 : Value} {t22 : Value} {t23 : Value} {t24 : Value} {t25 : Value} {t26 : Value} {t27 : Value} {t28 : Value} {t29 : Value} {t30 : Value} {t31 : Value} {t32 : Value} {t33 : Value} {t34 : Value} {t35 : Value} {t36 : Value} {t37 : Value} {t38 : Value} {t39 : Value} {t40 : Value} {t41 : Value} {t42 : Value} {t43 : Value} {t44 : Value} {t45 : Value} {t46 : Value} {t47 : Value} {t48 : Value} {t49 : Value} {t50 : Value} {t51 : Value} {t52 : Value} {t53 : Value} {t54 : Value} {t55 : Value} {t56 : Value} {t57 : Value} {t58 : Value} {t59 : Value} {t60 : Value} {t61 : Value} {t62 : Value} {H : Heap} (I : Nat → Option Addr → Nat → Int → Option Addr → Nat → Int → Heap → Prop) (n : Nat) (h0 : I n t2 t2l t3 t4 t4l t14 H)
    (hstep : ∀ (n : Nat) (t2 : Option Addr) (t2l : Nat) (t3 : Int) (t4 : Option Addr) (t4l : Nat) (t14 : Int) (ys : Fr) (H : Heap), I n t2 t2l t3 t4 t4l t14 H →
    (
 bif (decide (t14 < t13)) then (
 inB t14 t12l ∧
 asRow t12 fun i1 i2 =>
 ∃ n3, ∃ n4, ∃ n5, ∃ n6, ∃ n7, H.cellsAt i1 (i2 + (t14.toNat * 5)) 5 = some [(.int .i64 n3), (.int .i64 n4), (.int .i64 n5), (.int .i64 n6), (.int .i64 n7)] ∧
 nwH H (.cells true 0 [(.int .i64 0), (.int .i64 0), (.int .i64 0), (.int .i64 0), (.int .i64 0)]) fun i8 H9 =>
 stc H9 i8 0 [(.int .i64 n3), (.int .i64 n4), (.int .i64 n5), (.int .i64 n6), (.int .i64 n7)] fun H10 =>
 ∃ n11, ∃ n12, ∃ n13, ∃ n14, ∃ n15, H10.cellsAt i8 0 5 = some [(.int .i64 n11), (.int .i64 n12), (.int .i64 n13), (.int .i64 n14), (.int .i64 n15)] ∧
 CA en F.insn_Check [(.agg #[(.int .i64 n11), (.int .i64 n12), (.int .i64 n13), (.int .i64 n14), (.int .i64 n15)])] H10 fun v16 H17 =>
 ∃ n18, v16 = (.int .i64 n18) ∧
 bif (n18 != 0) then (
 K1 [(.slice t0 t0l 0), undef, (.slice none 0 0), (.int .i64 n18), (.slice t4 t4l 0), undef, (.pointer (some ⟨i8, 0, none⟩)), (.int .i64 n18), (ys.getD 8 undef), (.slice t9 t9l 0), (.int .i64 t10), (.bool false), (.slice t12 t12l 0), (.int .i64 t13), (.int .i64 t14), (.bool true), (.pointer (some ⟨i1, (i2 + (t14.toNat * 5)), none⟩)), (.agg #[(.int .i64 n3), (.int .i64 n4), (.int .i64 n5), (.int .i64 n6), (.int .i64 n7)]), (.agg #[(.int .i64 n11), (.int .i64 n12), (.int .i64 n13), (.int .i64 n14), (.int .i64 n15)]), (.int .i64 n18), (.int .i64 n18), (.bool true), (.int .i64 n18), (ys.getD 23 undef), (ys.getD 24 undef), (ys.getD 25 undef), (ys.getD 26 undef), (ys.getD 27 undef), (ys.getD 28 undef), (ys.getD 29 undef), (ys.getD 30 undef), (ys.getD 31 undef), (ys.getD 32 undef), (ys.getD 33 undef), (ys.getD 34 undef), (ys.getD 35 undef), (ys.getD 36 undef), (ys.getD 37 undef), (ys.getD 38 undef), (ys.getD 39 undef), (ys.getD 40 undef), (ys.getD 41 undef), (ys.getD 42 undef), (ys.getD 43 undef), (ys.getD 44 undef), (ys.getD 45 undef), (ys.getD 46 undef), (ys.getD 47 undef), (ys.getD 48 undef), (ys.getD 49 undef), (ys.getD 50 undef), (ys.getD 51 undef), (ys.getD 52 undef), (ys.getD 53 undef), (ys.getD 54 undef), (ys.getD 55 undef), (ys.getD 56 undef), (ys.getD 57 undef), (ys.getD 58 undef), (ys.getD 59 undef), (ys.getD 60 undef), (ys.getD 61 undef), (ys.getD 62 undef), undef] H17)
 else (
 okLen 1 16 16 ∧
 nwH H17 (.cells true 1 (reps 16 [(.int .u8 0)])) fun i19 H20 =>
 ∃ n21, (H20.bump 16).cell i8 0 = some (.int .i64 n21) ∧
 ∃ n22, (H20.bump 16).cell i8 2 = some (.int .i64 n22) ∧
 nn 4 ∧
 ∃ n23, (H20.bump 16).cell i8 1 = some (.int .i64 n23) ∧
 inB 0 16 ∧
 stc (H20.bump 16) i19 0 [(.int .u8 (IntKind.u8.wrap n21))] fun H24 =>
 inB 1 16 ∧
 stc H24 i19 1 [(.int .u8 (IntKind.u8.wrap (IntKind.i64.wrap ((BitVec.ofInt 64 (IntKind.i64.wrap (n22 * 16)) ||| (BitVec.ofInt 64 n23)).toNat : Int))))] fun H25 =>
 (
 ∃ n30, H25.cell i8 3 = some (.int .i64 n30) ∧
 CA en F.word_Put [(.slice (some ⟨i19, 0, none⟩) 16 0), (.int .i64 2), (.int .i64 2), (.int .u64 (IntKind.u64.wrap n30))] H25 fun v31 H32 =>
 ∃ b33, v31 = (.bool b33) ∧
 ∃ n34, H32.cell i8 4 = some (.int .i64 n34) ∧
 CA en F.word_Put [(.slice (some ⟨i19, 0, none⟩) 16 0), (.int .i64 4), (.int .i64 4), (.int .u64 (IntKind.u64.wrap n34))] H32 fun v35 H36 =>
 ∃ b37, v35 = (.bool b37) ∧
 ∃ n38, H36.cell i8 0 = some (.int .i64 n38) ∧
 bif (n38 != 24) then (
 inS 8 16 ∧
 (∃ w39 z40 c41, H36.get i19 = some (.cells w39 z40 c41) ∧ (z40 = 0 ∨ z40 = 1)) ∧
 ∃ l42, rowOf H36 1 (some ⟨i19, 0, none⟩) 8 = some l42 ∧
 apd H36 1 1 t4 t4l 8 l42 fun a43 i44 H45 =>
 ∃ k46, k46 < n ∧
 I k46 t2 t2l t3 a43 i44 (IntKind.i64.wrap (t14 + 1)) H45)
 else (
 ∃ n47, H36.cell i8 4 = some (.int .i64 n47) ∧
 nn 32 ∧
 CA en F.word_Put [(.slice (some ⟨i19, 0, none⟩) 16 0), (.int .i64 12), (.int .i64 4), (.int .u64 (Int.fdiv (IntKind.u64.wrap n47) 4294967296))] H36 fun v48 H49 =>
 ∃ b50, v48 = (.bool b50) ∧
 ∃ l51, rowOf H49 1 (some ⟨i19, 0, none⟩) 16 = some l51 ∧
 apd H49 1 1 t4 t4l 16 l51 fun a52 i53 H54 =>
 ∃ k55, k55 < n ∧
 I k55 t2 t2l t3 a52 i53 (IntKind.i64.wrap (t14 + 1)) H54)) ∧
 (((IntKind.i64.wrap ((BitVec.ofInt 64 (IntKind.i64.wrap (n22 * 16)) ||| (BitVec.ofInt 64 n23)).toNat : Int)) = (IntKind.i64.wrap ((BitVec.ofInt 64 (IntKind.i64.wrap (n22 * 16)) ||| (BitVec.ofInt 64 n23)).toNat : Int))) ∧ ((IntKind.i64.wrap ((BitVec.ofInt 64 (IntKind.i64.wrap (n22 * 16)) ||| (BitVec.ofInt 64 n23)).toNat : Int)) = (IntKind.i64.wrap ((BitVec.ofInt 64 (IntKind.i64.wrap (n22 * 16)) ||| (BitVec.ofInt 64 n23)).toNat : Int))) ∧ True) ∧
 ((∃ n27, (H20.bump 16).cell i8 1 = some (.int .i64 n27) ∧
 n23 = n27) ∧ (∃ n26, H24.cell i8 1 = some (.int .i64 n26) ∧
 n23 = n26) ∧ True) ∧
 ((nn 4 ∧
 (IntKind.i64.wrap (n22 * 16)) = (IntKind.i64.wrap (n22 * 16))) ∧ (nn 4 ∧
 (IntKind.i64.wrap (n22 * 16)) = (IntKind.i64.wrap (n22 * 16))) ∧ True) ∧
 ((∃ n29, (H20.bump 16).cell i8 2 = some (.int .i64 n29) ∧
 n22 = n29) ∧ (∃ n28, H24.cell i8 2 = some (.int .i64 n28) ∧
 n22 = n28) ∧ True) ∧
 True))
 else (
 K0 [(.slice t0 t0l 0), undef, (.slice t2 t2l 0), (.int .i64 t3), (.slice t4 t4l 0), undef, (ys.getD 6 undef), (ys.getD 7 undef), (ys.getD 8 undef), (.slice t9 t9l 0), (.int .i64 t10), (.bool false), (.slice t12 t12l 0), (.int .i64 t13), (.int .i64 t14), (.bool false), (ys.getD 16 undef), (ys.getD 17 undef), (ys.getD 18 undef), (ys.getD 19 undef), (ys.getD 20 undef), (ys.getD 21 undef), (ys.getD 22 undef), (ys.getD 23 undef), (ys.getD 24 undef), (ys.getD 25 undef), (ys.getD 26 undef), (ys.getD 27 undef), (ys.getD 28 undef), (ys.getD 29 undef), (ys.getD 30 undef), (ys.getD 31 undef), (ys.getD 32 undef), (ys.getD 33 undef), (ys.getD 34 undef), (ys.getD 35 undef), (ys.getD 36 undef), (ys.getD 37 undef), (ys.getD 38 undef), (ys.getD 39 undef), (ys.getD 40 undef), (ys.getD 41 undef), (ys.getD 42 undef), (ys.getD 43 undef), (ys.getD 44 undef), (ys.getD 45 undef), (ys.getD 46 undef), (ys.getD 47 undef), (ys.getD 48 undef), (ys.getD 49 undef), (ys.getD 50 undef), (ys.getD 51 undef), (ys.getD 52 undef), (ys.getD 53 undef), (ys.getD 54 undef), (ys.getD 55 undef), (ys.getD 56 undef), (ys.getD 57 undef), (ys.getD 58 undef), (ys.getD 59 undef), (ys.getD 60 undef), (ys.getD 61 undef), (ys.getD 62 undef), undef] H))) :
    LA en L_insn_Put_0 [(.slice t0 t0l 0), undef, (.slice t2 t2l 0), (.int .i64 t3), (.slice t4 t4l 0), undef, t6, t7, t8, (.slice t9 t9l 0), (.int .i64 t10), (.bool false), (.slice t12 t12l 0), (.int .i64 t13), (.int .i64 t14), t15, t16, t17, t18, t19, t20, t21, t22, t23, t24, t25, t26, t27, t28, t29, t30, t31, t32, t33, t34, t35, t36, t37, t38, t39, t40, t41, t42, t43, t44, t45, t46, t47, t48, t49, t50, t51, t52, t53, t54, t55, t56, t57, t58, t59, t60, t61, t62, undef] H [(X.exit 0, K0), (X.ret, K1)] := by
  refine LA_rule (Z := []) (fun m xs H' => asSl (xs.getD 2 undef) fun t2 t2l => AS.asInt .i64 (xs.getD 3 undef) fun t3 => asSl (xs.getD 4 undef) fun t4 t4l => AS.asInt .i64 (xs.getD 14 undef) fun t14 => I m t2 t2l t3 t4 t4l t14 H') ?_ n H ?_
  · intro n H
    suffices hs : ∀ s15 : Value, ∀ s16 : Value, ∀ s17 : Value, ∀ s6 : Value, ∀ s18 : Value, ∀ s19 : Value, ∀ s7 : Value, ∀ s20 : Value, ∀ s21 : Value, ∀ s22 : Value, ∀ s2 : Value, ∀ s3 : Value, ∀ s23 : Value, ∀ s8 : Value, ∀ s24 : Value, ∀ s25 : Value, ∀ s26 : Value, ∀ s27 : Value, ∀ s28 : Value, ∀ s29 : Value, ∀ s30 : Value, ∀ s31 : Value, ∀ s32 : Value, ∀ s33 : Value, ∀ s34 : Value, ∀ s35 : Value, ∀ s36 : Value, ∀ s37 : Value, ∀ s38 : Value, ∀ s39 : Value, ∀ s40 : Value, ∀ s41 : Value, ∀ s42 : Value, ∀ s43 : Value, ∀ s44 : Value, ∀ s45 : Value, ∀ s46 : Value, ∀ s47 : Value, ∀ s48 : Value, ∀ s49 : Value, ∀ s50 : Value, ∀ s51 : Value, ∀ s52 : Value, ∀ s53 : Value, ∀ s54 : Value, ∀ s55 : Value, ∀ s56 : Value, ∀ s57 : Value, ∀ s58 : Value, ∀ s59 : Value, ∀ s60 : Value, ∀ s61 : Value, ∀ s4 : Value, ∀ s62 : Value, ∀ s14 : Value, ((asSl s2 fun t2 t2l => AS.asInt .i64 s3 fun t3 => asSl s4 fun t4 t4l => AS.asInt .i64 s14 fun t14 => I n t2 t2l t3 t4 t4l t14 H) → wpCode en L_insn_Put_0 [] [(.slice t0 t0l 0), undef, s2, s3, s4, undef, s6, s7, s8, (.slice t9 t9l 0), (.int .i64 t10), (.bool false), (.slice t12 t12l 0), (.int .i64 t13), s14, s15, s16, s17, s18, s19, s20, s21, s22, s23, s24, s25, s26, s27, s28, s29, s30, s31, s32, s33, s34, s35, s36, s37, s38, s39, s40, s41, s42, s43, s44, s45, s46, s47, s48, s49, s50, s51, s52, s53, s54, s55, s56, s57, s58, s59, s60, s61, s62, undef] H (loopQ (fun m xs H' => asSl (xs.getD 2 undef) fun t2 t2l => AS.asInt .i64 (xs.getD 3 undef) fun t3 => asSl (xs.getD 4 undef) fun t4 t4l => AS.asInt .i64 (xs.getD 14 undef) fun t14 => I m t2 t2l t3 t4 t4l t14 H') n [(X.exit 0, K0), (X.ret, K1)])) by
      apply turnInto hs
      kernel_rfl
    intro s15 s16 s17 s6 s18 s19 s7 s20 s21 s22 s2 s3 s23 s8 s24 s25 s26 s27 s28 s29 s30 s31 s32 s33 s34 s35 s36 s37 s38 s39 s40 s41 s42 s43 s44 s45 s46 s47 s48 s49 s50 s51 s52 s53 s54 s55 s56 s57 s58 s59 s60 s61 s4 s62 s14 hP
    replace hP := asSl_elim hP
    obtain ⟨t2, t2l, rfl, hP⟩ := hP
    replace hP := asInt_elim hP
    obtain ⟨t3, rfl, hP⟩ := hP
    replace hP := asSl_elim hP
    obtain ⟨t4, t4l, rfl, hP⟩ := hP
    replace hP := asInt_elim hP
    obtain ⟨t14, rfl, hP⟩ := hP
    apply turnInto (hstep n t2 t2l t3 t4 t4l t14 [(.slice t0 t0l 0), undef, (.slice t2 t2l 0), (.int .i64 t3), (.slice t4 t4l 0), undef, s6, s7, s8, (.slice t9 t9l 0), (.int .i64 t10), (.bool false), (.slice t12 t12l 0), (.int .i64 t13), (.int .i64 t14), s15, s16, s17, s18, s19, s20, s21, s22, s23, s24, s25, s26, s27, s28, s29, s30, s31, s32, s33, s34, s35, s36, s37, s38, s39, s40, s41, s42, s43, s44, s45, s46, s47, s48, s49, s50, s51, s52, s53, s54, s55, s56, s57, s58, s59, s60, s61, s62, undef] H hP)
    kernel_rfl
  · apply turnInto h0
    kernel_rfl


/-! insn_Check -/

theorem vc_insn_Check (x0_0 : Int) (x0_1 : Int) (x0_2 : Int) (x0_3 : Int) (x0_4 : Int) (H : Heap) (R : Value → Heap → Prop) :
    (
 nwH H (.cells true 0 [(.int .i64 x0_0), (.int .i64 x0_1), (.int .i64 x0_2), (.int .i64 x0_3), (.int .i64 x0_4)]) fun i1 H2 =>
 CA en F.insn_table [] ((H2.bump 10).set (H2.next + 7) (.cells true 0 [(.bool false), (.bool false), (.bool false), (.bool false), (.int .i64 0), (.int .i64 0), (.bool false), .nilFunc])) fun v3 H4 =>
 ∃ m5, v3 = (.map m5) ∧
 ∃ n6, H4.cell i1 0 = some (.int .i64 n6) ∧
 ∃ r7, AS.mapGet H4 (.int .i64) m5 (.int .i64 n6) = some r7 ∧
 ∃ b8, ∃ b9, ∃ b10, ∃ b11, ∃ n12, ∃ n13, ∃ b14, (
 got r7 (.agg #[(.bool false), (.bool false), (.bool false), (.bool false), (.int .i64 0), (.int .i64 0), (.bool false), .nilFunc]) (.agg #[(.bool b8), (.bool b9), (.bool b10), (.bool b11), (.int .i64 n12), (.int .i64 n13), (.bool b14), .nilFunc]) ∧
 stc H4 (H2.next + 7) 0 [(.bool b8), (.bool b9), (.bool b10), (.bool b11), (.int .i64 n12), (.int .i64 n13), (.bool b14), .nilFunc] fun H16 =>
 (
 bif (!r7.isSome) then (
 R (.int .i64 7) H16)
 else (
 ∃ b21, ∃ b22, ∃ b23, ∃ b24, ∃ n25, ∃ n26, ∃ b27, (
 H16.cellsAt (H2.next + 7) 0 8 = some [(.bool b21), (.bool b22), (.bool b23), (.bool b24), (.int .i64 n25), (.int .i64 n26), (.bool b27), .nilFunc] ∧
 ∃ n29, ∃ n30, ∃ n31, ∃ n32, ∃ n33, H16.cellsAt i1 0 5 = some [(.int .i64 n29), (.int .i64 n30), (.int .i64 n31), (.int .i64 n32), (.int .i64 n33)] ∧
 CA en F.insn_row_registers [(.agg #[(.bool b21), (.bool b22), (.bool b23), (.bool b24), (.int .i64 n25), (.int .i64 n26), (.bool b27), .nilFunc]), (.agg #[(.int .i64 n29), (.int .i64 n30), (.int .i64 n31), (.int .i64 n32), (.int .i64 n33)])] H16 fun v34 H35 =>
 ∃ b36, v34 = (.bool b36) ∧
 bif (!b36) then (
 R (.int .i64 8) H35)
 else (
 ∃ b37, ∃ b38, ∃ b39, ∃ b40, H35.cellsAt (H2.next + 7) 0 4 = some [(.bool b37), (.bool b38), (.bool b39), (.bool b40)] ∧
 ∃ n41, ∃ n42, ∃ n43, ∃ n44, ∃ n45, H35.cellsAt i1 0 5 = some [(.int .i64 n41), (.int .i64 n42), (.int .i64 n43), (.int .i64 n44), (.int .i64 n45)] ∧
 CA en F.insn_names_odd [(.agg #[(.bool b37), (.bool b38), (.bool b39), (.bool b40)]), (.agg #[(.int .i64 n41), (.int .i64 n42), (.int .i64 n43), (.int .i64 n44), (.int .i64 n45)])] H35 fun v46 H47 =>
 ∃ b48, v46 = (.bool b48) ∧
 bif b48 then (
 R (.int .i64 9) H47)
 else (
 ∃ n49, H47.cell i1 0 = some (.int .i64 n49) ∧
 bif (n49 == 24) then (
 ∃ n50, H47.cell i1 2 = some (.int .i64 n50) ∧
 bif (decide (n50 > 1)) then (
 R (.int .i64 9) H47)
 else (
 ∃ n51, H47.cell i1 3 = some (.int .i64 n51) ∧
 bif (decide (n51 < (-32768))) then (
 R (.int .i64 10) H47)
 else (
 ∃ n52, H47.cell i1 3 = some (.int .i64 n52) ∧
 bif (decide (n52 > 32767)) then (
 R (.int .i64 10) H47)
 else (
 ∃ n53, ∃ n54, H47.cellsAt (H2.next + 7) 4 2 = some [(.int .i64 n53), (.int .i64 n54)] ∧
 ∃ n55, H47.cell i1 4 = some (.int .i64 n55) ∧
 CA en F.insn_bounds_out [(.agg #[(.int .i64 n53), (.int .i64 n54)]), (.int .i64 n55)] H47 fun v56 H57 =>
 ∃ b58, v56 = (.bool b58) ∧
 bif b58 then (
 R (.int .i64 10) H57)
 else (
 ∃ v59, H57.cell (H2.next + 7) 7 = some v59 ∧
 asFnNil v59 fun b60 =>
 bif (!b60) then (
 ∃ v61, H57.cell (H2.next + 7) 7 = some v61 ∧
 ∃ n62, ∃ n63, ∃ n64, ∃ n65, ∃ n66, H57.cellsAt i1 0 5 = some [(.int .i64 n62), (.int .i64 n63), (.int .i64 n64), (.int .i64 n65), (.int .i64 n66)] ∧
 AS.asFn v61 fun f67 l68 l69 =>
 (∃ fn, en.fn f67 = some fn) ∧
 CA en f67 (l68 ++ [(.agg #[(.int .i64 n62), (.int .i64 n63), (.int .i64 n64), (.int .i64 n65), (.int .i64 n66)])] ++ l69) H57 fun v70 H71 =>
 ∃ b72, v70 = (.bool b72) ∧
 bif (!b72) then (
 R (.int .i64 10) H71)
 else (
 R (.int .i64 0) H71))
 else (
 R (.int .i64 0) H57))))))
 else (
 ∃ n73, H47.cell i1 3 = some (.int .i64 n73) ∧
 bif (decide (n73 < (-32768))) then (
 R (.int .i64 10) H47)
 else (
 ∃ n74, H47.cell i1 3 = some (.int .i64 n74) ∧
 bif (decide (n74 > 32767)) then (
 R (.int .i64 10) H47)
 else (
 ∃ n75, ∃ n76, H47.cellsAt (H2.next + 7) 4 2 = some [(.int .i64 n75), (.int .i64 n76)] ∧
 ∃ n77, H47.cell i1 4 = some (.int .i64 n77) ∧
 CA en F.insn_bounds_out [(.agg #[(.int .i64 n75), (.int .i64 n76)]), (.int .i64 n77)] H47 fun v78 H79 =>
 ∃ b80, v78 = (.bool b80) ∧
 bif b80 then (
 R (.int .i64 10) H79)
 else (
 ∃ v81, H79.cell (H2.next + 7) 7 = some v81 ∧
 asFnNil v81 fun b82 =>
 bif (!b82) then (
 ∃ v83, H79.cell (H2.next + 7) 7 = some v83 ∧
 ∃ n84, ∃ n85, ∃ n86, ∃ n87, ∃ n88, H79.cellsAt i1 0 5 = some [(.int .i64 n84), (.int .i64 n85), (.int .i64 n86), (.int .i64 n87), (.int .i64 n88)] ∧
 AS.asFn v83 fun f89 l90 l91 =>
 (∃ fn, en.fn f89 = some fn) ∧
 CA en f89 (l90 ++ [(.agg #[(.int .i64 n84), (.int .i64 n85), (.int .i64 n86), (.int .i64 n87), (.int .i64 n88)])] ++ l91) H79 fun v92 H93 =>
 ∃ b94, v92 = (.bool b94) ∧
 bif (!b94) then (
 R (.int .i64 10) H93)
 else (
 R (.int .i64 0) H93))
 else (
 R (.int .i64 0) H79)))))))) ∨
 (∃ f28, H16.cellsAt (H2.next + 7) 0 8 = some [(.bool b21), (.bool b22), (.bool b23), (.bool b24), (.int .i64 n25), (.int .i64 n26), (.bool b27), (.func (.func f28) #[] #[])] ∧
 ∃ n95, ∃ n96, ∃ n97, ∃ n98, ∃ n99, H16.cellsAt i1 0 5 = some [(.int .i64 n95), (.int .i64 n96), (.int .i64 n97), (.int .i64 n98), (.int .i64 n99)] ∧
 CA en F.insn_row_registers [(.agg #[(.bool b21), (.bool b22), (.bool b23), (.bool b24), (.int .i64 n25), (.int .i64 n26), (.bool b27), (.func (.func f28) #[] #[])]), (.agg #[(.int .i64 n95), (.int .i64 n96), (.int .i64 n97), (.int .i64 n98), (.int .i64 n99)])] H16 fun v100 H101 =>
 ∃ b102, v100 = (.bool b102) ∧
 bif (!b102) then (
 R (.int .i64 8) H101)
 else (
 ∃ b103, ∃ b104, ∃ b105, ∃ b106, H101.cellsAt (H2.next + 7) 0 4 = some [(.bool b103), (.bool b104), (.bool b105), (.bool b106)] ∧
 ∃ n107, ∃ n108, ∃ n109, ∃ n110, ∃ n111, H101.cellsAt i1 0 5 = some [(.int .i64 n107), (.int .i64 n108), (.int .i64 n109), (.int .i64 n110), (.int .i64 n111)] ∧
 CA en F.insn_names_odd [(.agg #[(.bool b103), (.bool b104), (.bool b105), (.bool b106)]), (.agg #[(.int .i64 n107), (.int .i64 n108), (.int .i64 n109), (.int .i64 n110), (.int .i64 n111)])] H101 fun v112 H113 =>
 ∃ b114, v112 = (.bool b114) ∧
 bif b114 then (
 R (.int .i64 9) H113)
 else (
 ∃ n115, H113.cell i1 0 = some (.int .i64 n115) ∧
 bif (n115 == 24) then (
 ∃ n116, H113.cell i1 2 = some (.int .i64 n116) ∧
 bif (decide (n116 > 1)) then (
 R (.int .i64 9) H113)
 else (
 ∃ n117, H113.cell i1 3 = some (.int .i64 n117) ∧
 bif (decide (n117 < (-32768))) then (
 R (.int .i64 10) H113)
 else (
 ∃ n118, H113.cell i1 3 = some (.int .i64 n118) ∧
 bif (decide (n118 > 32767)) then (
 R (.int .i64 10) H113)
 else (
 ∃ n119, ∃ n120, H113.cellsAt (H2.next + 7) 4 2 = some [(.int .i64 n119), (.int .i64 n120)] ∧
 ∃ n121, H113.cell i1 4 = some (.int .i64 n121) ∧
 CA en F.insn_bounds_out [(.agg #[(.int .i64 n119), (.int .i64 n120)]), (.int .i64 n121)] H113 fun v122 H123 =>
 ∃ b124, v122 = (.bool b124) ∧
 bif b124 then (
 R (.int .i64 10) H123)
 else (
 ∃ v125, H123.cell (H2.next + 7) 7 = some v125 ∧
 asFnNil v125 fun b126 =>
 bif (!b126) then (
 ∃ v127, H123.cell (H2.next + 7) 7 = some v127 ∧
 ∃ n128, ∃ n129, ∃ n130, ∃ n131, ∃ n132, H123.cellsAt i1 0 5 = some [(.int .i64 n128), (.int .i64 n129), (.int .i64 n130), (.int .i64 n131), (.int .i64 n132)] ∧
 AS.asFn v127 fun f133 l134 l135 =>
 (∃ fn, en.fn f133 = some fn) ∧
 CA en f133 (l134 ++ [(.agg #[(.int .i64 n128), (.int .i64 n129), (.int .i64 n130), (.int .i64 n131), (.int .i64 n132)])] ++ l135) H123 fun v136 H137 =>
 ∃ b138, v136 = (.bool b138) ∧
 bif (!b138) then (
 R (.int .i64 10) H137)
 else (
 R (.int .i64 0) H137))
 else (
 R (.int .i64 0) H123))))))
 else (
 ∃ n139, H113.cell i1 3 = some (.int .i64 n139) ∧
 bif (decide (n139 < (-32768))) then (
 R (.int .i64 10) H113)
 else (
 ∃ n140, H113.cell i1 3 = some (.int .i64 n140) ∧
 bif (decide (n140 > 32767)) then (
 R (.int .i64 10) H113)
 else (
 ∃ n141, ∃ n142, H113.cellsAt (H2.next + 7) 4 2 = some [(.int .i64 n141), (.int .i64 n142)] ∧
 ∃ n143, H113.cell i1 4 = some (.int .i64 n143) ∧
 CA en F.insn_bounds_out [(.agg #[(.int .i64 n141), (.int .i64 n142)]), (.int .i64 n143)] H113 fun v144 H145 =>
 ∃ b146, v144 = (.bool b146) ∧
 bif b146 then (
 R (.int .i64 10) H145)
 else (
 ∃ v147, H145.cell (H2.next + 7) 7 = some v147 ∧
 asFnNil v147 fun b148 =>
 bif (!b148) then (
 ∃ v149, H145.cell (H2.next + 7) 7 = some v149 ∧
 ∃ n150, ∃ n151, ∃ n152, ∃ n153, ∃ n154, H145.cellsAt i1 0 5 = some [(.int .i64 n150), (.int .i64 n151), (.int .i64 n152), (.int .i64 n153), (.int .i64 n154)] ∧
 AS.asFn v149 fun f155 l156 l157 =>
 (∃ fn, en.fn f155 = some fn) ∧
 CA en f155 (l156 ++ [(.agg #[(.int .i64 n150), (.int .i64 n151), (.int .i64 n152), (.int .i64 n153), (.int .i64 n154)])] ++ l157) H145 fun v158 H159 =>
 ∃ b160, v158 = (.bool b160) ∧
 bif (!b160) then (
 R (.int .i64 10) H159)
 else (
 R (.int .i64 0) H159))
 else (
 R (.int .i64 0) H145)))))))))) ∧
 ((∃ c18, ((H2.bump 10).set (H2.next + 7) (.cells true 0 [(.bool false), (.bool false), (.bool false), (.bool false), (.int .i64 0), (.int .i64 0), (.bool false), .nilFunc])).get (H2.next + 7) = some (.cells true 0 c18) ∧ sameN.sameL 8 [(.bool false), (.bool false), (.bool false), (.bool false), (.int .i64 0), (.int .i64 0), (.bool false), .nilFunc] c18 = true) ∧ (∃ c17, H4.get (H2.next + 7) = some (.cells true 0 c17) ∧ sameN.sameL 8 [(.bool false), (.bool false), (.bool false), (.bool false), (.int .i64 0), (.int .i64 0), (.bool false), .nilFunc] c17 = true) ∧ True) ∧
 ((∃ n20, ((H2.bump 10).set (H2.next + 7) (.cells true 0 [(.bool false), (.bool false), (.bool false), (.bool false), (.int .i64 0), (.int .i64 0), (.bool false), .nilFunc])).cell i1 0 = some (.int .i64 n20) ∧
 n6 = n20) ∧ (∃ n19, H4.cell i1 0 = some (.int .i64 n19) ∧
 n6 = n19) ∧ True) ∧
 True) ∨
 (∃ f15, got r7 (.agg #[(.bool false), (.bool false), (.bool false), (.bool false), (.int .i64 0), (.int .i64 0), (.bool false), .nilFunc]) (.agg #[(.bool b8), (.bool b9), (.bool b10), (.bool b11), (.int .i64 n12), (.int .i64 n13), (.bool b14), (.func (.func f15) #[] #[])]) ∧
 stc H4 (H2.next + 7) 0 [(.bool b8), (.bool b9), (.bool b10), (.bool b11), (.int .i64 n12), (.int .i64 n13), (.bool b14), (.func (.func f15) #[] #[])] fun H161 =>
 (
 bif (!r7.isSome) then (
 R (.int .i64 7) H161)
 else (
 ∃ b166, ∃ b167, ∃ b168, ∃ b169, ∃ n170, ∃ n171, ∃ b172, (
 H161.cellsAt (H2.next + 7) 0 8 = some [(.bool b166), (.bool b167), (.bool b168), (.bool b169), (.int .i64 n170), (.int .i64 n171), (.bool b172), .nilFunc] ∧
 ∃ n174, ∃ n175, ∃ n176, ∃ n177, ∃ n178, H161.cellsAt i1 0 5 = some [(.int .i64 n174), (.int .i64 n175), (.int .i64 n176), (.int .i64 n177), (.int .i64 n178)] ∧
 CA en F.insn_row_registers [(.agg #[(.bool b166), (.bool b167), (.bool b168), (.bool b169), (.int .i64 n170), (.int .i64 n171), (.bool b172), .nilFunc]), (.agg #[(.int .i64 n174), (.int .i64 n175), (.int .i64 n176), (.int .i64 n177), (.int .i64 n178)])] H161 fun v179 H180 =>
 ∃ b181, v179 = (.bool b181) ∧
 bif (!b181) then (
 R (.int .i64 8) H180)
 else (
 ∃ b182, ∃ b183, ∃ b184, ∃ b185, H180.cellsAt (H2.next + 7) 0 4 = some [(.bool b182), (.bool b183), (.bool b184), (.bool b185)] ∧
 ∃ n186, ∃ n187, ∃ n188, ∃ n189, ∃ n190, H180.cellsAt i1 0 5 = some [(.int .i64 n186), (.int .i64 n187), (.int .i64 n188), (.int .i64 n189), (.int .i64 n190)] ∧
 CA en F.insn_names_odd [(.agg #[(.bool b182), (.bool b183), (.bool b184), (.bool b185)]), (.agg #[(.int .i64 n186), (.int .i64 n187), (.int .i64 n188), (.int .i64 n189), (.int .i64 n190)])] H180 fun v191 H192 =>
 ∃ b193, v191 = (.bool b193) ∧
 bif b193 then (
 R (.int .i64 9) H192)
 else (
 ∃ n194, H192.cell i1 0 = some (.int .i64 n194) ∧
 bif (n194 == 24) then (
 ∃ n195, H192.cell i1 2 = some (.int .i64 n195) ∧
 bif (decide (n195 > 1)) then (
 R (.int .i64 9) H192)
 else (
 ∃ n196, H192.cell i1 3 = some (.int .i64 n196) ∧
 bif (decide (n196 < (-32768))) then (
 R (.int .i64 10) H192)
 else (
 ∃ n197, H192.cell i1 3 = some (.int .i64 n197) ∧
 bif (decide (n197 > 32767)) then (
 R (.int .i64 10) H192)
 else (
 ∃ n198, ∃ n199, H192.cellsAt (H2.next + 7) 4 2 = some [(.int .i64 n198), (.int .i64 n199)] ∧
 ∃ n200, H192.cell i1 4 = some (.int .i64 n200) ∧
 CA en F.insn_bounds_out [(.agg #[(.int .i64 n198), (.int .i64 n199)]), (.int .i64 n200)] H192 fun v201 H202 =>
 ∃ b203, v201 = (.bool b203) ∧
 bif b203 then (
 R (.int .i64 10) H202)
 else (
 ∃ v204, H202.cell (H2.next + 7) 7 = some v204 ∧
 asFnNil v204 fun b205 =>
 bif (!b205) then (
 ∃ v206, H202.cell (H2.next + 7) 7 = some v206 ∧
 ∃ n207, ∃ n208, ∃ n209, ∃ n210, ∃ n211, H202.cellsAt i1 0 5 = some [(.int .i64 n207), (.int .i64 n208), (.int .i64 n209), (.int .i64 n210), (.int .i64 n211)] ∧
 AS.asFn v206 fun f212 l213 l214 =>
 (∃ fn, en.fn f212 = some fn) ∧
 CA en f212 (l213 ++ [(.agg #[(.int .i64 n207), (.int .i64 n208), (.int .i64 n209), (.int .i64 n210), (.int .i64 n211)])] ++ l214) H202 fun v215 H216 =>
 ∃ b217, v215 = (.bool b217) ∧
 bif (!b217) then (
 R (.int .i64 10) H216)
 else (
 R (.int .i64 0) H216))
 else (
 R (.int .i64 0) H202))))))
 else (
 ∃ n218, H192.cell i1 3 = some (.int .i64 n218) ∧
 bif (decide (n218 < (-32768))) then (
 R (.int .i64 10) H192)
 else (
 ∃ n219, H192.cell i1 3 = some (.int .i64 n219) ∧
 bif (decide (n219 > 32767)) then (
 R (.int .i64 10) H192)
 else (
 ∃ n220, ∃ n221, H192.cellsAt (H2.next + 7) 4 2 = some [(.int .i64 n220), (.int .i64 n221)] ∧
 ∃ n222, H192.cell i1 4 = some (.int .i64 n222) ∧
 CA en F.insn_bounds_out [(.agg #[(.int .i64 n220), (.int .i64 n221)]), (.int .i64 n222)] H192 fun v223 H224 =>
 ∃ b225, v223 = (.bool b225) ∧
 bif b225 then (
 R (.int .i64 10) H224)
 else (
 ∃ v226, H224.cell (H2.next + 7) 7 = some v226 ∧
 asFnNil v226 fun b227 =>
 bif (!b227) then (
 ∃ v228, H224.cell (H2.next + 7) 7 = some v228 ∧
 ∃ n229, ∃ n230, ∃ n231, ∃ n232, ∃ n233, H224.cellsAt i1 0 5 = some [(.int .i64 n229), (.int .i64 n230), (.int .i64 n231), (.int .i64 n232), (.int .i64 n233)] ∧
 AS.asFn v228 fun f234 l235 l236 =>
 (∃ fn, en.fn f234 = some fn) ∧
 CA en f234 (l235 ++ [(.agg #[(.int .i64 n229), (.int .i64 n230), (.int .i64 n231), (.int .i64 n232), (.int .i64 n233)])] ++ l236) H224 fun v237 H238 =>
 ∃ b239, v237 = (.bool b239) ∧
 bif (!b239) then (
 R (.int .i64 10) H238)
 else (
 R (.int .i64 0) H238))
 else (
 R (.int .i64 0) H224)))))))) ∨
 (∃ f173, H161.cellsAt (H2.next + 7) 0 8 = some [(.bool b166), (.bool b167), (.bool b168), (.bool b169), (.int .i64 n170), (.int .i64 n171), (.bool b172), (.func (.func f173) #[] #[])] ∧
 ∃ n240, ∃ n241, ∃ n242, ∃ n243, ∃ n244, H161.cellsAt i1 0 5 = some [(.int .i64 n240), (.int .i64 n241), (.int .i64 n242), (.int .i64 n243), (.int .i64 n244)] ∧
 CA en F.insn_row_registers [(.agg #[(.bool b166), (.bool b167), (.bool b168), (.bool b169), (.int .i64 n170), (.int .i64 n171), (.bool b172), (.func (.func f173) #[] #[])]), (.agg #[(.int .i64 n240), (.int .i64 n241), (.int .i64 n242), (.int .i64 n243), (.int .i64 n244)])] H161 fun v245 H246 =>
 ∃ b247, v245 = (.bool b247) ∧
 bif (!b247) then (
 R (.int .i64 8) H246)
 else (
 ∃ b248, ∃ b249, ∃ b250, ∃ b251, H246.cellsAt (H2.next + 7) 0 4 = some [(.bool b248), (.bool b249), (.bool b250), (.bool b251)] ∧
 ∃ n252, ∃ n253, ∃ n254, ∃ n255, ∃ n256, H246.cellsAt i1 0 5 = some [(.int .i64 n252), (.int .i64 n253), (.int .i64 n254), (.int .i64 n255), (.int .i64 n256)] ∧
 CA en F.insn_names_odd [(.agg #[(.bool b248), (.bool b249), (.bool b250), (.bool b251)]), (.agg #[(.int .i64 n252), (.int .i64 n253), (.int .i64 n254), (.int .i64 n255), (.int .i64 n256)])] H246 fun v257 H258 =>
 ∃ b259, v257 = (.bool b259) ∧
 bif b259 then (
 R (.int .i64 9) H258)
 else (
 ∃ n260, H258.cell i1 0 = some (.int .i64 n260) ∧
 bif (n260 == 24) then (
 ∃ n261, H258.cell i1 2 = some (.int .i64 n261) ∧
 bif (decide (n261 > 1)) then (
 R (.int .i64 9) H258)
 else (
 ∃ n262, H258.cell i1 3 = some (.int .i64 n262) ∧
 bif (decide (n262 < (-32768))) then (
 R (.int .i64 10) H258)
 else (
 ∃ n263, H258.cell i1 3 = some (.int .i64 n263) ∧
 bif (decide (n263 > 32767)) then (
 R (.int .i64 10) H258)
 else (
 ∃ n264, ∃ n265, H258.cellsAt (H2.next + 7) 4 2 = some [(.int .i64 n264), (.int .i64 n265)] ∧
 ∃ n266, H258.cell i1 4 = some (.int .i64 n266) ∧
 CA en F.insn_bounds_out [(.agg #[(.int .i64 n264), (.int .i64 n265)]), (.int .i64 n266)] H258 fun v267 H268 =>
 ∃ b269, v267 = (.bool b269) ∧
 bif b269 then (
 R (.int .i64 10) H268)
 else (
 ∃ v270, H268.cell (H2.next + 7) 7 = some v270 ∧
 asFnNil v270 fun b271 =>
 bif (!b271) then (
 ∃ v272, H268.cell (H2.next + 7) 7 = some v272 ∧
 ∃ n273, ∃ n274, ∃ n275, ∃ n276, ∃ n277, H268.cellsAt i1 0 5 = some [(.int .i64 n273), (.int .i64 n274), (.int .i64 n275), (.int .i64 n276), (.int .i64 n277)] ∧
 AS.asFn v272 fun f278 l279 l280 =>
 (∃ fn, en.fn f278 = some fn) ∧
 CA en f278 (l279 ++ [(.agg #[(.int .i64 n273), (.int .i64 n274), (.int .i64 n275), (.int .i64 n276), (.int .i64 n277)])] ++ l280) H268 fun v281 H282 =>
 ∃ b283, v281 = (.bool b283) ∧
 bif (!b283) then (
 R (.int .i64 10) H282)
 else (
 R (.int .i64 0) H282))
 else (
 R (.int .i64 0) H268))))))
 else (
 ∃ n284, H258.cell i1 3 = some (.int .i64 n284) ∧
 bif (decide (n284 < (-32768))) then (
 R (.int .i64 10) H258)
 else (
 ∃ n285, H258.cell i1 3 = some (.int .i64 n285) ∧
 bif (decide (n285 > 32767)) then (
 R (.int .i64 10) H258)
 else (
 ∃ n286, ∃ n287, H258.cellsAt (H2.next + 7) 4 2 = some [(.int .i64 n286), (.int .i64 n287)] ∧
 ∃ n288, H258.cell i1 4 = some (.int .i64 n288) ∧
 CA en F.insn_bounds_out [(.agg #[(.int .i64 n286), (.int .i64 n287)]), (.int .i64 n288)] H258 fun v289 H290 =>
 ∃ b291, v289 = (.bool b291) ∧
 bif b291 then (
 R (.int .i64 10) H290)
 else (
 ∃ v292, H290.cell (H2.next + 7) 7 = some v292 ∧
 asFnNil v292 fun b293 =>
 bif (!b293) then (
 ∃ v294, H290.cell (H2.next + 7) 7 = some v294 ∧
 ∃ n295, ∃ n296, ∃ n297, ∃ n298, ∃ n299, H290.cellsAt i1 0 5 = some [(.int .i64 n295), (.int .i64 n296), (.int .i64 n297), (.int .i64 n298), (.int .i64 n299)] ∧
 AS.asFn v294 fun f300 l301 l302 =>
 (∃ fn, en.fn f300 = some fn) ∧
 CA en f300 (l301 ++ [(.agg #[(.int .i64 n295), (.int .i64 n296), (.int .i64 n297), (.int .i64 n298), (.int .i64 n299)])] ++ l302) H290 fun v303 H304 =>
 ∃ b305, v303 = (.bool b305) ∧
 bif (!b305) then (
 R (.int .i64 10) H304)
 else (
 R (.int .i64 0) H304))
 else (
 R (.int .i64 0) H290)))))))))) ∧
 ((∃ c163, ((H2.bump 10).set (H2.next + 7) (.cells true 0 [(.bool false), (.bool false), (.bool false), (.bool false), (.int .i64 0), (.int .i64 0), (.bool false), .nilFunc])).get (H2.next + 7) = some (.cells true 0 c163) ∧ sameN.sameL 8 [(.bool false), (.bool false), (.bool false), (.bool false), (.int .i64 0), (.int .i64 0), (.bool false), .nilFunc] c163 = true) ∧ (∃ c162, H4.get (H2.next + 7) = some (.cells true 0 c162) ∧ sameN.sameL 8 [(.bool false), (.bool false), (.bool false), (.bool false), (.int .i64 0), (.int .i64 0), (.bool false), .nilFunc] c162 = true) ∧ True) ∧
 ((∃ n165, ((H2.bump 10).set (H2.next + 7) (.cells true 0 [(.bool false), (.bool false), (.bool false), (.bool false), (.int .i64 0), (.int .i64 0), (.bool false), .nilFunc])).cell i1 0 = some (.int .i64 n165) ∧
 n6 = n165) ∧ (∃ n164, H4.cell i1 0 = some (.int .i64 n164) ∧
 n6 = n164) ∧ True) ∧
 True)) →
    CA en F.insn_Check [(.agg #[(.int .i64 x0_0), (.int .i64 x0_1), (.int .i64 x0_2), (.int .i64 x0_3), (.int .i64 x0_4)])] H R := by
  intro h
  refine wpFn_ok (Z := []) (fn := Go.Proofs.Tryd.f27) ?_ ?_ ?_
  · kernel_rfl
  · kernel_rfl
  · apply turnInto h
    kernel_rfl


/-! insn_one -/

theorem vc_insn_one (x0 : Option Addr) (x0l : Nat) (H : Heap) (R : Value → Heap → Prop) :
    (
 nwH H (.cells true 0 [(.int .i64 0), (.int .i64 0), (.int .i64 0), (.int .i64 0), (.int .i64 0)]) fun i1 H2 =>
 bif (decide (((x0l : Nat) : Int) < 8)) then (
 stc H2 i1 0 [(.int .i64 0), (.int .i64 0), (.int .i64 0), (.int .i64 0), (.int .i64 0)] fun H3 =>
 ∃ n4, ∃ n5, ∃ n6, ∃ n7, ∃ n8, H3.cellsAt i1 0 5 = some [(.int .i64 n4), (.int .i64 n5), (.int .i64 n6), (.int .i64 n7), (.int .i64 n8)] ∧
 R (.tuple #[(.agg #[(.int .i64 n4), (.int .i64 n5), (.int .i64 n6), (.int .i64 n7), (.int .i64 n8)]), (.int .i64 0), (.int .i64 20)]) H3)
 else (
 inB 0 x0l ∧
 asRow x0 fun i9 i10 =>
 ∃ n11, H2.cell i9 i10 = some (.int .u8 n11) ∧
 bif (n11 == 24) then (
 bif (decide (((x0l : Nat) : Int) < 16)) then (
 stc H2 i1 0 [(.int .i64 0), (.int .i64 0), (.int .i64 0), (.int .i64 0), (.int .i64 0)] fun H12 =>
 ∃ n13, ∃ n14, ∃ n15, ∃ n16, ∃ n17, H12.cellsAt i1 0 5 = some [(.int .i64 n13), (.int .i64 n14), (.int .i64 n15), (.int .i64 n16), (.int .i64 n17)] ∧
 R (.tuple #[(.agg #[(.int .i64 n13), (.int .i64 n14), (.int .i64 n15), (.int .i64 n16), (.int .i64 n17)]), (.int .i64 0), (.int .i64 20)]) H12)
 else (
 inB 0 x0l ∧
 asRow x0 fun i18 i19 =>
 ∃ n20, ((H2.bump 22).set (H2.next + 19) (.cells true 0 [(.int .i64 0), (.int .i64 0), (.int .i64 0), (.int .i64 0), (.int .i64 0)])).cell i18 i19 = some (.int .u8 n20) ∧
 inB 1 x0l ∧
 asRow x0 fun i21 i22 =>
 ∃ n23, ((H2.bump 22).set (H2.next + 19) (.cells true 0 [(.int .i64 0), (.int .i64 0), (.int .i64 0), (.int .i64 0), (.int .i64 0)])).cell i21 (i22 + 1) = some (.int .u8 n23) ∧
 inB 1 x0l ∧
 asRow x0 fun i24 i25 =>
 ∃ n26, ((H2.bump 22).set (H2.next + 19) (.cells true 0 [(.int .i64 0), (.int .i64 0), (.int .i64 0), (.int .i64 0), (.int .i64 0)])).cell i24 (i25 + 1) = some (.int .u8 n26) ∧
 nn 4 ∧
 CA en F.insn_number [(.slice x0 x0l 0), (.int .i64 2), (.int .i64 2)] ((H2.bump 22).set (H2.next + 19) (.cells true 0 [(.int .i64 0), (.int .i64 0), (.int .i64 0), (.int .i64 0), (.int .i64 0)])) fun v27 H28 =>
 ∃ n29, v27 = (.int .i64 n29) ∧
 CA en F.insn_number [(.slice x0 x0l 0), (.int .i64 4), (.int .i64 4)] H28 fun v30 H31 =>
 ∃ n32, v30 = (.int .i64 n32) ∧
 stc H31 (H2.next + 19) 0 [(.int .i64 (IntKind.i64.wrap n20)), (.int .i64 (IntKind.i64.wrap (IntKind.u8.wrap ((BitVec.ofInt 8 n23 &&& (BitVec.ofInt 8 15)).toNat : Int)))), (.int .i64 (IntKind.i64.wrap (Int.fdiv n26 16))), (.int .i64 n29), (.int .i64 n32)] fun H33 =>
 (
 ∃ n46, H33.cell (H2.next + 19) 0 = some (.int .i64 n46) ∧
 bif (n46 == 24) then (
 CA en F.insn_number [(.slice x0 x0l 0), (.int .i64 8), (.int .i64 4)] H33 fun v47 H48 =>
 ∃ n49, v47 = (.int .i64 n49) ∧
 bif (n49 != 0) then (
 stc H48 i1 0 [(.int .i64 0), (.int .i64 0), (.int .i64 0), (.int .i64 0), (.int .i64 0)] fun H50 =>
 ∃ n51, ∃ n52, ∃ n53, ∃ n54, ∃ n55, H50.cellsAt i1 0 5 = some [(.int .i64 n51), (.int .i64 n52), (.int .i64 n53), (.int .i64 n54), (.int .i64 n55)] ∧
 R (.tuple #[(.agg #[(.int .i64 n51), (.int .i64 n52), (.int .i64 n53), (.int .i64 n54), (.int .i64 n55)]), (.int .i64 0), (.int .i64 9)]) H50)
 else (
 CA en F.word_Get [(.slice x0 x0l 0), (.int .i64 4), (.int .i64 4)] H48 fun v56 H57 =>
 ∃ n58, ∃ b59, v56 = (.tuple #[(.int .u64 n58), (.bool b59)]) ∧
 CA en F.insn_number [(.slice x0 x0l 0), (.int .i64 12), (.int .i64 4)] H57 fun v60 H61 =>
 ∃ n62, v60 = (.int .i64 n62) ∧
 nn 32 ∧
 stc H61 (H2.next + 19) 4 [(.int .i64 (IntKind.i64.wrap ((BitVec.ofInt 64 (IntKind.i64.wrap (n62 * 4294967296)) ||| (BitVec.ofInt 64 (IntKind.i64.wrap n58))).toNat : Int)))] fun H63 =>
 ∃ n64, ∃ n65, ∃ n66, ∃ n67, ∃ n68, (H63.bump 7).cellsAt (H2.next + 19) 0 5 = some [(.int .i64 n64), (.int .i64 n65), (.int .i64 n66), (.int .i64 n67), (.int .i64 n68)] ∧
 ∃ n69, ∃ n70, ∃ n71, ∃ n72, ∃ n73, (H63.bump 7).cellsAt (H2.next + 19) 0 5 = some [(.int .i64 n69), (.int .i64 n70), (.int .i64 n71), (.int .i64 n72), (.int .i64 n73)] ∧
 CA en F.insn_Check [(.agg #[(.int .i64 n69), (.int .i64 n70), (.int .i64 n71), (.int .i64 n72), (.int .i64 n73)])] (H63.bump 7) fun v74 H75 =>
 ∃ n76, v74 = (.int .i64 n76) ∧
 stc H75 i1 0 [(.int .i64 n64), (.int .i64 n65), (.int .i64 n66), (.int .i64 n67), (.int .i64 n68)] fun H77 =>
 (
 ∃ n88, ∃ n89, ∃ n90, ∃ n91, ∃ n92, H77.cellsAt i1 0 5 = some [(.int .i64 n88), (.int .i64 n89), (.int .i64 n90), (.int .i64 n91), (.int .i64 n92)] ∧
 R (.tuple #[(.agg #[(.int .i64 n88), (.int .i64 n89), (.int .i64 n90), (.int .i64 n91), (.int .i64 n92)]), (.int .i64 16), (.int .i64 n76)]) H77) ∧
 ((∃ n83, ∃ n84, ∃ n85, ∃ n86, ∃ n87, (H63.bump 7).cellsAt (H2.next + 19) 0 5 = some [(.int .i64 n83), (.int .i64 n84), (.int .i64 n85), (.int .i64 n86), (.int .i64 n87)] ∧
 sameN 8 (.agg #[(.int .i64 n64), (.int .i64 n65), (.int .i64 n66), (.int .i64 n67), (.int .i64 n68)]) (.agg #[(.int .i64 n83), (.int .i64 n84), (.int .i64 n85), (.int .i64 n86), (.int .i64 n87)]) = true) ∧ (∃ n78, ∃ n79, ∃ n80, ∃ n81, ∃ n82, H75.cellsAt (H2.next + 19) 0 5 = some [(.int .i64 n78), (.int .i64 n79), (.int .i64 n80), (.int .i64 n81), (.int .i64 n82)] ∧
 sameN 8 (.agg #[(.int .i64 n64), (.int .i64 n65), (.int .i64 n66), (.int .i64 n67), (.int .i64 n68)]) (.agg #[(.int .i64 n78), (.int .i64 n79), (.int .i64 n80), (.int .i64 n81), (.int .i64 n82)]) = true) ∧ True) ∧
 True))
 else (
 ∃ n93, ∃ n94, ∃ n95, ∃ n96, ∃ n97, (H33.bump 7).cellsAt (H2.next + 19) 0 5 = some [(.int .i64 n93), (.int .i64 n94), (.int .i64 n95), (.int .i64 n96), (.int .i64 n97)] ∧
 ∃ n98, ∃ n99, ∃ n100, ∃ n101, ∃ n102, (H33.bump 7).cellsAt (H2.next + 19) 0 5 = some [(.int .i64 n98), (.int .i64 n99), (.int .i64 n100), (.int .i64 n101), (.int .i64 n102)] ∧
 CA en F.insn_Check [(.agg #[(.int .i64 n98), (.int .i64 n99), (.int .i64 n100), (.int .i64 n101), (.int .i64 n102)])] (H33.bump 7) fun v103 H104 =>
 ∃ n105, v103 = (.int .i64 n105) ∧
 stc H104 i1 0 [(.int .i64 n93), (.int .i64 n94), (.int .i64 n95), (.int .i64 n96), (.int .i64 n97)] fun H106 =>
 (
 ∃ n117, ∃ n118, ∃ n119, ∃ n120, ∃ n121, H106.cellsAt i1 0 5 = some [(.int .i64 n117), (.int .i64 n118), (.int .i64 n119), (.int .i64 n120), (.int .i64 n121)] ∧
 R (.tuple #[(.agg #[(.int .i64 n117), (.int .i64 n118), (.int .i64 n119), (.int .i64 n120), (.int .i64 n121)]), (.int .i64 8), (.int .i64 n105)]) H106) ∧
 ((∃ n112, ∃ n113, ∃ n114, ∃ n115, ∃ n116, (H33.bump 7).cellsAt (H2.next + 19) 0 5 = some [(.int .i64 n112), (.int .i64 n113), (.int .i64 n114), (.int .i64 n115), (.int .i64 n116)] ∧
 sameN 8 (.agg #[(.int .i64 n93), (.int .i64 n94), (.int .i64 n95), (.int .i64 n96), (.int .i64 n97)]) (.agg #[(.int .i64 n112), (.int .i64 n113), (.int .i64 n114), (.int .i64 n115), (.int .i64 n116)]) = true) ∧ (∃ n107, ∃ n108, ∃ n109, ∃ n110, ∃ n111, H104.cellsAt (H2.next + 19) 0 5 = some [(.int .i64 n107), (.int .i64 n108), (.int .i64 n109), (.int .i64 n110), (.int .i64 n111)] ∧
 sameN 8 (.agg #[(.int .i64 n93), (.int .i64 n94), (.int .i64 n95), (.int .i64 n96), (.int .i64 n97)]) (.agg #[(.int .i64 n107), (.int .i64 n108), (.int .i64 n109), (.int .i64 n110), (.int .i64 n111)]) = true) ∧ True) ∧
 True)) ∧
 ((∃ c36, ((H2.bump 22).set (H2.next + 19) (.cells true 0 [(.int .i64 0), (.int .i64 0), (.int .i64 0), (.int .i64 0), (.int .i64 0)])).get (H2.next + 19) = some (.cells true 0 c36) ∧ sameN.sameL 8 [(.int .i64 0), (.int .i64 0), (.int .i64 0), (.int .i64 0), (.int .i64 0)] c36 = true) ∧ (∃ c35, H28.get (H2.next + 19) = some (.cells true 0 c35) ∧ sameN.sameL 8 [(.int .i64 0), (.int .i64 0), (.int .i64 0), (.int .i64 0), (.int .i64 0)] c35 = true) ∧ (∃ c34, H31.get (H2.next + 19) = some (.cells true 0 c34) ∧ sameN.sameL 8 [(.int .i64 0), (.int .i64 0), (.int .i64 0), (.int .i64 0), (.int .i64 0)] c34 = true) ∧ True) ∧
 ((nn 4 ∧
 (Int.fdiv n26 16) = (Int.fdiv n26 16)) ∧ (nn 4 ∧
 (Int.fdiv n26 16) = (Int.fdiv n26 16)) ∧ (nn 4 ∧
 (Int.fdiv n26 16) = (Int.fdiv n26 16)) ∧ True) ∧
 ((∃ n39, ((H2.bump 22).set (H2.next + 19) (.cells true 0 [(.int .i64 0), (.int .i64 0), (.int .i64 0), (.int .i64 0), (.int .i64 0)])).cell i24 (i25 + 1) = some (.int .u8 n39) ∧
 n26 = n39) ∧ (∃ n38, H28.cell i24 (i25 + 1) = some (.int .u8 n38) ∧
 n26 = n38) ∧ (∃ n37, H31.cell i24 (i25 + 1) = some (.int .u8 n37) ∧
 n26 = n37) ∧ True) ∧
 (((IntKind.u8.wrap ((BitVec.ofInt 8 n23 &&& (BitVec.ofInt 8 15)).toNat : Int)) = (IntKind.u8.wrap ((BitVec.ofInt 8 n23 &&& (BitVec.ofInt 8 15)).toNat : Int))) ∧ ((IntKind.u8.wrap ((BitVec.ofInt 8 n23 &&& (BitVec.ofInt 8 15)).toNat : Int)) = (IntKind.u8.wrap ((BitVec.ofInt 8 n23 &&& (BitVec.ofInt 8 15)).toNat : Int))) ∧ ((IntKind.u8.wrap ((BitVec.ofInt 8 n23 &&& (BitVec.ofInt 8 15)).toNat : Int)) = (IntKind.u8.wrap ((BitVec.ofInt 8 n23 &&& (BitVec.ofInt 8 15)).toNat : Int))) ∧ True) ∧
 ((∃ n42, ((H2.bump 22).set (H2.next + 19) (.cells true 0 [(.int .i64 0), (.int .i64 0), (.int .i64 0), (.int .i64 0), (.int .i64 0)])).cell i21 (i22 + 1) = some (.int .u8 n42) ∧
 n23 = n42) ∧ (∃ n41, H28.cell i21 (i22 + 1) = some (.int .u8 n41) ∧
 n23 = n41) ∧ (∃ n40, H31.cell i21 (i22 + 1) = some (.int .u8 n40) ∧
 n23 = n40) ∧ True) ∧
 ((∃ n45, ((H2.bump 22).set (H2.next + 19) (.cells true 0 [(.int .i64 0), (.int .i64 0), (.int .i64 0), (.int .i64 0), (.int .i64 0)])).cell i18 i19 = some (.int .u8 n45) ∧
 n20 = n45) ∧ (∃ n44, H28.cell i18 i19 = some (.int .u8 n44) ∧
 n20 = n44) ∧ (∃ n43, H31.cell i18 i19 = some (.int .u8 n43) ∧
 n20 = n43) ∧ True) ∧
 True))
 else (
 inB 0 x0l ∧
 asRow x0 fun i122 i123 =>
 ∃ n124, ((H2.bump 22).set (H2.next + 19) (.cells true 0 [(.int .i64 0), (.int .i64 0), (.int .i64 0), (.int .i64 0), (.int .i64 0)])).cell i122 i123 = some (.int .u8 n124) ∧
 inB 1 x0l ∧
 asRow x0 fun i125 i126 =>
 ∃ n127, ((H2.bump 22).set (H2.next + 19) (.cells true 0 [(.int .i64 0), (.int .i64 0), (.int .i64 0), (.int .i64 0), (.int .i64 0)])).cell i125 (i126 + 1) = some (.int .u8 n127) ∧
 inB 1 x0l ∧
 asRow x0 fun i128 i129 =>
 ∃ n130, ((H2.bump 22).set (H2.next + 19) (.cells true 0 [(.int .i64 0), (.int .i64 0), (.int .i64 0), (.int .i64 0), (.int .i64 0)])).cell i128 (i129 + 1) = some (.int .u8 n130) ∧
 nn 4 ∧
 CA en F.insn_number [(.slice x0 x0l 0), (.int .i64 2), (.int .i64 2)] ((H2.bump 22).set (H2.next + 19) (.cells true 0 [(.int .i64 0), (.int .i64 0), (.int .i64 0), (.int .i64 0), (.int .i64 0)])) fun v131 H132 =>
 ∃ n133, v131 = (.int .i64 n133) ∧
 CA en F.insn_number [(.slice x0 x0l 0), (.int .i64 4), (.int .i64 4)] H132 fun v134 H135 =>
 ∃ n136, v134 = (.int .i64 n136) ∧
 stc H135 (H2.next + 19) 0 [(.int .i64 (IntKind.i64.wrap n124)), (.int .i64 (IntKind.i64.wrap (IntKind.u8.wrap ((BitVec.ofInt 8 n127 &&& (BitVec.ofInt 8 15)).toNat : Int)))), (.int .i64 (IntKind.i64.wrap (Int.fdiv n130 16))), (.int .i64 n133), (.int .i64 n136)] fun H137 =>
 (
 ∃ n150, H137.cell (H2.next + 19) 0 = some (.int .i64 n150) ∧
 bif (n150 == 24) then (
 CA en F.insn_number [(.slice x0 x0l 0), (.int .i64 8), (.int .i64 4)] H137 fun v151 H152 =>
 ∃ n153, v151 = (.int .i64 n153) ∧
 bif (n153 != 0) then (
 stc H152 i1 0 [(.int .i64 0), (.int .i64 0), (.int .i64 0), (.int .i64 0), (.int .i64 0)] fun H154 =>
 ∃ n155, ∃ n156, ∃ n157, ∃ n158, ∃ n159, H154.cellsAt i1 0 5 = some [(.int .i64 n155), (.int .i64 n156), (.int .i64 n157), (.int .i64 n158), (.int .i64 n159)] ∧
 R (.tuple #[(.agg #[(.int .i64 n155), (.int .i64 n156), (.int .i64 n157), (.int .i64 n158), (.int .i64 n159)]), (.int .i64 0), (.int .i64 9)]) H154)
 else (
 CA en F.word_Get [(.slice x0 x0l 0), (.int .i64 4), (.int .i64 4)] H152 fun v160 H161 =>
 ∃ n162, ∃ b163, v160 = (.tuple #[(.int .u64 n162), (.bool b163)]) ∧
 CA en F.insn_number [(.slice x0 x0l 0), (.int .i64 12), (.int .i64 4)] H161 fun v164 H165 =>
 ∃ n166, v164 = (.int .i64 n166) ∧
 nn 32 ∧
 stc H165 (H2.next + 19) 4 [(.int .i64 (IntKind.i64.wrap ((BitVec.ofInt 64 (IntKind.i64.wrap (n166 * 4294967296)) ||| (BitVec.ofInt 64 (IntKind.i64.wrap n162))).toNat : Int)))] fun H167 =>
 ∃ n168, ∃ n169, ∃ n170, ∃ n171, ∃ n172, (H167.bump 7).cellsAt (H2.next + 19) 0 5 = some [(.int .i64 n168), (.int .i64 n169), (.int .i64 n170), (.int .i64 n171), (.int .i64 n172)] ∧
 ∃ n173, ∃ n174, ∃ n175, ∃ n176, ∃ n177, (H167.bump 7).cellsAt (H2.next + 19) 0 5 = some [(.int .i64 n173), (.int .i64 n174), (.int .i64 n175), (.int .i64 n176), (.int .i64 n177)] ∧
 CA en F.insn_Check [(.agg #[(.int .i64 n173), (.int .i64 n174), (.int .i64 n175), (.int .i64 n176), (.int .i64 n177)])] (H167.bump 7) fun v178 H179 =>
 ∃ n180, v178 = (.int .i64 n180) ∧
 stc H179 i1 0 [(.int .i64 n168), (.int .i64 n169), (.int .i64 n170), (.int .i64 n171), (.int .i64 n172)] fun H181 =>
 (
 ∃ n192, ∃ n193, ∃ n194, ∃ n195, ∃ n196, H181.cellsAt i1 0 5 = some [(.int .i64 n192), (.int .i64 n193), (.int .i64 n194), (.int .i64 n195), (.int .i64 n196)] ∧
 R (.tuple #[(.agg #[(.int .i64 n192), (.int .i64 n193), (.int .i64 n194), (.int .i64 n195), (.int .i64 n196)]), (.int .i64 16), (.int .i64 n180)]) H181) ∧
 ((∃ n187, ∃ n188, ∃ n189, ∃ n190, ∃ n191, (H167.bump 7).cellsAt (H2.next + 19) 0 5 = some [(.int .i64 n187), (.int .i64 n188), (.int .i64 n189), (.int .i64 n190), (.int .i64 n191)] ∧
 sameN 8 (.agg #[(.int .i64 n168), (.int .i64 n169), (.int .i64 n170), (.int .i64 n171), (.int .i64 n172)]) (.agg #[(.int .i64 n187), (.int .i64 n188), (.int .i64 n189), (.int .i64 n190), (.int .i64 n191)]) = true) ∧ (∃ n182, ∃ n183, ∃ n184, ∃ n185, ∃ n186, H179.cellsAt (H2.next + 19) 0 5 = some [(.int .i64 n182), (.int .i64 n183), (.int .i64 n184), (.int .i64 n185), (.int .i64 n186)] ∧
 sameN 8 (.agg #[(.int .i64 n168), (.int .i64 n169), (.int .i64 n170), (.int .i64 n171), (.int .i64 n172)]) (.agg #[(.int .i64 n182), (.int .i64 n183), (.int .i64 n184), (.int .i64 n185), (.int .i64 n186)]) = true) ∧ True) ∧
 True))
 else (
 ∃ n197, ∃ n198, ∃ n199, ∃ n200, ∃ n201, (H137.bump 7).cellsAt (H2.next + 19) 0 5 = some [(.int .i64 n197), (.int .i64 n198), (.int .i64 n199), (.int .i64 n200), (.int .i64 n201)] ∧
 ∃ n202, ∃ n203, ∃ n204, ∃ n205, ∃ n206, (H137.bump 7).cellsAt (H2.next + 19) 0 5 = some [(.int .i64 n202), (.int .i64 n203), (.int .i64 n204), (.int .i64 n205), (.int .i64 n206)] ∧
 CA en F.insn_Check [(.agg #[(.int .i64 n202), (.int .i64 n203), (.int .i64 n204), (.int .i64 n205), (.int .i64 n206)])] (H137.bump 7) fun v207 H208 =>
 ∃ n209, v207 = (.int .i64 n209) ∧
 stc H208 i1 0 [(.int .i64 n197), (.int .i64 n198), (.int .i64 n199), (.int .i64 n200), (.int .i64 n201)] fun H210 =>
 (
 ∃ n221, ∃ n222, ∃ n223, ∃ n224, ∃ n225, H210.cellsAt i1 0 5 = some [(.int .i64 n221), (.int .i64 n222), (.int .i64 n223), (.int .i64 n224), (.int .i64 n225)] ∧
 R (.tuple #[(.agg #[(.int .i64 n221), (.int .i64 n222), (.int .i64 n223), (.int .i64 n224), (.int .i64 n225)]), (.int .i64 8), (.int .i64 n209)]) H210) ∧
 ((∃ n216, ∃ n217, ∃ n218, ∃ n219, ∃ n220, (H137.bump 7).cellsAt (H2.next + 19) 0 5 = some [(.int .i64 n216), (.int .i64 n217), (.int .i64 n218), (.int .i64 n219), (.int .i64 n220)] ∧
 sameN 8 (.agg #[(.int .i64 n197), (.int .i64 n198), (.int .i64 n199), (.int .i64 n200), (.int .i64 n201)]) (.agg #[(.int .i64 n216), (.int .i64 n217), (.int .i64 n218), (.int .i64 n219), (.int .i64 n220)]) = true) ∧ (∃ n211, ∃ n212, ∃ n213, ∃ n214, ∃ n215, H208.cellsAt (H2.next + 19) 0 5 = some [(.int .i64 n211), (.int .i64 n212), (.int .i64 n213), (.int .i64 n214), (.int .i64 n215)] ∧
 sameN 8 (.agg #[(.int .i64 n197), (.int .i64 n198), (.int .i64 n199), (.int .i64 n200), (.int .i64 n201)]) (.agg #[(.int .i64 n211), (.int .i64 n212), (.int .i64 n213), (.int .i64 n214), (.int .i64 n215)]) = true) ∧ True) ∧
 True)) ∧
 ((∃ c140, ((H2.bump 22).set (H2.next + 19) (.cells true 0 [(.int .i64 0), (.int .i64 0), (.int .i64 0), (.int .i64 0), (.int .i64 0)])).get (H2.next + 19) = some (.cells true 0 c140) ∧ sameN.sameL 8 [(.int .i64 0), (.int .i64 0), (.int .i64 0), (.int .i64 0), (.int .i64 0)] c140 = true) ∧ (∃ c139, H132.get (H2.next + 19) = some (.cells true 0 c139) ∧ sameN.sameL 8 [(.int .i64 0), (.int .i64 0), (.int .i64 0), (.int .i64 0), (.int .i64 0)] c139 = true) ∧ (∃ c138, H135.get (H2.next + 19) = some (.cells true 0 c138) ∧ sameN.sameL 8 [(.int .i64 0), (.int .i64 0), (.int .i64 0), (.int .i64 0), (.int .i64 0)] c138 = true) ∧ True) ∧
 ((nn 4 ∧
 (Int.fdiv n130 16) = (Int.fdiv n130 16)) ∧ (nn 4 ∧
 (Int.fdiv n130 16) = (Int.fdiv n130 16)) ∧ (nn 4 ∧
 (Int.fdiv n130 16) = (Int.fdiv n130 16)) ∧ True) ∧
 ((∃ n143, ((H2.bump 22).set (H2.next + 19) (.cells true 0 [(.int .i64 0), (.int .i64 0), (.int .i64 0), (.int .i64 0), (.int .i64 0)])).cell i128 (i129 + 1) = some (.int .u8 n143) ∧
 n130 = n143) ∧ (∃ n142, H132.cell i128 (i129 + 1) = some (.int .u8 n142) ∧
 n130 = n142) ∧ (∃ n141, H135.cell i128 (i129 + 1) = some (.int .u8 n141) ∧
 n130 = n141) ∧ True) ∧
 (((IntKind.u8.wrap ((BitVec.ofInt 8 n127 &&& (BitVec.ofInt 8 15)).toNat : Int)) = (IntKind.u8.wrap ((BitVec.ofInt 8 n127 &&& (BitVec.ofInt 8 15)).toNat : Int))) ∧ ((IntKind.u8.wrap ((BitVec.ofInt 8 n127 &&& (BitVec.ofInt 8 15)).toNat : Int)) = (IntKind.u8.wrap ((BitVec.ofInt 8 n127 &&& (BitVec.ofInt 8 15)).toNat : Int))) ∧ ((IntKind.u8.wrap ((BitVec.ofInt 8 n127 &&& (BitVec.ofInt 8 15)).toNat : Int)) = (IntKind.u8.wrap ((BitVec.ofInt 8 n127 &&& (BitVec.ofInt 8 15)).toNat : Int))) ∧ True) ∧
 ((∃ n146, ((H2.bump 22).set (H2.next + 19) (.cells true 0 [(.int .i64 0), (.int .i64 0), (.int .i64 0), (.int .i64 0), (.int .i64 0)])).cell i125 (i126 + 1) = some (.int .u8 n146) ∧
 n127 = n146) ∧ (∃ n145, H132.cell i125 (i126 + 1) = some (.int .u8 n145) ∧
 n127 = n145) ∧ (∃ n144, H135.cell i125 (i126 + 1) = some (.int .u8 n144) ∧
 n127 = n144) ∧ True) ∧
 ((∃ n149, ((H2.bump 22).set (H2.next + 19) (.cells true 0 [(.int .i64 0), (.int .i64 0), (.int .i64 0), (.int .i64 0), (.int .i64 0)])).cell i122 i123 = some (.int .u8 n149) ∧
 n124 = n149) ∧ (∃ n148, H132.cell i122 i123 = some (.int .u8 n148) ∧
 n124 = n148) ∧ (∃ n147, H135.cell i122 i123 = some (.int .u8 n147) ∧
 n124 = n147) ∧ True) ∧
 True))) →
    CA en F.insn_one [(.slice x0 x0l 0)] H R := by
  intro h
  refine wpFn_ok (Z := []) (fn := Go.Proofs.Tryd.f51) ?_ ?_ ?_
  · kernel_rfl
  · kernel_rfl
  · apply turnInto h
    kernel_rfl


/-! insn_table -/
noncomputable def L_insn_table_0 : Code := loopAt Go.Proofs.Tryd.f53 0
noncomputable def L_insn_table_1 : Code := loopAt Go.Proofs.Tryd.f53 1

theorem vc_insn_table (H : Heap) (R : Value → Heap → Prop) :
    (
 nwH H (.map [] 0) fun i1 H2 =>
 CA en F.insn_alus [(.map (some i1))] H2 fun v3 H4 =>
 v3 = undef ∧
 nwH H4 (.cells true 1 [(.int .i64 16), (.int .i64 32), (.int .i64 48), (.int .i64 64), (.int .i64 80), (.int .i64 96), (.int .i64 112), (.int .i64 160), (.int .i64 176), (.int .i64 192), (.int .i64 208)]) fun i5 H6 =>
 LA en L_insn_table_0 [(.map none), (.map (some i1)), undef, undef, undef, undef, undef, undef, (.map (some i1)), (.map (some i1)), undef, (.slice (some ⟨i5, 0, none⟩) 11 0), (.int .i64 11), (.int .i64 0), undef, undef, undef, undef, undef, undef, undef, undef, undef, undef, undef, undef, undef, undef, undef, undef, undef, undef, undef, undef, undef, undef, undef, undef, undef, undef, undef, undef, undef, undef, undef, undef, undef, undef, undef, undef, undef, undef, undef, undef, undef, undef, undef, undef, undef, undef, undef, undef, undef, undef, undef, undef, undef, undef, undef, undef, undef, undef, undef, undef, undef, undef, undef, undef, undef, undef, undef, undef, undef, undef, undef, undef, undef, undef, undef, undef, undef, undef, undef, undef, undef, undef, undef, undef, undef, undef, undef, undef, undef, undef, undef, undef] H6 [(X.exit 0, fun (y7 : Fr) (H8 : Heap) =>
 ∃ n9, ∃ n10, H8.cellsAt 0 0 2 = some [(.int .i64 n9), (.int .i64 n10)] ∧
 nwH H8 (.cells true 1 [(.int .i64 5)]) fun i11 H12 =>
 CA en F.insn_rows [(.map (some i1)), (.agg #[(.bool false), (.bool false), (.bool true), (.bool false), (.int .i64 n9), (.int .i64 n10), (.bool false), .nilFunc]), (.slice (some ⟨i11, 0, none⟩) 1 0)] H12 fun v13 H14 =>
 v13 = undef ∧
 ∃ n15, ∃ n16, H14.cellsAt 0 0 2 = some [(.int .i64 n15), (.int .i64 n16)] ∧
 nwH H14 (.cells true 1 [(.int .i64 133)]) fun i17 H18 =>
 CA en F.insn_rows [(.map (some i1)), (.agg #[(.bool false), (.bool false), (.bool false), (.bool true), (.int .i64 n15), (.int .i64 n16), (.bool false), .nilFunc]), (.slice (some ⟨i17, 0, none⟩) 1 0)] H18 fun v19 H20 =>
 v19 = undef ∧
 ∃ n21, ∃ n22, H20.cellsAt 0 0 2 = some [(.int .i64 n21), (.int .i64 n22)] ∧
 nwH H20 (.cells true 1 [(.int .i64 149)]) fun i23 H24 =>
 CA en F.insn_rows [(.map (some i1)), (.agg #[(.bool false), (.bool false), (.bool false), (.bool false), (.int .i64 n21), (.int .i64 n22), (.bool false), .nilFunc]), (.slice (some ⟨i23, 0, none⟩) 1 0)] H24 fun v25 H26 =>
 v25 = undef ∧
 nwH H26 (.cells true 1 [(.int .i64 24)]) fun i27 H28 =>
 CA en F.insn_rows [(.map (some i1)), (.agg #[(.bool true), (.bool true), (.bool false), (.bool true), (.int .i64 (-9223372036854775808)), (.int .i64 9223372036854775807), (.bool true), (.func (.func F.insn_table_1) #[] #[])]), (.slice (some ⟨i27, 0, none⟩) 1 0)] H28 fun v29 H30 =>
 v29 = undef ∧
 nwH H30 (.cells true 1 [(.int .i64 0), (.int .i64 8), (.int .i64 16), (.int .i64 24)]) fun i31 H32 =>
 LA en L_insn_table_1 [(.map none), (.map (some i1)), undef, (y7.getD 3 undef), (.func (.func F.insn_table_1) #[] #[]), undef, undef, undef, (.map (some i1)), (.map (some i1)), undef, (.slice (some ⟨i5, 0, none⟩) 11 0), (.int .i64 11), (y7.getD 13 undef), (y7.getD 14 undef), (y7.getD 15 undef), (y7.getD 16 undef), (y7.getD 17 undef), (y7.getD 18 undef), (y7.getD 19 undef), (y7.getD 20 undef), (y7.getD 21 undef), (y7.getD 22 undef), (y7.getD 23 undef), (y7.getD 24 undef), (y7.getD 25 undef), (y7.getD 26 undef), (y7.getD 27 undef), (y7.getD 28 undef), (y7.getD 29 undef), (y7.getD 30 undef), (y7.getD 31 undef), (y7.getD 32 undef), (y7.getD 33 undef), (y7.getD 34 undef), (y7.getD 35 undef), (y7.getD 36 undef), (y7.getD 37 undef), (y7.getD 38 undef), (y7.getD 39 undef), (.map (some i1)), (.agg #[(.bool false), (.bool false), (.bool true), (.bool false)]), (.agg #[(.int .i64 n9), (.int .i64 n10)]), (.agg #[(.bool false), (.bool false), (.bool true), (.bool false), (.int .i64 n9), (.int .i64 n10), (.bool false), .nilFunc]), (.slice (some ⟨i11, 0, none⟩) 1 0), undef, (.map (some i1)), (.agg #[(.bool false), (.bool false), (.bool false), (.bool true)]), (.agg #[(.int .i64 n15), (.int .i64 n16)]), (.agg #[(.bool false), (.bool false), (.bool false), (.bool true), (.int .i64 n15), (.int .i64 n16), (.bool false), .nilFunc]), (.slice (some ⟨i17, 0, none⟩) 1 0), undef, (.map (some i1)), (.agg #[(.int .i64 n21), (.int .i64 n22)]), (.agg #[(.bool false), (.bool false), (.bool false), (.bool false), (.int .i64 n21), (.int .i64 n22), (.bool false), .nilFunc]), (.slice (some ⟨i23, 0, none⟩) 1 0), undef, (.map (some i1)), (.agg #[(.bool true), (.bool true), (.bool false), (.bool true)]), (.agg #[(.int .i64 (-9223372036854775808)), (.int .i64 9223372036854775807)]), (.func (.func F.insn_table_1) #[] #[]), (.agg #[(.bool true), (.bool true), (.bool false), (.bool true), (.int .i64 (-9223372036854775808)), (.int .i64 9223372036854775807), (.bool true), (.func (.func F.insn_table_1) #[] #[])]), (.slice (some ⟨i27, 0, none⟩) 1 0), undef, (.slice (some ⟨i31, 0, none⟩) 4 0), (.int .i64 4), (.int .i64 0), undef, undef, undef, undef, undef, undef, undef, undef, undef, undef, undef, undef, undef, undef, undef, undef, undef, undef, undef, undef, undef, undef, undef, undef, undef, undef, undef, undef, undef, undef, undef, undef, undef, undef, undef, undef, undef, undef, undef] H32 [(X.exit 2, fun (y33 : Fr) (H34 : Heap) =>
 ∃ n35, ∃ n36, H34.cellsAt 0 0 2 = some [(.int .i64 n35), (.int .i64 n36)] ∧
 nwH H34 (.cells true 1 [(.int .i64 195), (.int .i64 219)]) fun i37 H38 =>
 CA en F.insn_rows [(.map (some i1)), (.agg #[(.bool true), (.bool true), (.bool true), (.bool true), (.int .i64 n35), (.int .i64 n36), (.bool false), (.func (.func F.insn_table_2) #[] #[])]), (.slice (some ⟨i37, 0, none⟩) 2 0)] H38 fun v39 H40 =>
 v39 = undef ∧
 R (.map (some i1)) H40)])]) →
    CA en F.insn_table [] H R := by
  intro h
  refine wpFn_ok (Z := [[], []]) (fn := Go.Proofs.Tryd.f53) ?_ ?_ ?_
  · kernel_rfl
  · kernel_rfl
  · apply turnInto h
    kernel_rfl

theorem use_insn_table_0 {t1 : Nat} {t8 : Nat} {t9 : Nat} {t11 : Nat} {K0 : Fr → Heap → Prop} {t13 : Int} {t3 : Value} {t14 : Value} {t15 : Value} {t16 : Value} {t17 : Value} {t18 : Value} {t19 : Value} {t20 : Value} {t21 : Value} {t22 : Value} {t23 : Value} {t24 : Value} {t25 : Value} {t26 : Value} {t27 : Value} {t28 : Value} {t29 : Value} {t30 : Value} {t31 : Value} {t32 : Value} {t33 : Value} {t34 : Value} {t35 : Value} {t36 : Value} {t37 : Value} {t38 : Value} {t39 : Value} {H : Heap} (I : Nat → Int → Heap → Prop) (n : Nat) (h0 : I n t13 H)
    (hstep : ∀ (n : Nat) (t13 : Int) (ys : Fr) (H : Heap), I n t13 H →
    (
 bif (decide (t13 < 11)) then (
 inB t13 11 ∧
 ∃ n1, H.cell t11 (0 + (t13.toNat * 1)) = some (.int .i64 n1) ∧
 ∃ n2, ∃ n3, H.cellsAt 0 0 2 = some [(.int .i64 n2), (.int .i64 n3)] ∧
 nwH H (.cells true 1 [(.int .i64 (IntKind.i64.wrap ((BitVec.ofInt 64 n1 ||| (BitVec.ofInt 64 5)).toNat : Int))), (.int .i64 (IntKind.i64.wrap ((BitVec.ofInt 64 n1 ||| (BitVec.ofInt 64 6)).toNat : Int)))]) fun i4 H5 =>
 CA en F.insn_rows [(.map (some t1)), (.agg #[(.bool true), (.bool false), (.bool true), (.bool true), (.int .i64 n2), (.int .i64 n3), (.bool false), .nilFunc]), (.slice (some ⟨i4, 0, none⟩) 2 0)] H5 fun v6 H7 =>
 v6 = undef ∧
 ∃ n8, ∃ n9, H7.cellsAt 0 0 2 = some [(.int .i64 n8), (.int .i64 n9)] ∧
 nwH H7 (.cells true 1 [(.int .i64 (IntKind.i64.wrap ((BitVec.ofInt 64 (IntKind.i64.wrap ((BitVec.ofInt 64 n1 ||| (BitVec.ofInt 64 8)).toNat : Int)) ||| (BitVec.ofInt 64 5)).toNat : Int))), (.int .i64 (IntKind.i64.wrap ((BitVec.ofInt 64 (IntKind.i64.wrap ((BitVec.ofInt 64 n1 ||| (BitVec.ofInt 64 8)).toNat : Int)) ||| (BitVec.ofInt 64 6)).toNat : Int)))]) fun i10 H11 =>
 CA en F.insn_rows [(.map (some t1)), (.agg #[(.bool true), (.bool true), (.bool true), (.bool false), (.int .i64 n8), (.int .i64 n9), (.bool false), .nilFunc]), (.slice (some ⟨i10, 0, none⟩) 2 0)] H11 fun v12 H13 =>
 v12 = undef ∧
 ∃ k14, k14 < n ∧
 I k14 (IntKind.i64.wrap (t13 + 1)) H13)
 else (
 K0 [(.map none), (.map (some t1)), undef, (ys.getD 3 undef), undef, undef, undef, undef, (.map (some t8)), (.map (some t9)), undef, (.slice (some ⟨t11, 0, none⟩) 11 0), (.int .i64 11), (.int .i64 t13), (.bool false), (ys.getD 15 undef), (ys.getD 16 undef), (ys.getD 17 undef), (ys.getD 18 undef), (ys.getD 19 undef), (ys.getD 20 undef), (ys.getD 21 undef), (ys.getD 22 undef), (ys.getD 23 undef), (ys.getD 24 undef), (ys.getD 25 undef), (ys.getD 26 undef), (ys.getD 27 undef), (ys.getD 28 undef), (ys.getD 29 undef), (ys.getD 30 undef), (ys.getD 31 undef), (ys.getD 32 undef), (ys.getD 33 undef), (ys.getD 34 undef), (ys.getD 35 undef), (ys.getD 36 undef), (ys.getD 37 undef), (ys.getD 38 undef), (ys.getD 39 undef), undef, undef, undef, undef, undef, undef, undef, undef, undef, undef, undef, undef, undef, undef, undef, undef, undef, undef, undef, undef, undef, undef, undef, undef, undef, undef, undef, undef, undef, undef, undef, undef, undef, undef, undef, undef, undef, undef, undef, undef, undef, undef, undef, undef, undef, undef, undef, undef, undef, undef, undef, undef, undef, undef, undef, undef, undef, undef, undef, undef, undef, undef, undef, undef, undef, undef] H))) :
    LA en L_insn_table_0 [(.map none), (.map (some t1)), undef, t3, undef, undef, undef, undef, (.map (some t8)), (.map (some t9)), undef, (.slice (some ⟨t11, 0, none⟩) 11 0), (.int .i64 11), (.int .i64 t13), t14, t15, t16, t17, t18, t19, t20, t21, t22, t23, t24, t25, t26, t27, t28, t29, t30, t31, t32, t33, t34, t35, t36, t37, t38, t39, undef, undef, undef, undef, undef, undef, undef, undef, undef, undef, undef, undef, undef, undef, undef, undef, undef, undef, undef, undef, undef, undef, undef, undef, undef, undef, undef, undef, undef, undef, undef, undef, undef, undef, undef, undef, undef, undef, undef, undef, undef, undef, undef, undef, undef, undef, undef, undef, undef, undef, undef, undef, undef, undef, undef, undef, undef, undef, undef, undef, undef, undef, undef, undef, undef, undef] H [(X.exit 0, K0)] := by
  refine LA_rule (Z := []) (fun m xs H' => AS.asInt .i64 (xs.getD 13 undef) fun t13 => I m t13 H') ?_ n H ?_
  · intro n H
    suffices hs : ∀ s14 : Value, ∀ s15 : Value, ∀ s16 : Value, ∀ s3 : Value, ∀ s17 : Value, ∀ s18 : Value, ∀ s19 : Value, ∀ s20 : Value, ∀ s21 : Value, ∀ s22 : Value, ∀ s23 : Value, ∀ s24 : Value, ∀ s25 : Value, ∀ s26 : Value, ∀ s27 : Value, ∀ s28 : Value, ∀ s29 : Value, ∀ s30 : Value, ∀ s31 : Value, ∀ s32 : Value, ∀ s33 : Value, ∀ s34 : Value, ∀ s35 : Value, ∀ s36 : Value, ∀ s37 : Value, ∀ s38 : Value, ∀ s39 : Value, ∀ s13 : Value, ((AS.asInt .i64 s13 fun t13 => I n t13 H) → wpCode en L_insn_table_0 [] [(.map none), (.map (some t1)), undef, s3, undef, undef, undef, undef, (.map (some t8)), (.map (some t9)), undef, (.slice (some ⟨t11, 0, none⟩) 11 0), (.int .i64 11), s13, s14, s15, s16, s17, s18, s19, s20, s21, s22, s23, s24, s25, s26, s27, s28, s29, s30, s31, s32, s33, s34, s35, s36, s37, s38, s39, undef, undef, undef, undef, undef, undef, undef, undef, undef, undef, undef, undef, undef, undef, undef, undef, undef, undef, undef, undef, undef, undef, undef, undef, undef, undef, undef, undef, undef, undef, undef, undef, undef, undef, undef, undef, undef, undef, undef, undef, undef, undef, undef, undef, undef, undef, undef, undef, undef, undef, undef, undef, undef, undef, undef, undef, undef, undef, undef, undef, undef, undef, undef, undef, undef, undef] H (loopQ (fun m xs H' => AS.asInt .i64 (xs.getD 13 undef) fun t13 => I m t13 H') n [(X.exit 0, K0)])) by
      apply turnInto hs
      kernel_rfl
    intro s14 s15 s16 s3 s17 s18 s19 s20 s21 s22 s23 s24 s25 s26 s27 s28 s29 s30 s31 s32 s33 s34 s35 s36 s37 s38 s39 s13 hP
    replace hP := asInt_elim hP
    obtain ⟨t13, rfl, hP⟩ := hP
    apply turnInto (hstep n t13 [(.map none), (.map (some t1)), undef, s3, undef, undef, undef, undef, (.map (some t8)), (.map (some t9)), undef, (.slice (some ⟨t11, 0, none⟩) 11 0), (.int .i64 11), (.int .i64 t13), s14, s15, s16, s17, s18, s19, s20, s21, s22, s23, s24, s25, s26, s27, s28, s29, s30, s31, s32, s33, s34, s35, s36, s37, s38, s39, undef, undef, undef, undef, undef, undef, undef, undef, undef, undef, undef, undef, undef, undef, undef, undef, undef, undef, undef, undef, undef, undef, undef, undef, undef, undef, undef, undef, undef, undef, undef, undef, undef, undef, undef, undef, undef, undef, undef, undef, undef, undef, undef, undef, undef, undef, undef, undef, undef, undef, undef, undef, undef, undef, undef, undef, undef, undef, undef, undef, undef, undef, undef, undef, undef, undef] H hP)
    kernel_rfl
  · apply turnInto h0
    kernel_rfl

theorem use_insn_table_1 {t1 : Nat} {t3 : Value} {t8 : Nat} {t9 : Nat} {t11 : Nat} {t13 : Value} {t14 : Value} {t15 : Value} {t16 : Value} {t17 : Value} {t18 : Value} {t19 : Value} {t20 : Value} {t21 : Value} {t22 : Value} {t23 : Value} {t24 : Value} {t25 : Value} {t26 : Value} {t27 : Value} {t28 : Value} {t29 : Value} {t30 : Value} {t31 : Value} {t32 : Value} {t33 : Value} {t34 : Value} {t35 : Value} {t36 : Value} {t37 : Value} {t38 : Value} {t39 : Value} {t40 : Nat} {t42_0 : Int} {t42_1 : Int} {t43_4 : Int} {t43_5 : Int} {t44 : Nat} {t46 : Nat} {t48_0 : Int} {t48_1 : Int} {t49_4 : Int} {t49_5 : Int} {t50 : Nat} {t52 : Nat} {t53_0 : Int} {t53_1 : Int} {t54_4 : Int} {t54_5 : Int} {t55 : Nat} {t57 : Nat} {t62 : Nat} {t64 : Nat} {K0 : Fr → Heap → Prop} {t66 : Int} {t6 : Value} {t67 : Value} {t68 : Value} {t69 : Value} {t70 : Value} {t71 : Value} {t72 : Value} {t73 : Value} {t74 : Value} {t75 : Value} {t76 : Value} {t77 : Value} {t78 : Value} {t79 : Value} {t80 : Value} {t81 : Value} {t82 : Value} {t83 : Value} {t84 : Value} {t85 : Value} {t86 : Value} {t87 : Value} {t88 : Value} {t89 : Value} {t90 : Value} {t91 : Value} {t92 : Value} {t93 : Value} {t94 : Value} {t95 : Value} {t96 : Value} {t97 : Value} {H : Heap} (I : Nat → Int → Heap → Prop) (n : Nat) (h0 : I n t66 H)
    (hstep : ∀ (n : Nat) (t66 : Int) (ys : Fr) (H : Heap), I n t66 H →
    (
 bif (decide (t66 < 4)) then (
 inB t66 4 ∧
 ∃ n1, H.cell t64 (0 + (t66.toNat * 1)) = some (.int .i64 n1) ∧
 ∃ n2, ∃ n3, H.cellsAt 0 0 2 = some [(.int .i64 n2), (.int .i64 n3)] ∧
 nwH H (.cells true 1 [(.int .i64 (IntKind.i64.wrap ((BitVec.ofInt 64 (IntKind.i64.wrap ((BitVec.ofInt 64 96 ||| (BitVec.ofInt 64 n1)).toNat : Int)) ||| (BitVec.ofInt 64 1)).toNat : Int)))]) fun i4 H5 =>
 CA en F.insn_rows [(.map (some t1)), (.agg #[(.bool true), (.bool true), (.bool true), (.bool false), (.int .i64 n2), (.int .i64 n3), (.bool true), .nilFunc]), (.slice (some ⟨i4, 0, none⟩) 1 0)] H5 fun v6 H7 =>
 v6 = undef ∧
 ∃ n8, ∃ n9, H7.cellsAt 0 0 2 = some [(.int .i64 n8), (.int .i64 n9)] ∧
 nwH H7 (.cells true 1 [(.int .i64 (IntKind.i64.wrap ((BitVec.ofInt 64 (IntKind.i64.wrap ((BitVec.ofInt 64 96 ||| (BitVec.ofInt 64 n1)).toNat : Int)) ||| (BitVec.ofInt 64 2)).toNat : Int)))]) fun i10 H11 =>
 CA en F.insn_rows [(.map (some t1)), (.agg #[(.bool true), (.bool false), (.bool true), (.bool true), (.int .i64 n8), (.int .i64 n9), (.bool false), .nilFunc]), (.slice (some ⟨i10, 0, none⟩) 1 0)] H11 fun v12 H13 =>
 v12 = undef ∧
 ∃ n14, ∃ n15, H13.cellsAt 0 0 2 = some [(.int .i64 n14), (.int .i64 n15)] ∧
 nwH H13 (.cells true 1 [(.int .i64 (IntKind.i64.wrap ((BitVec.ofInt 64 (IntKind.i64.wrap ((BitVec.ofInt 64 96 ||| (BitVec.ofInt 64 n1)).toNat : Int)) ||| (BitVec.ofInt 64 3)).toNat : Int)))]) fun i16 H17 =>
 CA en F.insn_rows [(.map (some t1)), (.agg #[(.bool true), (.bool true), (.bool true), (.bool false), (.int .i64 n14), (.int .i64 n15), (.bool false), .nilFunc]), (.slice (some ⟨i16, 0, none⟩) 1 0)] H17 fun v18 H19 =>
 v18 = undef ∧
 ∃ k20, k20 < n ∧
 I k20 (IntKind.i64.wrap (t66 + 1)) H19)
 else (
 K0 [(.map none), (.map (some t1)), undef, t3, (.func (.func F.insn_table_1) #[] #[]), undef, (ys.getD 6 undef), undef, (.map (some t8)), (.map (some t9)), undef, (.slice (some ⟨t11, 0, none⟩) 11 0), (.int .i64 11), t13, t14, t15, t16, t17, t18, t19, t20, t21, t22, t23, t24, t25, t26, t27, t28, t29, t30, t31, t32, t33, t34, t35, t36, t37, t38, t39, (.map (some t40)), (.agg #[(.bool false), (.bool false), (.bool true), (.bool false)]), (.agg #[(.int .i64 t42_0), (.int .i64 t42_1)]), (.agg #[(.bool false), (.bool false), (.bool true), (.bool false), (.int .i64 t43_4), (.int .i64 t43_5), (.bool false), .nilFunc]), (.slice (some ⟨t44, 0, none⟩) 1 0), undef, (.map (some t46)), (.agg #[(.bool false), (.bool false), (.bool false), (.bool true)]), (.agg #[(.int .i64 t48_0), (.int .i64 t48_1)]), (.agg #[(.bool false), (.bool false), (.bool false), (.bool true), (.int .i64 t49_4), (.int .i64 t49_5), (.bool false), .nilFunc]), (.slice (some ⟨t50, 0, none⟩) 1 0), undef, (.map (some t52)), (.agg #[(.int .i64 t53_0), (.int .i64 t53_1)]), (.agg #[(.bool false), (.bool false), (.bool false), (.bool false), (.int .i64 t54_4), (.int .i64 t54_5), (.bool false), .nilFunc]), (.slice (some ⟨t55, 0, none⟩) 1 0), undef, (.map (some t57)), (.agg #[(.bool true), (.bool true), (.bool false), (.bool true)]), (.agg #[(.int .i64 (-9223372036854775808)), (.int .i64 9223372036854775807)]), (.func (.func F.insn_table_1) #[] #[]), (.agg #[(.bool true), (.bool true), (.bool false), (.bool true), (.int .i64 (-9223372036854775808)), (.int .i64 9223372036854775807), (.bool true), (.func (.func F.insn_table_1) #[] #[])]), (.slice (some ⟨t62, 0, none⟩) 1 0), undef, (.slice (some ⟨t64, 0, none⟩) 4 0), (.int .i64 4), (.int .i64 t66), (.bool false), (ys.getD 68 undef), (ys.getD 69 undef), (ys.getD 70 undef), (ys.getD 71 undef), (ys.getD 72 undef), (ys.getD 73 undef), (ys.getD 74 undef), (ys.getD 75 undef), (ys.getD 76 undef), (ys.getD 77 undef), (ys.getD 78 undef), (ys.getD 79 undef), (ys.getD 80 undef), (ys.getD 81 undef), (ys.getD 82 undef), (ys.getD 83 undef), (ys.getD 84 undef), (ys.getD 85 undef), (ys.getD 86 undef), (ys.getD 87 undef), (ys.getD 88 undef), (ys.getD 89 undef), (ys.getD 90 undef), (ys.getD 91 undef), (ys.getD 92 undef), (ys.getD 93 undef), (ys.getD 94 undef), (ys.getD 95 undef), (ys.getD 96 undef), (ys.getD 97 undef), undef, undef, undef, undef, undef, undef, undef, undef] H))) :
    LA en L_insn_table_1 [(.map none), (.map (some t1)), undef, t3, (.func (.func F.insn_table_1) #[] #[]), undef, t6, undef, (.map (some t8)), (.map (some t9)), undef, (.slice (some ⟨t11, 0, none⟩) 11 0), (.int .i64 11), t13, t14, t15, t16, t17, t18, t19, t20, t21, t22, t23, t24, t25, t26, t27, t28, t29, t30, t31, t32, t33, t34, t35, t36, t37, t38, t39, (.map (some t40)), (.agg #[(.bool false), (.bool false), (.bool true), (.bool false)]), (.agg #[(.int .i64 t42_0), (.int .i64 t42_1)]), (.agg #[(.bool false), (.bool false), (.bool true), (.bool false), (.int .i64 t43_4), (.int .i64 t43_5), (.bool false), .nilFunc]), (.slice (some ⟨t44, 0, none⟩) 1 0), undef, (.map (some t46)), (.agg #[(.bool false), (.bool false), (.bool false), (.bool true)]), (.agg #[(.int .i64 t48_0), (.int .i64 t48_1)]), (.agg #[(.bool false), (.bool false), (.bool false), (.bool true), (.int .i64 t49_4), (.int .i64 t49_5), (.bool false), .nilFunc]), (.slice (some ⟨t50, 0, none⟩) 1 0), undef, (.map (some t52)), (.agg #[(.int .i64 t53_0), (.int .i64 t53_1)]), (.agg #[(.bool false), (.bool false), (.bool false), (.bool false), (.int .i64 t54_4), (.int .i64 t54_5), (.bool false), .nilFunc]), (.slice (some ⟨t55, 0, none⟩) 1 0), undef, (.map (some t57)), (.agg #[(.bool true), (.bool true), (.bool false), (.bool true)]), (.agg #[(.int .i64 (-9223372036854775808)), (.int .i64 9223372036854775807)]), (.func (.func F.insn_table_1) #[] #[]), (.agg #[(.bool true), (.bool true), (.bool false), (.bool true), (.int .i64 (-9223372036854775808)), (.int .i64 9223372036854775807), (.bool true), (.func (.func F.insn_table_1) #[] #[])]), (.slice (some ⟨t62, 0, none⟩) 1 0), undef, (.slice (some ⟨t64, 0, none⟩) 4 0), (.int .i64 4), (.int .i64 t66), t67, t68, t69, t70, t71, t72, t73, t74, t75, t76, t77, t78, t79, t80, t81, t82, t83, t84, t85, t86, t87, t88, t89, t90, t91, t92, t93, t94, t95, t96, t97, undef, undef, undef, undef, undef, undef, undef, undef] H [(X.exit 2, K0)] := by
  refine LA_rule (Z := []) (fun m xs H' => AS.asInt .i64 (xs.getD 66 undef) fun t66 => I m t66 H') ?_ n H ?_
  · intro n H
    suffices hs : ∀ s67 : Value, ∀ s68 : Value, ∀ s69 : Value, ∀ s6 : Value, ∀ s70 : Value, ∀ s71 : Value, ∀ s72 : Value, ∀ s73 : Value, ∀ s74 : Value, ∀ s75 : Value, ∀ s76 : Value, ∀ s77 : Value, ∀ s78 : Value, ∀ s79 : Value, ∀ s80 : Value, ∀ s81 : Value, ∀ s82 : Value, ∀ s83 : Value, ∀ s84 : Value, ∀ s85 : Value, ∀ s86 : Value, ∀ s87 : Value, ∀ s88 : Value, ∀ s89 : Value, ∀ s90 : Value, ∀ s91 : Value, ∀ s92 : Value, ∀ s93 : Value, ∀ s94 : Value, ∀ s95 : Value, ∀ s96 : Value, ∀ s97 : Value, ∀ s66 : Value, ((AS.asInt .i64 s66 fun t66 => I n t66 H) → wpCode en L_insn_table_1 [] [(.map none), (.map (some t1)), undef, t3, (.func (.func F.insn_table_1) #[] #[]), undef, s6, undef, (.map (some t8)), (.map (some t9)), undef, (.slice (some ⟨t11, 0, none⟩) 11 0), (.int .i64 11), t13, t14, t15, t16, t17, t18, t19, t20, t21, t22, t23, t24, t25, t26, t27, t28, t29, t30, t31, t32, t33, t34, t35, t36, t37, t38, t39, (.map (some t40)), (.agg #[(.bool false), (.bool false), (.bool true), (.bool false)]), (.agg #[(.int .i64 t42_0), (.int .i64 t42_1)]), (.agg #[(.bool false), (.bool false), (.bool true), (.bool false), (.int .i64 t43_4), (.int .i64 t43_5), (.bool false), .nilFunc]), (.slice (some ⟨t44, 0, none⟩) 1 0), undef, (.map (some t46)), (.agg #[(.bool false), (.bool false), (.bool false), (.bool true)]), (.agg #[(.int .i64 t48_0), (.int .i64 t48_1)]), (.agg #[(.bool false), (.bool false), (.bool false), (.bool true), (.int .i64 t49_4), (.int .i64 t49_5), (.bool false), .nilFunc]), (.slice (some ⟨t50, 0, none⟩) 1 0), undef, (.map (some t52)), (.agg #[(.int .i64 t53_0), (.int .i64 t53_1)]), (.agg #[(.bool false), (.bool false), (.bool false), (.bool false), (.int .i64 t54_4), (.int .i64 t54_5), (.bool false), .nilFunc]), (.slice (some ⟨t55, 0, none⟩) 1 0), undef, (.map (some t57)), (.agg #[(.bool true), (.bool true), (.bool false), (.bool true)]), (.agg #[(.int .i64 (-9223372036854775808)), (.int .i64 9223372036854775807)]), (.func (.func F.insn_table_1) #[] #[]), (.agg #[(.bool true), (.bool true), (.bool false), (.bool true), (.int .i64 (-9223372036854775808)), (.int .i64 9223372036854775807), (.bool true), (.func (.func F.insn_table_1) #[] #[])]), (.slice (some ⟨t62, 0, none⟩) 1 0), undef, (.slice (some ⟨t64, 0, none⟩) 4 0), (.int .i64 4), s66, s67, s68, s69, s70, s71, s72, s73, s74, s75, s76, s77, s78, s79, s80, s81, s82, s83, s84, s85, s86, s87, s88, s89, s90, s91, s92, s93, s94, s95, s96, s97, undef, undef, undef, undef, undef, undef, undef, undef] H (loopQ (fun m xs H' => AS.asInt .i64 (xs.getD 66 undef) fun t66 => I m t66 H') n [(X.exit 2, K0)])) by
      apply turnInto hs
      kernel_rfl
    intro s67 s68 s69 s6 s70 s71 s72 s73 s74 s75 s76 s77 s78 s79 s80 s81 s82 s83 s84 s85 s86 s87 s88 s89 s90 s91 s92 s93 s94 s95 s96 s97 s66 hP
    replace hP := asInt_elim hP
    obtain ⟨t66, rfl, hP⟩ := hP
    apply turnInto (hstep n t66 [(.map none), (.map (some t1)), undef, t3, (.func (.func F.insn_table_1) #[] #[]), undef, s6, undef, (.map (some t8)), (.map (some t9)), undef, (.slice (some ⟨t11, 0, none⟩) 11 0), (.int .i64 11), t13, t14, t15, t16, t17, t18, t19, t20, t21, t22, t23, t24, t25, t26, t27, t28, t29, t30, t31, t32, t33, t34, t35, t36, t37, t38, t39, (.map (some t40)), (.agg #[(.bool false), (.bool false), (.bool true), (.bool false)]), (.agg #[(.int .i64 t42_0), (.int .i64 t42_1)]), (.agg #[(.bool false), (.bool false), (.bool true), (.bool false), (.int .i64 t43_4), (.int .i64 t43_5), (.bool false), .nilFunc]), (.slice (some ⟨t44, 0, none⟩) 1 0), undef, (.map (some t46)), (.agg #[(.bool false), (.bool false), (.bool false), (.bool true)]), (.agg #[(.int .i64 t48_0), (.int .i64 t48_1)]), (.agg #[(.bool false), (.bool false), (.bool false), (.bool true), (.int .i64 t49_4), (.int .i64 t49_5), (.bool false), .nilFunc]), (.slice (some ⟨t50, 0, none⟩) 1 0), undef, (.map (some t52)), (.agg #[(.int .i64 t53_0), (.int .i64 t53_1)]), (.agg #[(.bool false), (.bool false), (.bool false), (.bool false), (.int .i64 t54_4), (.int .i64 t54_5), (.bool false), .nilFunc]), (.slice (some ⟨t55, 0, none⟩) 1 0), undef, (.map (some t57)), (.agg #[(.bool true), (.bool true), (.bool false), (.bool true)]), (.agg #[(.int .i64 (-9223372036854775808)), (.int .i64 9223372036854775807)]), (.func (.func F.insn_table_1) #[] #[]), (.agg #[(.bool true), (.bool true), (.bool false), (.bool true), (.int .i64 (-9223372036854775808)), (.int .i64 9223372036854775807), (.bool true), (.func (.func F.insn_table_1) #[] #[])]), (.slice (some ⟨t62, 0, none⟩) 1 0), undef, (.slice (some ⟨t64, 0, none⟩) 4 0), (.int .i64 4), (.int .i64 t66), s67, s68, s69, s70, s71, s72, s73, s74, s75, s76, s77, s78, s79, s80, s81, s82, s83, s84, s85, s86, s87, s88, s89, s90, s91, s92, s93, s94, s95, s96, s97, undef, undef, undef, undef, undef, undef, undef, undef] H hP)
    kernel_rfl
  · apply turnInto h0
    kernel_rfl


/-! insn_row_registers -/

theorem vc_insn_row_registers (x0_0 : Bool) (x0_1 : Bool) (x0_2 : Bool) (x0_3 : Bool) (x0_4 : Int) (x0_5 : Int) (x0_6 : Bool) (x0_7 : Value) (x1_0 : Int) (x1_1 : Int) (x1_2 : Int) (x1_3 : Int) (x1_4 : Int) (H : Heap) (R : Value → Heap → Prop) (hx0_7 : FnV x0_7) :
    (
 nwH H (.cells true 0 [(.bool x0_0), (.bool x0_1), (.bool x0_2), (.bool x0_3), (.int .i64 x0_4), (.int .i64 x0_5), (.bool x0_6), x0_7]) fun i1 H2 =>
 nwH H2 (.cells true 0 [(.int .i64 x1_0), (.int .i64 x1_1), (.int .i64 x1_2), (.int .i64 x1_3), (.int .i64 x1_4)]) fun i3 H4 =>
 ∃ n5, H4.cell i3 4 = some (.int .i64 n5) ∧
 CA en F.insn_Atomic [(.int .i64 n5)] H4 fun v6 H7 =>
 ∃ b8, ∃ b9, v6 = (.tuple #[(.bool b8), (.bool b9)]) ∧
 ∃ n10, H7.cell i3 0 = some (.int .i64 n10) ∧
 CA en F.insn_Class [(.int .i64 n10)] H7 fun v11 H12 =>
 ∃ n13, v11 = (.int .i64 n13) ∧
 bif (n13 == 3) then (
 ∃ n14, H12.cell i3 0 = some (.int .i64 n14) ∧
 ∃ n15, H12.cell i3 1 = some (.int .i64 n15) ∧
 CA en F.insn_register [(.int .i64 n15)] H12 fun v16 H17 =>
 ∃ b18, v16 = (.bool b18) ∧
 bif b18 then (
 ∃ n19, H17.cell i3 2 = some (.int .i64 n19) ∧
 CA en F.insn_register [(.int .i64 n19)] H17 fun v20 H21 =>
 ∃ b22, v20 = (.bool b22) ∧
 bif b22 then (
 ∃ b23, H21.cell i1 6 = some (.bool b23) ∧
 bif b23 then (
 ∃ n24, H21.cell i3 1 = some (.int .i64 n24) ∧
 bif (!(n24 == 10)) then (
 bif ((IntKind.i64.wrap ((BitVec.ofInt 64 n14 &&& (BitVec.ofInt 64 224)).toNat : Int)) == 192) then (
 bif b9 then (
 ∃ n25, H21.cell i3 2 = some (.int .i64 n25) ∧
 R (.bool (!(n25 == 10))) H21)
 else (
 R (.bool true) H21))
 else (
 R (.bool true) H21))
 else (
 R (.bool false) H21))
 else (
 bif ((IntKind.i64.wrap ((BitVec.ofInt 64 n14 &&& (BitVec.ofInt 64 224)).toNat : Int)) == 192) then (
 bif b9 then (
 ∃ n26, H21.cell i3 2 = some (.int .i64 n26) ∧
 R (.bool (!(n26 == 10))) H21)
 else (
 R (.bool true) H21))
 else (
 R (.bool true) H21)))
 else (
 R (.bool false) H21))
 else (
 R (.bool false) H17))
 else (
 ∃ n27, H12.cell i3 1 = some (.int .i64 n27) ∧
 CA en F.insn_register [(.int .i64 n27)] H12 fun v28 H29 =>
 ∃ b30, v28 = (.bool b30) ∧
 bif b30 then (
 ∃ n31, H29.cell i3 2 = some (.int .i64 n31) ∧
 CA en F.insn_register [(.int .i64 n31)] H29 fun v32 H33 =>
 ∃ b34, v32 = (.bool b34) ∧
 bif b34 then (
 ∃ b35, H33.cell i1 6 = some (.bool b35) ∧
 bif b35 then (
 ∃ n36, H33.cell i3 1 = some (.int .i64 n36) ∧
 bif (!(n36 == 10)) then (
 R (.bool true) H33)
 else (
 R (.bool false) H33))
 else (
 R (.bool true) H33))
 else (
 R (.bool false) H33))
 else (
 R (.bool false) H29))) →
    CA en F.insn_row_registers [(.agg #[(.bool x0_0), (.bool x0_1), (.bool x0_2), (.bool x0_3), (.int .i64 x0_4), (.int .i64 x0_5), (.bool x0_6), x0_7]), (.agg #[(.int .i64 x1_0), (.int .i64 x1_1), (.int .i64 x1_2), (.int .i64 x1_3), (.int .i64 x1_4)])] H R := by
  intro h
  rcases hx0_7 with rfl | ⟨_, rfl⟩
  · refine wpFn_ok (Z := []) (fn := Go.Proofs.Tryd.f54) ?_ ?_ ?_
    · kernel_rfl
    · kernel_rfl
    · apply turnInto h
      kernel_rfl
  
  · refine wpFn_ok (Z := []) (fn := Go.Proofs.Tryd.f54) ?_ ?_ ?_
    · kernel_rfl
    · kernel_rfl
    · apply turnInto h
      kernel_rfl
  


/-! insn_names_odd -/

theorem vc_insn_names_odd (x0_0 : Bool) (x0_1 : Bool) (x0_2 : Bool) (x0_3 : Bool) (x1_0 : Int) (x1_1 : Int) (x1_2 : Int) (x1_3 : Int) (x1_4 : Int) (H : Heap) (R : Value → Heap → Prop) :
    (
 nwH H (.cells true 0 [(.bool x0_0), (.bool x0_1), (.bool x0_2), (.bool x0_3)]) fun i1 H2 =>
 nwH H2 (.cells true 0 [(.int .i64 x1_0), (.int .i64 x1_1), (.int .i64 x1_2), (.int .i64 x1_3), (.int .i64 x1_4)]) fun i3 H4 =>
 ∃ b5, H4.cell i1 0 = some (.bool b5) ∧
 bif (!b5) then (
 ∃ n6, H4.cell i3 1 = some (.int .i64 n6) ∧
 bif (n6 != 0) then (
 R (.bool true) H4)
 else (
 ∃ b7, H4.cell i1 1 = some (.bool b7) ∧
 bif (!b7) then (
 ∃ n8, H4.cell i3 2 = some (.int .i64 n8) ∧
 bif (n8 != 0) then (
 R (.bool true) H4)
 else (
 ∃ b9, H4.cell i1 2 = some (.bool b9) ∧
 bif (!b9) then (
 ∃ n10, H4.cell i3 3 = some (.int .i64 n10) ∧
 bif (n10 != 0) then (
 R (.bool true) H4)
 else (
 ∃ b11, H4.cell i1 3 = some (.bool b11) ∧
 bif (!b11) then (
 ∃ n12, H4.cell i3 4 = some (.int .i64 n12) ∧
 R (.bool (n12 != 0)) H4)
 else (
 R (.bool false) H4)))
 else (
 ∃ b13, H4.cell i1 3 = some (.bool b13) ∧
 bif (!b13) then (
 ∃ n14, H4.cell i3 4 = some (.int .i64 n14) ∧
 R (.bool (n14 != 0)) H4)
 else (
 R (.bool false) H4))))
 else (
 ∃ b15, H4.cell i1 2 = some (.bool b15) ∧
 bif (!b15) then (
 ∃ n16, H4.cell i3 3 = some (.int .i64 n16) ∧
 bif (n16 != 0) then (
 R (.bool true) H4)
 else (
 ∃ b17, H4.cell i1 3 = some (.bool b17) ∧
 bif (!b17) then (
 ∃ n18, H4.cell i3 4 = some (.int .i64 n18) ∧
 R (.bool (n18 != 0)) H4)
 else (
 R (.bool false) H4)))
 else (
 ∃ b19, H4.cell i1 3 = some (.bool b19) ∧
 bif (!b19) then (
 ∃ n20, H4.cell i3 4 = some (.int .i64 n20) ∧
 R (.bool (n20 != 0)) H4)
 else (
 R (.bool false) H4)))))
 else (
 ∃ b21, H4.cell i1 1 = some (.bool b21) ∧
 bif (!b21) then (
 ∃ n22, H4.cell i3 2 = some (.int .i64 n22) ∧
 bif (n22 != 0) then (
 R (.bool true) H4)
 else (
 ∃ b23, H4.cell i1 2 = some (.bool b23) ∧
 bif (!b23) then (
 ∃ n24, H4.cell i3 3 = some (.int .i64 n24) ∧
 bif (n24 != 0) then (
 R (.bool true) H4)
 else (
 ∃ b25, H4.cell i1 3 = some (.bool b25) ∧
 bif (!b25) then (
 ∃ n26, H4.cell i3 4 = some (.int .i64 n26) ∧
 R (.bool (n26 != 0)) H4)
 else (
 R (.bool false) H4)))
 else (
 ∃ b27, H4.cell i1 3 = some (.bool b27) ∧
 bif (!b27) then (
 ∃ n28, H4.cell i3 4 = some (.int .i64 n28) ∧
 R (.bool (n28 != 0)) H4)
 else (
 R (.bool false) H4))))
 else (
 ∃ b29, H4.cell i1 2 = some (.bool b29) ∧
 bif (!b29) then (
 ∃ n30, H4.cell i3 3 = some (.int .i64 n30) ∧
 bif (n30 != 0) then (
 R (.bool true) H4)
 else (
 ∃ b31, H4.cell i1 3 = some (.bool b31) ∧
 bif (!b31) then (
 ∃ n32, H4.cell i3 4 = some (.int .i64 n32) ∧
 R (.bool (n32 != 0)) H4)
 else (
 R (.bool false) H4)))
 else (
 ∃ b33, H4.cell i1 3 = some (.bool b33) ∧
 bif (!b33) then (
 ∃ n34, H4.cell i3 4 = some (.int .i64 n34) ∧
 R (.bool (n34 != 0)) H4)
 else (
 R (.bool false) H4))))) →
    CA en F.insn_names_odd [(.agg #[(.bool x0_0), (.bool x0_1), (.bool x0_2), (.bool x0_3)]), (.agg #[(.int .i64 x1_0), (.int .i64 x1_1), (.int .i64 x1_2), (.int .i64 x1_3), (.int .i64 x1_4)])] H R := by
  intro h
  refine wpFn_ok (Z := []) (fn := Go.Proofs.Tryd.f55) ?_ ?_ ?_
  · kernel_rfl
  · kernel_rfl
  · apply turnInto h
    kernel_rfl


/-! insn_bounds_out -/

theorem vc_insn_bounds_out (x0_0 : Int) (x0_1 : Int) (x1 : Int) (H : Heap) (R : Value → Heap → Prop) :
    (
 nwH H (.cells true 0 [(.int .i64 x0_0), (.int .i64 x0_1)]) fun i1 H2 =>
 ∃ n3, H2.cell i1 0 = some (.int .i64 n3) ∧
 bif (decide (x1 < n3)) then (
 R (.bool true) H2)
 else (
 ∃ n4, H2.cell i1 1 = some (.int .i64 n4) ∧
 R (.bool (decide (x1 > n4))) H2)) →
    CA en F.insn_bounds_out [(.agg #[(.int .i64 x0_0), (.int .i64 x0_1)]), (.int .i64 x1)] H R := by
  intro h
  refine wpFn_ok (Z := []) (fn := Go.Proofs.Tryd.f56) ?_ ?_ ?_
  · kernel_rfl
  · kernel_rfl
  · apply turnInto h
    kernel_rfl


/-! insn_Class -/

theorem vc_insn_Class (x0 : Int) (H : Heap) (R : Value → Heap → Prop) :
    (
 R (.int .i64 (IntKind.i64.wrap ((BitVec.ofInt 64 x0 &&& (BitVec.ofInt 64 7)).toNat : Int))) H) →
    CA en F.insn_Class [(.int .i64 x0)] H R := by
  intro h
  refine wpFn_ok (Z := []) (fn := Go.Proofs.Tryd.f57) ?_ ?_ ?_
  · kernel_rfl
  · kernel_rfl
  · apply turnInto h
    kernel_rfl


/-! insn_number -/

theorem vc_insn_number (x0 : Option Addr) (x0l : Nat) (x1 : Int) (x2 : Int) (H : Heap) (R : Value → Heap → Prop) :
    (
 CA en F.word_Get [(.slice x0 x0l 0), (.int .i64 x1), (.int .i64 x2)] H fun v1 H2 =>
 ∃ n3, ∃ b4, v1 = (.tuple #[(.int .u64 n3), (.bool b4)]) ∧
 nn (IntKind.i64.wrap (64 - (IntKind.i64.wrap (8 * x2)))) ∧
 nn (IntKind.i64.wrap (64 - (IntKind.i64.wrap (8 * x2)))) ∧
 R (.int .i64 (Int.fdiv (IntKind.i64.wrap (IntKind.u64.wrap (n3 * 2 ^ (min (IntKind.i64.wrap (64 - (IntKind.i64.wrap (8 * x2)))).toNat 64)))) (2 ^ (min (IntKind.i64.wrap (64 - (IntKind.i64.wrap (8 * x2)))).toNat 64)))) H2) →
    CA en F.insn_number [(.slice x0 x0l 0), (.int .i64 x1), (.int .i64 x2)] H R := by
  intro h
  refine wpFn_ok (Z := []) (fn := Go.Proofs.Tryd.f75) ?_ ?_ ?_
  · kernel_rfl
  · kernel_rfl
  · apply turnInto h
    kernel_rfl


/-! insn_alus -/
noncomputable def L_insn_alus_0 : Code := loopAt Go.Proofs.Tryd.f78 0
noncomputable def L_insn_alus_1 : Code := loopAt Go.Proofs.Tryd.f78 1

theorem vc_insn_alus (x0 : Option Nat) (H : Heap) (R : Value → Heap → Prop) :
    (
 nwH H (.cells true 1 [(.int .i64 4), (.int .i64 7)]) fun i1 H2 =>
 LA en L_insn_alus_0 [(.map x0), undef, undef, undef, undef, undef, undef, undef, (.slice (some ⟨i1, 0, none⟩) 2 0), (.int .i64 2), (.int .i64 0), undef, undef, undef, undef, undef, undef, undef, undef, undef, undef, undef, undef, undef, undef, undef, undef, undef, undef, undef, undef, undef, undef, undef, undef, undef, undef, undef, undef, undef, undef, undef, undef, undef, undef, undef, undef, undef, undef, undef, undef, undef, undef, undef, undef, undef, undef, undef, undef, undef, undef, undef, undef, undef, undef, undef, undef] H2 [(X.exit 0, fun (y3 : Fr) (H4 : Heap) =>
 ∃ n5, ∃ n6, H4.cellsAt 0 0 2 = some [(.int .i64 n5), (.int .i64 n6)] ∧
 nwH H4 (.cells true 1 [(.int .i64 212), (.int .i64 220)]) fun i7 H8 =>
 CA en F.insn_rows [(.map x0), (.agg #[(.bool true), (.bool false), (.bool false), (.bool true), (.int .i64 n5), (.int .i64 n6), (.bool true), (.func (.func F.insn_alus_1) #[] #[])]), (.slice (some ⟨i7, 0, none⟩) 2 0)] H8 fun v9 H10 =>
 v9 = undef ∧
 R undef H10)]) →
    CA en F.insn_alus [(.map x0)] H R := by
  intro h
  refine wpFn_ok (Z := [[], []]) (fn := Go.Proofs.Tryd.f78) ?_ ?_ ?_
  · kernel_rfl
  · kernel_rfl
  · apply turnInto h
    kernel_rfl

theorem use_insn_alus_0 {t0 : Option Nat} {t8 : Nat} {K0 : Fr → Heap → Prop} {t10 : Int} {t3 : Value} {t4 : Value} {t5 : Value} {t6 : Value} {t11 : Value} {t12 : Value} {t13 : Value} {t14 : Value} {t15 : Value} {t16 : Value} {t17 : Value} {t18 : Value} {t19 : Value} {t20 : Value} {t21 : Value} {t22 : Value} {t23 : Value} {t24 : Value} {t25 : Value} {t26 : Value} {t27 : Value} {t28 : Value} {t29 : Value} {t30 : Value} {t31 : Value} {t32 : Value} {t33 : Value} {t34 : Value} {t35 : Value} {t36 : Value} {t37 : Value} {t38 : Value} {t39 : Value} {t40 : Value} {t41 : Value} {t42 : Value} {t43 : Value} {t44 : Value} {t45 : Value} {t46 : Value} {t47 : Value} {t48 : Value} {t49 : Value} {t50 : Value} {t51 : Value} {t52 : Value} {t53 : Value} {t54 : Value} {t55 : Value} {t56 : Value} {t57 : Value} {t58 : Value} {t59 : Value} {H : Heap} (I : Nat → Int → Heap → Prop) (n : Nat) (h0 : I n t10 H)
    (hstep : ∀ (n : Nat) (t10 : Int) (ys : Fr) (H : Heap), I n t10 H →
    (
 bif (decide (t10 < 2)) then (
 inB t10 2 ∧
 ∃ n1, H.cell t8 (0 + (t10.toNat * 1)) = some (.int .i64 n1) ∧
 bif (n1 == 7) then (
 LA en L_insn_alus_1 [(.map t0), undef, undef, (.int .i64 n1), (.int .i64 63), (.int .i64 0), (ys.getD 6 undef), undef, (.slice (some ⟨t8, 0, none⟩) 2 0), (.int .i64 2), (.int .i64 t10), (.bool true), (.pointer (some ⟨t8, (0 + (t10.toNat * 1)), none⟩)), (.int .i64 n1), (.int .i64 n1), (.bool true), (ys.getD 16 undef), (ys.getD 17 undef), (ys.getD 18 undef), (ys.getD 19 undef), (ys.getD 20 undef), (ys.getD 21 undef), (ys.getD 22 undef), (ys.getD 23 undef), (ys.getD 24 undef), (ys.getD 25 undef), (ys.getD 26 undef), (ys.getD 27 undef), (ys.getD 28 undef), (ys.getD 29 undef), (ys.getD 30 undef), (ys.getD 31 undef), (ys.getD 32 undef), (ys.getD 33 undef), (ys.getD 34 undef), (ys.getD 35 undef), (ys.getD 36 undef), (ys.getD 37 undef), (ys.getD 38 undef), (ys.getD 39 undef), (ys.getD 40 undef), (ys.getD 41 undef), (ys.getD 42 undef), (ys.getD 43 undef), (ys.getD 44 undef), (ys.getD 45 undef), (ys.getD 46 undef), (ys.getD 47 undef), (ys.getD 48 undef), (ys.getD 49 undef), (ys.getD 50 undef), (ys.getD 51 undef), (ys.getD 52 undef), (ys.getD 53 undef), (ys.getD 54 undef), (ys.getD 55 undef), (ys.getD 56 undef), (ys.getD 57 undef), (ys.getD 58 undef), (ys.getD 59 undef), undef, undef, undef, undef, undef, undef, undef] H [(X.exit 2, fun (y2 : Fr) (H3 : Heap) =>
 ∃ k4, k4 < n ∧
 I k4 (IntKind.i64.wrap (t10 + 1)) H3)])
 else (
 LA en L_insn_alus_1 [(.map t0), undef, undef, (.int .i64 n1), (.int .i64 31), (.int .i64 0), (ys.getD 6 undef), undef, (.slice (some ⟨t8, 0, none⟩) 2 0), (.int .i64 2), (.int .i64 t10), (.bool true), (.pointer (some ⟨t8, (0 + (t10.toNat * 1)), none⟩)), (.int .i64 n1), (.int .i64 n1), (.bool false), (ys.getD 16 undef), (ys.getD 17 undef), (ys.getD 18 undef), (ys.getD 19 undef), (ys.getD 20 undef), (ys.getD 21 undef), (ys.getD 22 undef), (ys.getD 23 undef), (ys.getD 24 undef), (ys.getD 25 undef), (ys.getD 26 undef), (ys.getD 27 undef), (ys.getD 28 undef), (ys.getD 29 undef), (ys.getD 30 undef), (ys.getD 31 undef), (ys.getD 32 undef), (ys.getD 33 undef), (ys.getD 34 undef), (ys.getD 35 undef), (ys.getD 36 undef), (ys.getD 37 undef), (ys.getD 38 undef), (ys.getD 39 undef), (ys.getD 40 undef), (ys.getD 41 undef), (ys.getD 42 undef), (ys.getD 43 undef), (ys.getD 44 undef), (ys.getD 45 undef), (ys.getD 46 undef), (ys.getD 47 undef), (ys.getD 48 undef), (ys.getD 49 undef), (ys.getD 50 undef), (ys.getD 51 undef), (ys.getD 52 undef), (ys.getD 53 undef), (ys.getD 54 undef), (ys.getD 55 undef), (ys.getD 56 undef), (ys.getD 57 undef), (ys.getD 58 undef), (ys.getD 59 undef), undef, undef, undef, undef, undef, undef, undef] H [(X.exit 2, fun (y5 : Fr) (H6 : Heap) =>
 ∃ k7, k7 < n ∧
 I k7 (IntKind.i64.wrap (t10 + 1)) H6)]))
 else (
 K0 [(.map t0), undef, undef, (ys.getD 3 undef), (ys.getD 4 undef), (ys.getD 5 undef), (ys.getD 6 undef), undef, (.slice (some ⟨t8, 0, none⟩) 2 0), (.int .i64 2), (.int .i64 t10), (.bool false), (ys.getD 12 undef), (ys.getD 13 undef), (ys.getD 14 undef), (ys.getD 15 undef), (ys.getD 16 undef), (ys.getD 17 undef), (ys.getD 18 undef), (ys.getD 19 undef), (ys.getD 20 undef), (ys.getD 21 undef), (ys.getD 22 undef), (ys.getD 23 undef), (ys.getD 24 undef), (ys.getD 25 undef), (ys.getD 26 undef), (ys.getD 27 undef), (ys.getD 28 undef), (ys.getD 29 undef), (ys.getD 30 undef), (ys.getD 31 undef), (ys.getD 32 undef), (ys.getD 33 undef), (ys.getD 34 undef), (ys.getD 35 undef), (ys.getD 36 undef), (ys.getD 37 undef), (ys.getD 38 undef), (ys.getD 39 undef), (ys.getD 40 undef), (ys.getD 41 undef), (ys.getD 42 undef), (ys.getD 43 undef), (ys.getD 44 undef), (ys.getD 45 undef), (ys.getD 46 undef), (ys.getD 47 undef), (ys.getD 48 undef), (ys.getD 49 undef), (ys.getD 50 undef), (ys.getD 51 undef), (ys.getD 52 undef), (ys.getD 53 undef), (ys.getD 54 undef), (ys.getD 55 undef), (ys.getD 56 undef), (ys.getD 57 undef), (ys.getD 58 undef), (ys.getD 59 undef), undef, undef, undef, undef, undef, undef, undef] H))) :
    LA en L_insn_alus_0 [(.map t0), undef, undef, t3, t4, t5, t6, undef, (.slice (some ⟨t8, 0, none⟩) 2 0), (.int .i64 2), (.int .i64 t10), t11, t12, t13, t14, t15, t16, t17, t18, t19, t20, t21, t22, t23, t24, t25, t26, t27, t28, t29, t30, t31, t32, t33, t34, t35, t36, t37, t38, t39, t40, t41, t42, t43, t44, t45, t46, t47, t48, t49, t50, t51, t52, t53, t54, t55, t56, t57, t58, t59, undef, undef, undef, undef, undef, undef, undef] H [(X.exit 0, K0)] := by
  refine LA_rule (Z := [[]]) (fun m xs H' => AS.asInt .i64 (xs.getD 10 undef) fun t10 => I m t10 H') ?_ n H ?_
  · intro n H
    suffices hs : ∀ s11 : Value, ∀ s12 : Value, ∀ s13 : Value, ∀ s3 : Value, ∀ s4 : Value, ∀ s14 : Value, ∀ s15 : Value, ∀ s5 : Value, ∀ s16 : Value, ∀ s17 : Value, ∀ s20 : Value, ∀ s21 : Value, ∀ s22 : Value, ∀ s6 : Value, ∀ s23 : Value, ∀ s25 : Value, ∀ s24 : Value, ∀ s26 : Value, ∀ s27 : Value, ∀ s28 : Value, ∀ s29 : Value, ∀ s30 : Value, ∀ s31 : Value, ∀ s32 : Value, ∀ s33 : Value, ∀ s34 : Value, ∀ s36 : Value, ∀ s35 : Value, ∀ s37 : Value, ∀ s38 : Value, ∀ s39 : Value, ∀ s40 : Value, ∀ s41 : Value, ∀ s42 : Value, ∀ s43 : Value, ∀ s44 : Value, ∀ s45 : Value, ∀ s46 : Value, ∀ s47 : Value, ∀ s48 : Value, ∀ s49 : Value, ∀ s50 : Value, ∀ s51 : Value, ∀ s52 : Value, ∀ s53 : Value, ∀ s54 : Value, ∀ s55 : Value, ∀ s56 : Value, ∀ s57 : Value, ∀ s58 : Value, ∀ s18 : Value, ∀ s19 : Value, ∀ s59 : Value, ∀ s10 : Value, ((AS.asInt .i64 s10 fun t10 => I n t10 H) → wpCode en L_insn_alus_0 [[]] [(.map t0), undef, undef, s3, s4, s5, s6, undef, (.slice (some ⟨t8, 0, none⟩) 2 0), (.int .i64 2), s10, s11, s12, s13, s14, s15, s16, s17, s18, s19, s20, s21, s22, s23, s24, s25, s26, s27, s28, s29, s30, s31, s32, s33, s34, s35, s36, s37, s38, s39, s40, s41, s42, s43, s44, s45, s46, s47, s48, s49, s50, s51, s52, s53, s54, s55, s56, s57, s58, s59, undef, undef, undef, undef, undef, undef, undef] H (loopQ (fun m xs H' => AS.asInt .i64 (xs.getD 10 undef) fun t10 => I m t10 H') n [(X.exit 0, K0)])) by
      apply turnInto hs
      kernel_rfl
    intro s11 s12 s13 s3 s4 s14 s15 s5 s16 s17 s20 s21 s22 s6 s23 s25 s24 s26 s27 s28 s29 s30 s31 s32 s33 s34 s36 s35 s37 s38 s39 s40 s41 s42 s43 s44 s45 s46 s47 s48 s49 s50 s51 s52 s53 s54 s55 s56 s57 s58 s18 s19 s59 s10 hP
    replace hP := asInt_elim hP
    obtain ⟨t10, rfl, hP⟩ := hP
    apply turnInto (hstep n t10 [(.map t0), undef, undef, s3, s4, s5, s6, undef, (.slice (some ⟨t8, 0, none⟩) 2 0), (.int .i64 2), (.int .i64 t10), s11, s12, s13, s14, s15, s16, s17, s18, s19, s20, s21, s22, s23, s24, s25, s26, s27, s28, s29, s30, s31, s32, s33, s34, s35, s36, s37, s38, s39, s40, s41, s42, s43, s44, s45, s46, s47, s48, s49, s50, s51, s52, s53, s54, s55, s56, s57, s58, s59, undef, undef, undef, undef, undef, undef, undef] H hP)
    kernel_rfl
  · apply turnInto h0
    kernel_rfl

theorem use_insn_alus_1 {t0 : Option Nat} {t3 : Int} {t4 : Int} {t8 : Nat} {t10 : Int} {t12 : Nat} {t12o : Nat} {t13 : Int} {t14 : Int} {t15 : Bool} {t59 : Value} {K0 : Fr → Heap → Prop} {t5 : Int} {t6 : Value} {t16 : Value} {t17 : Value} {t18 : Value} {t19 : Value} {t20 : Value} {t21 : Value} {t22 : Value} {t23 : Value} {t24 : Value} {t25 : Value} {t26 : Value} {t27 : Value} {t28 : Value} {t29 : Value} {t30 : Value} {t31 : Value} {t32 : Value} {t33 : Value} {t34 : Value} {t35 : Value} {t36 : Value} {t37 : Value} {t38 : Value} {t39 : Value} {t40 : Value} {t41 : Value} {t42 : Value} {t43 : Value} {t44 : Value} {t45 : Value} {t46 : Value} {t47 : Value} {t48 : Value} {t49 : Value} {t50 : Value} {t51 : Value} {t52 : Value} {t53 : Value} {t54 : Value} {t55 : Value} {t56 : Value} {t57 : Value} {t58 : Value} {H : Heap} (I : Nat → Int → Heap → Prop) (n : Nat) (h0 : I n t5 H)
    (hstep : ∀ (n : Nat) (t5 : Int) (ys : Fr) (H : Heap), I n t5 H →
    (
 bif (decide (t5 ≤ 192)) then (
 ∃ n1, ∃ n2, H.cellsAt 0 0 2 = some [(.int .i64 n1), (.int .i64 n2)] ∧
 nwH H (.cells true 0 [(.bool false), (.bool false), (.bool false), (.bool false), (.int .i64 0), (.int .i64 0), (.bool false), .nilFunc]) fun i3 H4 =>
 stc H4 i3 0 [(.bool true), (.bool false), (.bool false), (.bool true), (.int .i64 n1), (.int .i64 n2), (.bool true), .nilFunc] fun H5 =>
 bif (t5 == 128) then (
 ∃ n6, ∃ n7, H5.cellsAt 0 0 2 = some [(.int .i64 n6), (.int .i64 n7)] ∧
 nwH H5 (.cells true 1 [(.int .i64 (IntKind.i64.wrap ((BitVec.ofInt 64 t5 ||| (BitVec.ofInt 64 t3)).toNat : Int)))]) fun i8 H9 =>
 CA en F.insn_rows [(.map t0), (.agg #[(.bool true), (.bool false), (.bool false), (.bool false), (.int .i64 n6), (.int .i64 n7), (.bool true), .nilFunc]), (.slice (some ⟨i8, 0, none⟩) 1 0)] H9 fun v10 H11 =>
 v10 = undef ∧
 ∃ k12, k12 < n ∧
 I k12 (IntKind.i64.wrap (t5 + 16)) H11)
 else (
 bif (t5 == 96) then (
 stc H5 i3 4 [(.int .i64 0), (.int .i64 t4)] fun H13 =>
 ∃ b14, ∃ b15, ∃ b16, ∃ b17, ∃ n18, ∃ n19, ∃ b20, (
 H13.cellsAt i3 0 8 = some [(.bool b14), (.bool b15), (.bool b16), (.bool b17), (.int .i64 n18), (.int .i64 n19), (.bool b20), .nilFunc] ∧
 nwH H13 (.cells true 1 [(.int .i64 (IntKind.i64.wrap ((BitVec.ofInt 64 t5 ||| (BitVec.ofInt 64 t3)).toNat : Int)))]) fun i22 H23 =>
 CA en F.insn_rows [(.map t0), (.agg #[(.bool b14), (.bool b15), (.bool b16), (.bool b17), (.int .i64 n18), (.int .i64 n19), (.bool b20), .nilFunc]), (.slice (some ⟨i22, 0, none⟩) 1 0)] H23 fun v24 H25 =>
 v24 = undef ∧
 ∃ n26, ∃ n27, H25.cellsAt 0 0 2 = some [(.int .i64 n26), (.int .i64 n27)] ∧
 nwH H25 (.cells true 1 [(.int .i64 (IntKind.i64.wrap ((BitVec.ofInt 64 (IntKind.i64.wrap ((BitVec.ofInt 64 t5 ||| (BitVec.ofInt 64 8)).toNat : Int)) ||| (BitVec.ofInt 64 t3)).toNat : Int)))]) fun i28 H29 =>
 CA en F.insn_rows [(.map t0), (.agg #[(.bool true), (.bool true), (.bool false), (.bool false), (.int .i64 n26), (.int .i64 n27), (.bool true), .nilFunc]), (.slice (some ⟨i28, 0, none⟩) 1 0)] H29 fun v30 H31 =>
 v30 = undef ∧
 ∃ k32, k32 < n ∧
 I k32 (IntKind.i64.wrap (t5 + 16)) H31) ∨
 (∃ f21, H13.cellsAt i3 0 8 = some [(.bool b14), (.bool b15), (.bool b16), (.bool b17), (.int .i64 n18), (.int .i64 n19), (.bool b20), (.func (.func f21) #[] #[])] ∧
 nwH H13 (.cells true 1 [(.int .i64 (IntKind.i64.wrap ((BitVec.ofInt 64 t5 ||| (BitVec.ofInt 64 t3)).toNat : Int)))]) fun i33 H34 =>
 CA en F.insn_rows [(.map t0), (.agg #[(.bool b14), (.bool b15), (.bool b16), (.bool b17), (.int .i64 n18), (.int .i64 n19), (.bool b20), (.func (.func f21) #[] #[])]), (.slice (some ⟨i33, 0, none⟩) 1 0)] H34 fun v35 H36 =>
 v35 = undef ∧
 ∃ n37, ∃ n38, H36.cellsAt 0 0 2 = some [(.int .i64 n37), (.int .i64 n38)] ∧
 nwH H36 (.cells true 1 [(.int .i64 (IntKind.i64.wrap ((BitVec.ofInt 64 (IntKind.i64.wrap ((BitVec.ofInt 64 t5 ||| (BitVec.ofInt 64 8)).toNat : Int)) ||| (BitVec.ofInt 64 t3)).toNat : Int)))]) fun i39 H40 =>
 CA en F.insn_rows [(.map t0), (.agg #[(.bool true), (.bool true), (.bool false), (.bool false), (.int .i64 n37), (.int .i64 n38), (.bool true), .nilFunc]), (.slice (some ⟨i39, 0, none⟩) 1 0)] H40 fun v41 H42 =>
 v41 = undef ∧
 ∃ k43, k43 < n ∧
 I k43 (IntKind.i64.wrap (t5 + 16)) H42))
 else (
 bif (t5 == 112) then (
 stc H5 i3 4 [(.int .i64 0), (.int .i64 t4)] fun H44 =>
 ∃ b45, ∃ b46, ∃ b47, ∃ b48, ∃ n49, ∃ n50, ∃ b51, (
 H44.cellsAt i3 0 8 = some [(.bool b45), (.bool b46), (.bool b47), (.bool b48), (.int .i64 n49), (.int .i64 n50), (.bool b51), .nilFunc] ∧
 nwH H44 (.cells true 1 [(.int .i64 (IntKind.i64.wrap ((BitVec.ofInt 64 t5 ||| (BitVec.ofInt 64 t3)).toNat : Int)))]) fun i53 H54 =>
 CA en F.insn_rows [(.map t0), (.agg #[(.bool b45), (.bool b46), (.bool b47), (.bool b48), (.int .i64 n49), (.int .i64 n50), (.bool b51), .nilFunc]), (.slice (some ⟨i53, 0, none⟩) 1 0)] H54 fun v55 H56 =>
 v55 = undef ∧
 ∃ n57, ∃ n58, H56.cellsAt 0 0 2 = some [(.int .i64 n57), (.int .i64 n58)] ∧
 nwH H56 (.cells true 1 [(.int .i64 (IntKind.i64.wrap ((BitVec.ofInt 64 (IntKind.i64.wrap ((BitVec.ofInt 64 t5 ||| (BitVec.ofInt 64 8)).toNat : Int)) ||| (BitVec.ofInt 64 t3)).toNat : Int)))]) fun i59 H60 =>
 CA en F.insn_rows [(.map t0), (.agg #[(.bool true), (.bool true), (.bool false), (.bool false), (.int .i64 n57), (.int .i64 n58), (.bool true), .nilFunc]), (.slice (some ⟨i59, 0, none⟩) 1 0)] H60 fun v61 H62 =>
 v61 = undef ∧
 ∃ k63, k63 < n ∧
 I k63 (IntKind.i64.wrap (t5 + 16)) H62) ∨
 (∃ f52, H44.cellsAt i3 0 8 = some [(.bool b45), (.bool b46), (.bool b47), (.bool b48), (.int .i64 n49), (.int .i64 n50), (.bool b51), (.func (.func f52) #[] #[])] ∧
 nwH H44 (.cells true 1 [(.int .i64 (IntKind.i64.wrap ((BitVec.ofInt 64 t5 ||| (BitVec.ofInt 64 t3)).toNat : Int)))]) fun i64 H65 =>
 CA en F.insn_rows [(.map t0), (.agg #[(.bool b45), (.bool b46), (.bool b47), (.bool b48), (.int .i64 n49), (.int .i64 n50), (.bool b51), (.func (.func f52) #[] #[])]), (.slice (some ⟨i64, 0, none⟩) 1 0)] H65 fun v66 H67 =>
 v66 = undef ∧
 ∃ n68, ∃ n69, H67.cellsAt 0 0 2 = some [(.int .i64 n68), (.int .i64 n69)] ∧
 nwH H67 (.cells true 1 [(.int .i64 (IntKind.i64.wrap ((BitVec.ofInt 64 (IntKind.i64.wrap ((BitVec.ofInt 64 t5 ||| (BitVec.ofInt 64 8)).toNat : Int)) ||| (BitVec.ofInt 64 t3)).toNat : Int)))]) fun i70 H71 =>
 CA en F.insn_rows [(.map t0), (.agg #[(.bool true), (.bool true), (.bool false), (.bool false), (.int .i64 n68), (.int .i64 n69), (.bool true), .nilFunc]), (.slice (some ⟨i70, 0, none⟩) 1 0)] H71 fun v72 H73 =>
 v72 = undef ∧
 ∃ k74, k74 < n ∧
 I k74 (IntKind.i64.wrap (t5 + 16)) H73))
 else (
 bif (t5 == 192) then (
 stc H5 i3 4 [(.int .i64 0), (.int .i64 t4)] fun H75 =>
 ∃ b76, ∃ b77, ∃ b78, ∃ b79, ∃ n80, ∃ n81, ∃ b82, (
 H75.cellsAt i3 0 8 = some [(.bool b76), (.bool b77), (.bool b78), (.bool b79), (.int .i64 n80), (.int .i64 n81), (.bool b82), .nilFunc] ∧
 nwH H75 (.cells true 1 [(.int .i64 (IntKind.i64.wrap ((BitVec.ofInt 64 t5 ||| (BitVec.ofInt 64 t3)).toNat : Int)))]) fun i84 H85 =>
 CA en F.insn_rows [(.map t0), (.agg #[(.bool b76), (.bool b77), (.bool b78), (.bool b79), (.int .i64 n80), (.int .i64 n81), (.bool b82), .nilFunc]), (.slice (some ⟨i84, 0, none⟩) 1 0)] H85 fun v86 H87 =>
 v86 = undef ∧
 ∃ n88, ∃ n89, H87.cellsAt 0 0 2 = some [(.int .i64 n88), (.int .i64 n89)] ∧
 nwH H87 (.cells true 1 [(.int .i64 (IntKind.i64.wrap ((BitVec.ofInt 64 (IntKind.i64.wrap ((BitVec.ofInt 64 t5 ||| (BitVec.ofInt 64 8)).toNat : Int)) ||| (BitVec.ofInt 64 t3)).toNat : Int)))]) fun i90 H91 =>
 CA en F.insn_rows [(.map t0), (.agg #[(.bool true), (.bool true), (.bool false), (.bool false), (.int .i64 n88), (.int .i64 n89), (.bool true), .nilFunc]), (.slice (some ⟨i90, 0, none⟩) 1 0)] H91 fun v92 H93 =>
 v92 = undef ∧
 ∃ k94, k94 < n ∧
 I k94 (IntKind.i64.wrap (t5 + 16)) H93) ∨
 (∃ f83, H75.cellsAt i3 0 8 = some [(.bool b76), (.bool b77), (.bool b78), (.bool b79), (.int .i64 n80), (.int .i64 n81), (.bool b82), (.func (.func f83) #[] #[])] ∧
 nwH H75 (.cells true 1 [(.int .i64 (IntKind.i64.wrap ((BitVec.ofInt 64 t5 ||| (BitVec.ofInt 64 t3)).toNat : Int)))]) fun i95 H96 =>
 CA en F.insn_rows [(.map t0), (.agg #[(.bool b76), (.bool b77), (.bool b78), (.bool b79), (.int .i64 n80), (.int .i64 n81), (.bool b82), (.func (.func f83) #[] #[])]), (.slice (some ⟨i95, 0, none⟩) 1 0)] H96 fun v97 H98 =>
 v97 = undef ∧
 ∃ n99, ∃ n100, H98.cellsAt 0 0 2 = some [(.int .i64 n99), (.int .i64 n100)] ∧
 nwH H98 (.cells true 1 [(.int .i64 (IntKind.i64.wrap ((BitVec.ofInt 64 (IntKind.i64.wrap ((BitVec.ofInt 64 t5 ||| (BitVec.ofInt 64 8)).toNat : Int)) ||| (BitVec.ofInt 64 t3)).toNat : Int)))]) fun i101 H102 =>
 CA en F.insn_rows [(.map t0), (.agg #[(.bool true), (.bool true), (.bool false), (.bool false), (.int .i64 n99), (.int .i64 n100), (.bool true), .nilFunc]), (.slice (some ⟨i101, 0, none⟩) 1 0)] H102 fun v103 H104 =>
 v103 = undef ∧
 ∃ k105, k105 < n ∧
 I k105 (IntKind.i64.wrap (t5 + 16)) H104))
 else (
 ∃ b106, ∃ b107, ∃ b108, ∃ b109, ∃ n110, ∃ n111, ∃ b112, (
 H5.cellsAt i3 0 8 = some [(.bool b106), (.bool b107), (.bool b108), (.bool b109), (.int .i64 n110), (.int .i64 n111), (.bool b112), .nilFunc] ∧
 nwH H5 (.cells true 1 [(.int .i64 (IntKind.i64.wrap ((BitVec.ofInt 64 t5 ||| (BitVec.ofInt 64 t3)).toNat : Int)))]) fun i114 H115 =>
 CA en F.insn_rows [(.map t0), (.agg #[(.bool b106), (.bool b107), (.bool b108), (.bool b109), (.int .i64 n110), (.int .i64 n111), (.bool b112), .nilFunc]), (.slice (some ⟨i114, 0, none⟩) 1 0)] H115 fun v116 H117 =>
 v116 = undef ∧
 ∃ n118, ∃ n119, H117.cellsAt 0 0 2 = some [(.int .i64 n118), (.int .i64 n119)] ∧
 nwH H117 (.cells true 1 [(.int .i64 (IntKind.i64.wrap ((BitVec.ofInt 64 (IntKind.i64.wrap ((BitVec.ofInt 64 t5 ||| (BitVec.ofInt 64 8)).toNat : Int)) ||| (BitVec.ofInt 64 t3)).toNat : Int)))]) fun i120 H121 =>
 CA en F.insn_rows [(.map t0), (.agg #[(.bool true), (.bool true), (.bool false), (.bool false), (.int .i64 n118), (.int .i64 n119), (.bool true), .nilFunc]), (.slice (some ⟨i120, 0, none⟩) 1 0)] H121 fun v122 H123 =>
 v122 = undef ∧
 ∃ k124, k124 < n ∧
 I k124 (IntKind.i64.wrap (t5 + 16)) H123) ∨
 (∃ f113, H5.cellsAt i3 0 8 = some [(.bool b106), (.bool b107), (.bool b108), (.bool b109), (.int .i64 n110), (.int .i64 n111), (.bool b112), (.func (.func f113) #[] #[])] ∧
 nwH H5 (.cells true 1 [(.int .i64 (IntKind.i64.wrap ((BitVec.ofInt 64 t5 ||| (BitVec.ofInt 64 t3)).toNat : Int)))]) fun i125 H126 =>
 CA en F.insn_rows [(.map t0), (.agg #[(.bool b106), (.bool b107), (.bool b108), (.bool b109), (.int .i64 n110), (.int .i64 n111), (.bool b112), (.func (.func f113) #[] #[])]), (.slice (some ⟨i125, 0, none⟩) 1 0)] H126 fun v127 H128 =>
 v127 = undef ∧
 ∃ n129, ∃ n130, H128.cellsAt 0 0 2 = some [(.int .i64 n129), (.int .i64 n130)] ∧
 nwH H128 (.cells true 1 [(.int .i64 (IntKind.i64.wrap ((BitVec.ofInt 64 (IntKind.i64.wrap ((BitVec.ofInt 64 t5 ||| (BitVec.ofInt 64 8)).toNat : Int)) ||| (BitVec.ofInt 64 t3)).toNat : Int)))]) fun i131 H132 =>
 CA en F.insn_rows [(.map t0), (.agg #[(.bool true), (.bool true), (.bool false), (.bool false), (.int .i64 n129), (.int .i64 n130), (.bool true), .nilFunc]), (.slice (some ⟨i131, 0, none⟩) 1 0)] H132 fun v133 H134 =>
 v133 = undef ∧
 ∃ k135, k135 < n ∧
 I k135 (IntKind.i64.wrap (t5 + 16)) H134))))))
 else (
 K0 [(.map t0), undef, undef, (.int .i64 t3), (.int .i64 t4), (.int .i64 t5), (ys.getD 6 undef), undef, (.slice (some ⟨t8, 0, none⟩) 2 0), (.int .i64 2), (.int .i64 t10), (.bool true), (.pointer (some ⟨t12, t12o, none⟩)), (.int .i64 t13), (.int .i64 t14), (.bool t15), (.int .i64 t5), (.bool false), (ys.getD 18 undef), (ys.getD 19 undef), (ys.getD 20 undef), (ys.getD 21 undef), (ys.getD 22 undef), (ys.getD 23 undef), (ys.getD 24 undef), (ys.getD 25 undef), (ys.getD 26 undef), (ys.getD 27 undef), (ys.getD 28 undef), (ys.getD 29 undef), (ys.getD 30 undef), (ys.getD 31 undef), (ys.getD 32 undef), (ys.getD 33 undef), (ys.getD 34 undef), (ys.getD 35 undef), (ys.getD 36 undef), (ys.getD 37 undef), (ys.getD 38 undef), (ys.getD 39 undef), (ys.getD 40 undef), (ys.getD 41 undef), (ys.getD 42 undef), (ys.getD 43 undef), (ys.getD 44 undef), (ys.getD 45 undef), (ys.getD 46 undef), (ys.getD 47 undef), (ys.getD 48 undef), (ys.getD 49 undef), (ys.getD 50 undef), (ys.getD 51 undef), (ys.getD 52 undef), (ys.getD 53 undef), (ys.getD 54 undef), (ys.getD 55 undef), (ys.getD 56 undef), (ys.getD 57 undef), (ys.getD 58 undef), t59, undef, undef, undef, undef, undef, undef, undef] H))) :
    LA en L_insn_alus_1 [(.map t0), undef, undef, (.int .i64 t3), (.int .i64 t4), (.int .i64 t5), t6, undef, (.slice (some ⟨t8, 0, none⟩) 2 0), (.int .i64 2), (.int .i64 t10), (.bool true), (.pointer (some ⟨t12, t12o, none⟩)), (.int .i64 t13), (.int .i64 t14), (.bool t15), t16, t17, t18, t19, t20, t21, t22, t23, t24, t25, t26, t27, t28, t29, t30, t31, t32, t33, t34, t35, t36, t37, t38, t39, t40, t41, t42, t43, t44, t45, t46, t47, t48, t49, t50, t51, t52, t53, t54, t55, t56, t57, t58, t59, undef, undef, undef, undef, undef, undef, undef] H [(X.exit 2, K0)] := by
  refine LA_rule (Z := []) (fun m xs H' => AS.asInt .i64 (xs.getD 5 undef) fun t5 => I m t5 H') ?_ n H ?_
  · intro n H
    suffices hs : ∀ s16 : Value, ∀ s17 : Value, ∀ s20 : Value, ∀ s21 : Value, ∀ s22 : Value, ∀ s6 : Value, ∀ s23 : Value, ∀ s25 : Value, ∀ s24 : Value, ∀ s26 : Value, ∀ s27 : Value, ∀ s28 : Value, ∀ s29 : Value, ∀ s30 : Value, ∀ s31 : Value, ∀ s32 : Value, ∀ s33 : Value, ∀ s34 : Value, ∀ s36 : Value, ∀ s35 : Value, ∀ s37 : Value, ∀ s38 : Value, ∀ s39 : Value, ∀ s40 : Value, ∀ s41 : Value, ∀ s42 : Value, ∀ s43 : Value, ∀ s44 : Value, ∀ s45 : Value, ∀ s46 : Value, ∀ s47 : Value, ∀ s48 : Value, ∀ s49 : Value, ∀ s50 : Value, ∀ s51 : Value, ∀ s52 : Value, ∀ s53 : Value, ∀ s54 : Value, ∀ s55 : Value, ∀ s56 : Value, ∀ s57 : Value, ∀ s58 : Value, ∀ s18 : Value, ∀ s19 : Value, ∀ s5 : Value, ((AS.asInt .i64 s5 fun t5 => I n t5 H) → wpCode en L_insn_alus_1 [] [(.map t0), undef, undef, (.int .i64 t3), (.int .i64 t4), s5, s6, undef, (.slice (some ⟨t8, 0, none⟩) 2 0), (.int .i64 2), (.int .i64 t10), (.bool true), (.pointer (some ⟨t12, t12o, none⟩)), (.int .i64 t13), (.int .i64 t14), (.bool t15), s16, s17, s18, s19, s20, s21, s22, s23, s24, s25, s26, s27, s28, s29, s30, s31, s32, s33, s34, s35, s36, s37, s38, s39, s40, s41, s42, s43, s44, s45, s46, s47, s48, s49, s50, s51, s52, s53, s54, s55, s56, s57, s58, t59, undef, undef, undef, undef, undef, undef, undef] H (loopQ (fun m xs H' => AS.asInt .i64 (xs.getD 5 undef) fun t5 => I m t5 H') n [(X.exit 2, K0)])) by
      apply turnInto hs
      kernel_rfl
    intro s16 s17 s20 s21 s22 s6 s23 s25 s24 s26 s27 s28 s29 s30 s31 s32 s33 s34 s36 s35 s37 s38 s39 s40 s41 s42 s43 s44 s45 s46 s47 s48 s49 s50 s51 s52 s53 s54 s55 s56 s57 s58 s18 s19 s5 hP
    replace hP := asInt_elim hP
    obtain ⟨t5, rfl, hP⟩ := hP
    apply turnInto (hstep n t5 [(.map t0), undef, undef, (.int .i64 t3), (.int .i64 t4), (.int .i64 t5), s6, undef, (.slice (some ⟨t8, 0, none⟩) 2 0), (.int .i64 2), (.int .i64 t10), (.bool true), (.pointer (some ⟨t12, t12o, none⟩)), (.int .i64 t13), (.int .i64 t14), (.bool t15), s16, s17, s18, s19, s20, s21, s22, s23, s24, s25, s26, s27, s28, s29, s30, s31, s32, s33, s34, s35, s36, s37, s38, s39, s40, s41, s42, s43, s44, s45, s46, s47, s48, s49, s50, s51, s52, s53, s54, s55, s56, s57, s58, t59, undef, undef, undef, undef, undef, undef, undef] H hP)
    kernel_rfl
  · apply turnInto h0
    kernel_rfl


/-! insn_rows -/
noncomputable def L_insn_rows_0 : Code := loopAt Go.Proofs.Tryd.f79 0

theorem vc_insn_rows (x0 : Option Nat) (x1_0 : Bool) (x1_1 : Bool) (x1_2 : Bool) (x1_3 : Bool) (x1_4 : Int) (x1_5 : Int) (x1_6 : Bool) (x1_7 : Value) (x2 : Option Addr) (x2l : Nat) (H : Heap) (R : Value → Heap → Prop) (hx1_7 : FnV x1_7) :
    (
 nwH H (.cells true 0 [(.bool x1_0), (.bool x1_1), (.bool x1_2), (.bool x1_3), (.int .i64 x1_4), (.int .i64 x1_5), (.bool x1_6), x1_7]) fun i1 H2 =>
 LA en L_insn_rows_0 [(.map x0), (.agg #[(.bool x1_0), (.bool x1_1), (.bool x1_2), (.bool x1_3), (.int .i64 x1_4), (.int .i64 x1_5), (.bool x1_6), x1_7]), (.slice x2 x2l 0), undef, (.pointer (some ⟨i1, 0, none⟩)), undef, undef, undef, (.slice x2 x2l 0), (.int .i64 ((x2l : Nat) : Int)), (.int .i64 0), undef, undef, undef, undef, undef, undef, undef] H2 [(X.exit 0, fun (y3 : Fr) (H4 : Heap) =>
 R undef H4)]) →
    CA en F.insn_rows [(.map x0), (.agg #[(.bool x1_0), (.bool x1_1), (.bool x1_2), (.bool x1_3), (.int .i64 x1_4), (.int .i64 x1_5), (.bool x1_6), x1_7]), (.slice x2 x2l 0)] H R := by
  intro h
  rcases hx1_7 with rfl | ⟨_, rfl⟩
  · refine wpFn_ok (Z := [[]]) (fn := Go.Proofs.Tryd.f79) ?_ ?_ ?_
    · kernel_rfl
    · kernel_rfl
    · apply turnInto h
      kernel_rfl
  
  · refine wpFn_ok (Z := [[]]) (fn := Go.Proofs.Tryd.f79) ?_ ?_ ?_
    · kernel_rfl
    · kernel_rfl
    · apply turnInto h
      kernel_rfl
  

theorem use_insn_rows_0 {t0 : Option Nat} {t1_0 : Bool} {t1_1 : Bool} {t1_2 : Bool} {t1_3 : Bool} {t1_4 : Int} {t1_5 : Int} {t1_6 : Bool} {t1_7 : Value} {t2 : Option Addr} {t2l : Nat} {t4 : Nat} {t8 : Option Addr} {t8l : Nat} {t9 : Int} {K0 : Fr → Heap → Prop} {t10 : Int} {t7 : Value} {t11 : Value} {t12 : Value} {t13 : Value} {t14 : Value} {t15 : Value} {t16 : Value} {t17 : Value} {H : Heap} (I : Nat → Int → Heap → Prop) (n : Nat) (h0 : I n t10 H)
    (hstep : ∀ (n : Nat) (t10 : Int) (ys : Fr) (H : Heap), I n t10 H →
    (
 bif (decide (t10 < t9)) then (
 inB t10 t8l ∧
 asRow t8 fun i1 i2 =>
 ∃ n3, H.cell i1 (i2 + (t10.toNat * 1)) = some (.int .i64 n3) ∧
 ∃ b4, ∃ b5, ∃ b6, ∃ b7, ∃ n8, ∃ n9, ∃ b10, (
 H.cellsAt t4 0 8 = some [(.bool b4), (.bool b5), (.bool b6), (.bool b7), (.int .i64 n8), (.int .i64 n9), (.bool b10), .nilFunc] ∧
 upM H (.int .i64) t0 (.int .i64 n3) (.agg #[(.bool b4), (.bool b5), (.bool b6), (.bool b7), (.int .i64 n8), (.int .i64 n9), (.bool b10), .nilFunc]) fun H12 =>
 ∃ k13, k13 < n ∧
 I k13 (IntKind.i64.wrap (t10 + 1)) H12) ∨
 (∃ f11, H.cellsAt t4 0 8 = some [(.bool b4), (.bool b5), (.bool b6), (.bool b7), (.int .i64 n8), (.int .i64 n9), (.bool b10), (.func (.func f11) #[] #[])] ∧
 upM H (.int .i64) t0 (.int .i64 n3) (.agg #[(.bool b4), (.bool b5), (.bool b6), (.bool b7), (.int .i64 n8), (.int .i64 n9), (.bool b10), (.func (.func f11) #[] #[])]) fun H14 =>
 ∃ k15, k15 < n ∧
 I k15 (IntKind.i64.wrap (t10 + 1)) H14))
 else (
 K0 [(.map t0), (.agg #[(.bool t1_0), (.bool t1_1), (.bool t1_2), (.bool t1_3), (.int .i64 t1_4), (.int .i64 t1_5), (.bool t1_6), t1_7]), (.slice t2 t2l 0), undef, (.pointer (some ⟨t4, 0, none⟩)), undef, undef, (ys.getD 7 undef), (.slice t8 t8l 0), (.int .i64 t9), (.int .i64 t10), (.bool false), (ys.getD 12 undef), (ys.getD 13 undef), (ys.getD 14 undef), (ys.getD 15 undef), (ys.getD 16 undef), (ys.getD 17 undef)] H))) :
    LA en L_insn_rows_0 [(.map t0), (.agg #[(.bool t1_0), (.bool t1_1), (.bool t1_2), (.bool t1_3), (.int .i64 t1_4), (.int .i64 t1_5), (.bool t1_6), t1_7]), (.slice t2 t2l 0), undef, (.pointer (some ⟨t4, 0, none⟩)), undef, undef, t7, (.slice t8 t8l 0), (.int .i64 t9), (.int .i64 t10), t11, t12, t13, t14, t15, t16, t17] H [(X.exit 0, K0)] := by
  refine LA_rule (Z := []) (fun m xs H' => AS.asInt .i64 (xs.getD 10 undef) fun t10 => I m t10 H') ?_ n H ?_
  · intro n H
    suffices hs : ∀ s11 : Value, ∀ s12 : Value, ∀ s13 : Value, ∀ s7 : Value, ∀ s14 : Value, ∀ s15 : Value, ∀ s16 : Value, ∀ s17 : Value, ∀ s10 : Value, ((AS.asInt .i64 s10 fun t10 => I n t10 H) → wpCode en L_insn_rows_0 [] [(.map t0), (.agg #[(.bool t1_0), (.bool t1_1), (.bool t1_2), (.bool t1_3), (.int .i64 t1_4), (.int .i64 t1_5), (.bool t1_6), t1_7]), (.slice t2 t2l 0), undef, (.pointer (some ⟨t4, 0, none⟩)), undef, undef, s7, (.slice t8 t8l 0), (.int .i64 t9), s10, s11, s12, s13, s14, s15, s16, s17] H (loopQ (fun m xs H' => AS.asInt .i64 (xs.getD 10 undef) fun t10 => I m t10 H') n [(X.exit 0, K0)])) by
      apply turnInto hs
      kernel_rfl
    intro s11 s12 s13 s7 s14 s15 s16 s17 s10 hP
    replace hP := asInt_elim hP
    obtain ⟨t10, rfl, hP⟩ := hP
    apply turnInto (hstep n t10 [(.map t0), (.agg #[(.bool t1_0), (.bool t1_1), (.bool t1_2), (.bool t1_3), (.int .i64 t1_4), (.int .i64 t1_5), (.bool t1_6), t1_7]), (.slice t2 t2l 0), undef, (.pointer (some ⟨t4, 0, none⟩)), undef, undef, s7, (.slice t8 t8l 0), (.int .i64 t9), (.int .i64 t10), s11, s12, s13, s14, s15, s16, s17] H hP)
    kernel_rfl
  · apply turnInto h0
    kernel_rfl


/-! insn_table_1 -/

theorem vc_insn_table_1 (x0_0 : Int) (x0_1 : Int) (x0_2 : Int) (x0_3 : Int) (x0_4 : Int) (H : Heap) (R : Value → Heap → Prop) :
    (
 nwH H (.cells true 0 [(.int .i64 x0_0), (.int .i64 x0_1), (.int .i64 x0_2), (.int .i64 x0_3), (.int .i64 x0_4)]) fun i1 H2 =>
 ∃ n3, H2.cell i1 2 = some (.int .i64 n3) ∧
 bif (n3 == 0) then (
 R (.bool true) H2)
 else (
 ∃ n4, H2.cell i1 4 = some (.int .i64 n4) ∧
 bif (decide (n4 ≥ 0)) then (
 ∃ n5, H2.cell i1 4 = some (.int .i64 n5) ∧
 R (.bool (decide (n5 ≤ 2147483647))) H2)
 else (
 R (.bool false) H2))) →
    CA en F.insn_table_1 [(.agg #[(.int .i64 x0_0), (.int .i64 x0_1), (.int .i64 x0_2), (.int .i64 x0_3), (.int .i64 x0_4)])] H R := by
  intro h
  refine wpFn_ok (Z := []) (fn := Go.Proofs.Tryd.f80) ?_ ?_ ?_
  · kernel_rfl
  · kernel_rfl
  · apply turnInto h
    kernel_rfl


/-! insn_table_2 -/

theorem vc_insn_table_2 (x0_0 : Int) (x0_1 : Int) (x0_2 : Int) (x0_3 : Int) (x0_4 : Int) (H : Heap) (R : Value → Heap → Prop) :
    (
 nwH H (.cells true 0 [(.int .i64 x0_0), (.int .i64 x0_1), (.int .i64 x0_2), (.int .i64 x0_3), (.int .i64 x0_4)]) fun i1 H2 =>
 ∃ n3, H2.cell i1 4 = some (.int .i64 n3) ∧
 CA en F.insn_Atomic [(.int .i64 n3)] H2 fun v4 H5 =>
 ∃ b6, ∃ b7, v4 = (.tuple #[(.bool b6), (.bool b7)]) ∧
 R (.bool b6) H5) →
    CA en F.insn_table_2 [(.agg #[(.int .i64 x0_0), (.int .i64 x0_1), (.int .i64 x0_2), (.int .i64 x0_3), (.int .i64 x0_4)])] H R := by
  intro h
  refine wpFn_ok (Z := []) (fn := Go.Proofs.Tryd.f81) ?_ ?_ ?_
  · kernel_rfl
  · kernel_rfl
  · apply turnInto h
    kernel_rfl


/-! insn_Atomic -/

theorem vc_insn_Atomic (x0 : Int) (H : Heap) (R : Value → Heap → Prop) :
    (
 (∃ w1 c2, H.get 1 = some (.cells w1 0 c2)) ∧
 CA en F.slices_Contains_int_int [(.slice (some ⟨1, 0, none⟩) 10 0), (.int .i64 x0)] H fun v3 H4 =>
 ∃ b5, v3 = (.bool b5) ∧
 bif b5 then (
 R (.tuple #[(.bool b5), (.bool ((IntKind.i64.wrap ((BitVec.ofInt 64 x0 &&& (BitVec.ofInt 64 1)).toNat : Int)) == 1))]) H4)
 else (
 R (.tuple #[(.bool b5), (.bool false)]) H4)) →
    CA en F.insn_Atomic [(.int .i64 x0)] H R := by
  intro h
  refine wpFn_ok (Z := []) (fn := Go.Proofs.Tryd.f82) ?_ ?_ ?_
  · kernel_rfl
  · kernel_rfl
  · apply turnInto h
    kernel_rfl


/-! insn_register -/

theorem vc_insn_register (x0 : Int) (H : Heap) (R : Value → Heap → Prop) :
    (
 bif (decide (x0 ≥ 0)) then (
 R (.bool (decide (x0 ≤ 10))) H)
 else (
 R (.bool false) H)) →
    CA en F.insn_register [(.int .i64 x0)] H R := by
  intro h
  refine wpFn_ok (Z := []) (fn := Go.Proofs.Tryd.f83) ?_ ?_ ?_
  · kernel_rfl
  · kernel_rfl
  · apply turnInto h
    kernel_rfl


/-! insn_alus_1 -/

theorem vc_insn_alus_1 (x0_0 : Int) (x0_1 : Int) (x0_2 : Int) (x0_3 : Int) (x0_4 : Int) (H : Heap) (R : Value → Heap → Prop) :
    (
 nwH H (.cells true 0 [(.int .i64 x0_0), (.int .i64 x0_1), (.int .i64 x0_2), (.int .i64 x0_3), (.int .i64 x0_4)]) fun i1 H2 =>
 ∃ n3, H2.cell i1 4 = some (.int .i64 n3) ∧
 bif (n3 == 16) then (
 R (.bool true) H2)
 else (
 ∃ n4, H2.cell i1 4 = some (.int .i64 n4) ∧
 bif (n4 == 32) then (
 R (.bool true) H2)
 else (
 ∃ n5, H2.cell i1 4 = some (.int .i64 n5) ∧
 R (.bool (n5 == 64)) H2))) →
    CA en F.insn_alus_1 [(.agg #[(.int .i64 x0_0), (.int .i64 x0_1), (.int .i64 x0_2), (.int .i64 x0_3), (.int .i64 x0_4)])] H R := by
  intro h
  refine wpFn_ok (Z := []) (fn := Go.Proofs.Tryd.f91) ?_ ?_ ?_
  · kernel_rfl
  · kernel_rfl
  · apply turnInto h
    kernel_rfl


/-! slices_Contains_int_int -/

theorem vc_slices_Contains_int_int (x0 : Option Addr) (x0l : Nat) (x1 : Int) (H : Heap) (R : Value → Heap → Prop) :
    (
 CA en F.slices_Index_int_int [(.slice x0 x0l 0), (.int .i64 x1)] H fun v1 H2 =>
 ∃ n3, v1 = (.int .i64 n3) ∧
 R (.bool (decide (n3 ≥ 0))) H2) →
    CA en F.slices_Contains_int_int [(.slice x0 x0l 0), (.int .i64 x1)] H R := by
  intro h
  refine wpFn_ok (Z := []) (fn := Go.Proofs.Tryd.f63) ?_ ?_ ?_
  · kernel_rfl
  · kernel_rfl
  · apply turnInto h
    kernel_rfl


/-! slices_Index_int_int -/
noncomputable def L_slices_Index_int_int_0 : Code := loopAt Go.Proofs.Tryd.f85 0

theorem vc_slices_Index_int_int (x0 : Option Addr) (x0l : Nat) (x1 : Int) (H : Heap) (R : Value → Heap → Prop) :
    (
 LA en L_slices_Index_int_int_0 [(.slice x0 x0l 0), (.int .i64 x1), undef, undef, (.int .i64 0), undef, (.slice x0 x0l 0), (.int .i64 ((x0l : Nat) : Int)), (.int .i64 0), undef, undef, undef, undef, undef, undef, undef, undef, undef, undef] H [(X.exit 0, fun (y1 : Fr) (H2 : Heap) =>
 AS.asInt .i64 (y1.getD 4 undef) fun n3 =>
 R (.int .i64 (-1)) H2),
 (X.ret, fun (y4 : Fr) (H5 : Heap) =>
 AS.asInt .i64 (y4.getD 4 undef) fun n6 =>
 R (.int .i64 n6) H5)]) →
    CA en F.slices_Index_int_int [(.slice x0 x0l 0), (.int .i64 x1)] H R := by
  intro h
  refine wpFn_ok (Z := [[(4, (.int .i64 0))]]) (fn := Go.Proofs.Tryd.f85) ?_ ?_ ?_
  · kernel_rfl
  · kernel_rfl
  · apply turnInto h
    kernel_rfl

theorem use_slices_Index_int_int_0 {t0 : Option Addr} {t0l : Nat} {t1 : Int} {t6 : Option Addr} {t6l : Nat} {t7 : Int} {K0 : Fr → Heap → Prop} {K1 : Fr → Heap → Prop} {t4 : Int} {t8 : Int} {t5 : Value} {t9 : Value} {t10 : Value} {t11 : Value} {t12 : Value} {t13 : Value} {t14 : Value} {t15 : Value} {t16 : Value} {t17 : Value} {t18 : Value} {H : Heap} (I : Nat → Int → Int → Heap → Prop) (n : Nat) (h0 : I n t4 t8 H)
    (hstep : ∀ (n : Nat) (t4 : Int) (t8 : Int) (ys : Fr) (H : Heap), I n t4 t8 H →
    (
 bif (decide (t8 < t7)) then (
 inB t8 t0l ∧
 asRow t0 fun i1 i2 =>
 ∃ n3, H.cell i1 (i2 + (t8.toNat * 1)) = some (.int .i64 n3) ∧
 bif (t1 == n3) then (
 K1 [(.slice t0 t0l 0), (.int .i64 t1), undef, undef, (.int .i64 t8), (.int .i64 t8), (.slice t6 t6l 0), (.int .i64 t7), (.int .i64 t8), (.bool true), (.int .i64 t8), (.int .i64 t1), (.slice t0 t0l 0), (.int .i64 t8), (.pointer (some ⟨i1, (i2 + (t8.toNat * 1)), none⟩)), (.int .i64 n3), (.bool true), (.int .i64 t8), (ys.getD 18 undef)] H)
 else (
 ∃ k4, k4 < n ∧
 I k4 t4 (IntKind.i64.wrap (t8 + 1)) H))
 else (
 K0 [(.slice t0 t0l 0), (.int .i64 t1), undef, undef, (.int .i64 t4), (ys.getD 5 undef), (.slice t6 t6l 0), (.int .i64 t7), (.int .i64 t8), (.bool false), (ys.getD 10 undef), (ys.getD 11 undef), (ys.getD 12 undef), (ys.getD 13 undef), (ys.getD 14 undef), (ys.getD 15 undef), (ys.getD 16 undef), (ys.getD 17 undef), (ys.getD 18 undef)] H))) :
    LA en L_slices_Index_int_int_0 [(.slice t0 t0l 0), (.int .i64 t1), undef, undef, (.int .i64 t4), t5, (.slice t6 t6l 0), (.int .i64 t7), (.int .i64 t8), t9, t10, t11, t12, t13, t14, t15, t16, t17, t18] H [(X.exit 0, K0), (X.ret, K1)] := by
  refine LA_rule (Z := []) (fun m xs H' => AS.asInt .i64 (xs.getD 4 undef) fun t4 => AS.asInt .i64 (xs.getD 8 undef) fun t8 => I m t4 t8 H') ?_ n H ?_
  · intro n H
    suffices hs : ∀ s9 : Value, ∀ s10 : Value, ∀ s5 : Value, ∀ s11 : Value, ∀ s12 : Value, ∀ s13 : Value, ∀ s14 : Value, ∀ s15 : Value, ∀ s16 : Value, ∀ s17 : Value, ∀ s4 : Value, ∀ s18 : Value, ∀ s8 : Value, ((AS.asInt .i64 s4 fun t4 => AS.asInt .i64 s8 fun t8 => I n t4 t8 H) → wpCode en L_slices_Index_int_int_0 [] [(.slice t0 t0l 0), (.int .i64 t1), undef, undef, s4, s5, (.slice t6 t6l 0), (.int .i64 t7), s8, s9, s10, s11, s12, s13, s14, s15, s16, s17, s18] H (loopQ (fun m xs H' => AS.asInt .i64 (xs.getD 4 undef) fun t4 => AS.asInt .i64 (xs.getD 8 undef) fun t8 => I m t4 t8 H') n [(X.exit 0, K0), (X.ret, K1)])) by
      apply turnInto hs
      kernel_rfl
    intro s9 s10 s5 s11 s12 s13 s14 s15 s16 s17 s4 s18 s8 hP
    replace hP := asInt_elim hP
    obtain ⟨t4, rfl, hP⟩ := hP
    replace hP := asInt_elim hP
    obtain ⟨t8, rfl, hP⟩ := hP
    apply turnInto (hstep n t4 t8 [(.slice t0 t0l 0), (.int .i64 t1), undef, undef, (.int .i64 t4), s5, (.slice t6 t6l 0), (.int .i64 t7), (.int .i64 t8), s9, s10, s11, s12, s13, s14, s15, s16, s17, s18] H hP)
    kernel_rfl
  · apply turnInto h0
    kernel_rfl


/-! word_Put -/
noncomputable def L_word_Put_0 : Code := loopAt Go.Proofs.Tryd.f47 0

theorem vc_word_Put (x0 : Option Addr) (x0l : Nat) (x1 : Int) (x2 : Int) (x3 : Int) (H : Heap) (R : Value → Heap → Prop) :
    (
 CA en F.word_piece [(.slice x0 x0l 0), (.int .i64 x1), (.int .i64 x2)] H fun v1 H2 =>
 ∃ a3 i4, v1 = (.slice a3 i4 0) ∧
 LA en L_word_Put_0 [(.slice x0 x0l 0), (.int .i64 x1), (.int .i64 x2), (.int .u64 x3), undef, undef, undef, undef, (.bool false), (.slice a3 i4 0), undef, (.slice x0 x0l 0), (.int .i64 x1), (.int .i64 x2), (.slice a3 i4 0), (.slice a3 i4 0), (.int .i64 ((i4 : Nat) : Int)), (.int .i64 0), undef, undef, undef, undef, undef, undef, undef, undef, undef, undef, undef, undef, undef] H2 [(X.exit 0, fun (y5 : Fr) (H6 : Heap) =>
 R (.bool (!a3.isNone)) H6)]) →
    CA en F.word_Put [(.slice x0 x0l 0), (.int .i64 x1), (.int .i64 x2), (.int .u64 x3)] H R := by
  intro h
  refine wpFn_ok (Z := [[]]) (fn := Go.Proofs.Tryd.f47) ?_ ?_ ?_
  · kernel_rfl
  · kernel_rfl
  · apply turnInto h
    kernel_rfl

theorem use_word_Put_0 {t0 : Option Addr} {t0l : Nat} {t1 : Int} {t2 : Int} {t3 : Int} {t9 : Option Addr} {t9l : Nat} {t11 : Option Addr} {t11l : Nat} {t12 : Int} {t13 : Int} {t14 : Option Addr} {t14l : Nat} {t15 : Option Addr} {t15l : Nat} {t16 : Int} {K0 : Fr → Heap → Prop} {t17 : Int} {t10 : Value} {t18 : Value} {t19 : Value} {t20 : Value} {t21 : Value} {t22 : Value} {t23 : Value} {t24 : Value} {t25 : Value} {t26 : Value} {t27 : Value} {t28 : Value} {H : Heap} (I : Nat → Int → Heap → Prop) (n : Nat) (h0 : I n t17 H)
    (hstep : ∀ (n : Nat) (t17 : Int) (ys : Fr) (H : Heap), I n t17 H →
    (
 bif (decide (t17 < t16)) then (
 nn (IntKind.i64.wrap (8 * t17)) ∧
 inB t17 t9l ∧
 asRow t9 fun i1 i2 =>
 stc H i1 (i2 + (t17.toNat * 1)) [(.int .u8 (IntKind.u8.wrap (Int.fdiv t3 (2 ^ (min (IntKind.i64.wrap (8 * t17)).toNat 64)))))] fun H3 =>
 ∃ k4, k4 < n ∧
 I k4 (IntKind.i64.wrap (t17 + 1)) H3)
 else (
 K0 [(.slice t0 t0l 0), (.int .i64 t1), (.int .i64 t2), (.int .u64 t3), undef, undef, undef, undef, (.bool false), (.slice t9 t9l 0), (ys.getD 10 undef), (.slice t11 t11l 0), (.int .i64 t12), (.int .i64 t13), (.slice t14 t14l 0), (.slice t15 t15l 0), (.int .i64 t16), (.int .i64 t17), (.bool false), (ys.getD 19 undef), (ys.getD 20 undef), (ys.getD 21 undef), (ys.getD 22 undef), (ys.getD 23 undef), (ys.getD 24 undef), (ys.getD 25 undef), (ys.getD 26 undef), (ys.getD 27 undef), (ys.getD 28 undef), undef, undef] H))) :
    LA en L_word_Put_0 [(.slice t0 t0l 0), (.int .i64 t1), (.int .i64 t2), (.int .u64 t3), undef, undef, undef, undef, (.bool false), (.slice t9 t9l 0), t10, (.slice t11 t11l 0), (.int .i64 t12), (.int .i64 t13), (.slice t14 t14l 0), (.slice t15 t15l 0), (.int .i64 t16), (.int .i64 t17), t18, t19, t20, t21, t22, t23, t24, t25, t26, t27, t28, undef, undef] H [(X.exit 0, K0)] := by
  refine LA_rule (Z := []) (fun m xs H' => AS.asInt .i64 (xs.getD 17 undef) fun t17 => I m t17 H') ?_ n H ?_
  · intro n H
    suffices hs : ∀ s18 : Value, ∀ s19 : Value, ∀ s10 : Value, ∀ s20 : Value, ∀ s21 : Value, ∀ s22 : Value, ∀ s23 : Value, ∀ s24 : Value, ∀ s25 : Value, ∀ s26 : Value, ∀ s27 : Value, ∀ s28 : Value, ∀ s17 : Value, ((AS.asInt .i64 s17 fun t17 => I n t17 H) → wpCode en L_word_Put_0 [] [(.slice t0 t0l 0), (.int .i64 t1), (.int .i64 t2), (.int .u64 t3), undef, undef, undef, undef, (.bool false), (.slice t9 t9l 0), s10, (.slice t11 t11l 0), (.int .i64 t12), (.int .i64 t13), (.slice t14 t14l 0), (.slice t15 t15l 0), (.int .i64 t16), s17, s18, s19, s20, s21, s22, s23, s24, s25, s26, s27, s28, undef, undef] H (loopQ (fun m xs H' => AS.asInt .i64 (xs.getD 17 undef) fun t17 => I m t17 H') n [(X.exit 0, K0)])) by
      apply turnInto hs
      kernel_rfl
    intro s18 s19 s10 s20 s21 s22 s23 s24 s25 s26 s27 s28 s17 hP
    replace hP := asInt_elim hP
    obtain ⟨t17, rfl, hP⟩ := hP
    apply turnInto (hstep n t17 [(.slice t0 t0l 0), (.int .i64 t1), (.int .i64 t2), (.int .u64 t3), undef, undef, undef, undef, (.bool false), (.slice t9 t9l 0), s10, (.slice t11 t11l 0), (.int .i64 t12), (.int .i64 t13), (.slice t14 t14l 0), (.slice t15 t15l 0), (.int .i64 t16), (.int .i64 t17), s18, s19, s20, s21, s22, s23, s24, s25, s26, s27, s28, undef, undef] H hP)
    kernel_rfl
  · apply turnInto h0
    kernel_rfl


/-! word_piece -/

theorem vc_word_piece (x0 : Option Addr) (x0l : Nat) (x1 : Int) (x2 : Int) (H : Heap) (R : Value → Heap → Prop) :
    (
 nwH H (.cells true 1 [(.int .i64 1), (.int .i64 2), (.int .i64 4), (.int .i64 8)]) fun i1 H2 =>
 CA en F.slices_Contains_int_int [(.slice (some ⟨i1, 0, none⟩) 4 0), (.int .i64 x2)] H2 fun v3 H4 =>
 ∃ b5, v3 = (.bool b5) ∧
 bif (!b5) then (
 R (.slice none 0 0) H4)
 else (
 bif (decide (x1 < 0)) then (
 R (.slice none 0 0) H4)
 else (
 bif (decide (x1 > (IntKind.i64.wrap (((x0l : Nat) : Int) - x2)))) then (
 R (.slice none 0 0) H4)
 else (
 inS (IntKind.i64.wrap (x1 + x2)) x0l ∧
 inS x1 (IntKind.i64.wrap (x1 + x2)).toNat ∧
 slK H4 x0 1 x1.toNat ((IntKind.i64.wrap (x1 + x2)).toNat - x1.toNat) fun v6 =>
 R v6 H4)))) →
    CA en F.word_piece [(.slice x0 x0l 0), (.int .i64 x1), (.int .i64 x2)] H R := by
  intro h
  refine wpFn_ok (Z := []) (fn := Go.Proofs.Tryd.f70) ?_ ?_ ?_
  · kernel_rfl
  · kernel_rfl
  · apply turnInto h
    kernel_rfl


/-! word_Get -/
noncomputable def L_word_Get_0 : Code := loopAt Go.Proofs.Tryd.f76 0

theorem vc_word_Get (x0 : Option Addr) (x0l : Nat) (x1 : Int) (x2 : Int) (H : Heap) (R : Value → Heap → Prop) :
    (
 CA en F.word_piece [(.slice x0 x0l 0), (.int .i64 x1), (.int .i64 x2)] H fun v1 H2 =>
 ∃ a3 i4, v1 = (.slice a3 i4 0) ∧
 LA en L_word_Get_0 [(.slice x0 x0l 0), (.int .i64 x1), (.int .i64 x2), undef, undef, undef, (.int .u64 0), (.bool false), (.slice a3 i4 0), undef, undef, (.slice x0 x0l 0), (.int .i64 x1), (.int .i64 x2), (.slice a3 i4 0), (.slice a3 i4 0), (.int .i64 ((i4 : Nat) : Int)), (.int .i64 0), undef, undef, undef, undef, undef, undef, undef, undef, undef, undef, undef, undef, undef, undef, undef] H2 [(X.exit 0, fun (y5 : Fr) (H6 : Heap) =>
 AS.asInt .u64 (y5.getD 6 undef) fun n7 =>
 R (.tuple #[(.int .u64 n7), (.bool (!a3.isNone))]) H6)]) →
    CA en F.word_Get [(.slice x0 x0l 0), (.int .i64 x1), (.int .i64 x2)] H R := by
  intro h
  refine wpFn_ok (Z := [[(6, (.int .u64 0))]]) (fn := Go.Proofs.Tryd.f76) ?_ ?_ ?_
  · kernel_rfl
  · kernel_rfl
  · apply turnInto h
    kernel_rfl

theorem use_word_Get_0 {t0 : Option Addr} {t0l : Nat} {t1 : Int} {t2 : Int} {t8 : Option Addr} {t8l : Nat} {t11 : Option Addr} {t11l : Nat} {t12 : Int} {t13 : Int} {t14 : Option Addr} {t14l : Nat} {t15 : Option Addr} {t15l : Nat} {t16 : Int} {K0 : Fr → Heap → Prop} {t6 : Int} {t17 : Int} {t9 : Value} {t10 : Value} {t18 : Value} {t19 : Value} {t20 : Value} {t21 : Value} {t22 : Value} {t23 : Value} {t24 : Value} {t25 : Value} {t26 : Value} {t27 : Value} {t28 : Value} {t29 : Value} {H : Heap} (I : Nat → Int → Int → Heap → Prop) (n : Nat) (h0 : I n t6 t17 H)
    (hstep : ∀ (n : Nat) (t6 : Int) (t17 : Int) (ys : Fr) (H : Heap), I n t6 t17 H →
    (
 bif (decide (t17 < t16)) then (
 inB t17 t15l ∧
 asRow t15 fun i1 i2 =>
 ∃ n3, H.cell i1 (i2 + (t17.toNat * 1)) = some (.int .u8 n3) ∧
 nn (IntKind.i64.wrap (8 * t17)) ∧
 ∃ k4, k4 < n ∧
 I k4 (IntKind.u64.wrap ((BitVec.ofInt 64 t6 ||| (BitVec.ofInt 64 (IntKind.u64.wrap ((IntKind.u64.wrap n3) * 2 ^ (min (IntKind.i64.wrap (8 * t17)).toNat 64))))).toNat : Int)) (IntKind.i64.wrap (t17 + 1)) H)
 else (
 K0 [(.slice t0 t0l 0), (.int .i64 t1), (.int .i64 t2), undef, undef, undef, (.int .u64 t6), (.bool false), (.slice t8 t8l 0), (ys.getD 9 undef), (ys.getD 10 undef), (.slice t11 t11l 0), (.int .i64 t12), (.int .i64 t13), (.slice t14 t14l 0), (.slice t15 t15l 0), (.int .i64 t16), (.int .i64 t17), (.bool false), (ys.getD 19 undef), (ys.getD 20 undef), (ys.getD 21 undef), (ys.getD 22 undef), (ys.getD 23 undef), (ys.getD 24 undef), (ys.getD 25 undef), (ys.getD 26 undef), (ys.getD 27 undef), (ys.getD 28 undef), (ys.getD 29 undef), undef, undef, undef] H))) :
    LA en L_word_Get_0 [(.slice t0 t0l 0), (.int .i64 t1), (.int .i64 t2), undef, undef, undef, (.int .u64 t6), (.bool false), (.slice t8 t8l 0), t9, t10, (.slice t11 t11l 0), (.int .i64 t12), (.int .i64 t13), (.slice t14 t14l 0), (.slice t15 t15l 0), (.int .i64 t16), (.int .i64 t17), t18, t19, t20, t21, t22, t23, t24, t25, t26, t27, t28, t29, undef, undef, undef] H [(X.exit 0, K0)] := by
  refine LA_rule (Z := []) (fun m xs H' => AS.asInt .u64 (xs.getD 6 undef) fun t6 => AS.asInt .i64 (xs.getD 17 undef) fun t17 => I m t6 t17 H') ?_ n H ?_
  · intro n H
    suffices hs : ∀ s18 : Value, ∀ s19 : Value, ∀ s20 : Value, ∀ s21 : Value, ∀ s9 : Value, ∀ s10 : Value, ∀ s22 : Value, ∀ s23 : Value, ∀ s24 : Value, ∀ s25 : Value, ∀ s26 : Value, ∀ s27 : Value, ∀ s28 : Value, ∀ s6 : Value, ∀ s29 : Value, ∀ s17 : Value, ((AS.asInt .u64 s6 fun t6 => AS.asInt .i64 s17 fun t17 => I n t6 t17 H) → wpCode en L_word_Get_0 [] [(.slice t0 t0l 0), (.int .i64 t1), (.int .i64 t2), undef, undef, undef, s6, (.bool false), (.slice t8 t8l 0), s9, s10, (.slice t11 t11l 0), (.int .i64 t12), (.int .i64 t13), (.slice t14 t14l 0), (.slice t15 t15l 0), (.int .i64 t16), s17, s18, s19, s20, s21, s22, s23, s24, s25, s26, s27, s28, s29, undef, undef, undef] H (loopQ (fun m xs H' => AS.asInt .u64 (xs.getD 6 undef) fun t6 => AS.asInt .i64 (xs.getD 17 undef) fun t17 => I m t6 t17 H') n [(X.exit 0, K0)])) by
      apply turnInto hs
      kernel_rfl
    intro s18 s19 s20 s21 s9 s10 s22 s23 s24 s25 s26 s27 s28 s6 s29 s17 hP
    replace hP := asInt_elim hP
    obtain ⟨t6, rfl, hP⟩ := hP
    replace hP := asInt_elim hP
    obtain ⟨t17, rfl, hP⟩ := hP
    apply turnInto (hstep n t6 t17 [(.slice t0 t0l 0), (.int .i64 t1), (.int .i64 t2), undef, undef, undef, (.int .u64 t6), (.bool false), (.slice t8 t8l 0), s9, s10, (.slice t11 t11l 0), (.int .i64 t12), (.int .i64 t13), (.slice t14 t14l 0), (.slice t15 t15l 0), (.int .i64 t16), (.int .i64 t17), s18, s19, s20, s21, s22, s23, s24, s25, s26, s27, s28, s29, undef, undef, undef] H hP)
    kernel_rfl
  · apply turnInto h0
    kernel_rfl

end Go.Proofs.YtmgkngdbphkmmaaDoor
