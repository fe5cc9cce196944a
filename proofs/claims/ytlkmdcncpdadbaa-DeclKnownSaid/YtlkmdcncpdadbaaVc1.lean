/-
  What functions of this seat's program need (printed by a program, checked by the kernel).
-/
import Derived.Test.YtlkmdcncpdadbaaNames
import Derived.Test.YtlkmdcncpdadbaaAs41
namespace Go.Proofs.Ytlkmdcncpdadbaa
open Go Go.AS Go.RowKit
set_option linter.unusedVariables false
set_option maxRecDepth 100000

/-! crossbarlaw07_DeclBits -/
noncomputable def L_crossbarlaw07_DeclBits_0 : Code := loopAt Go.Proofs.Try.f4 0

theorem vc_crossbarlaw07_DeclBits (x0 : Int) (x1 : Int) (H : Heap) (R : Value → Heap → Prop) :
    (
 CA en F.decl_Bloom [(.int .u64 x0), (.int .i64 x1)] H fun v1 H2 =>
 ∃ n3, ∃ n4, v1 = (.tuple #[(.int .i64 n3), (.int .u64 n4)]) ∧
 LA en L_crossbarlaw07_DeclBits_0 [(.int .u64 x0), (.int .i64 x1), undef, undef, (.bool false), (.int .i64 n3), (.int .u64 n4), (.int .i64 0), (.int .i64 0), (.tuple #[(.int .i64 n3), (.int .u64 n4)]), (.int .u64 x0), (.int .i64 x1), (.tuple #[(.int .i64 n3), (.int .u64 n4)]), (.int .i64 n3), (.int .u64 n4), undef, undef, undef, undef, undef, undef, undef, undef, undef, undef, undef, undef, undef, undef, undef, undef, undef, undef, undef, undef, undef, undef, undef, undef, undef, undef, undef, undef, undef, undef, undef, undef, undef, undef, undef, undef, undef, undef] H2 [(X.exit 0, fun (y5 : Fr) (H6 : Heap) =>
 AS.asInt .i64 (y5.getD 7 undef) fun n7 =>
 bif (decide (n7 ≥ 1)) then (
 bif (decide (n7 ≤ 3)) then (
 bif (decide (n3 ≥ 0)) then (
 bif (decide (n3 < x1)) then (
 CA en F.crossbarlaw07_works [] H6 fun v8 H9 =>
 ∃ b10, v8 = (.bool b10) ∧
 R (.bool b10) H9)
 else (
 bif (decide (x1 < 1)) then (
 bif (n3 == 0) then (
 CA en F.crossbarlaw07_works [] H6 fun v11 H12 =>
 ∃ b13, v11 = (.bool b13) ∧
 R (.bool b13) H12)
 else (
 R (.bool false) H6))
 else (
 R (.bool false) H6)))
 else (
 R (.bool false) H6))
 else (
 R (.bool false) H6))
 else (
 R (.bool false) H6))]) →
    CA en F.crossbarlaw07_DeclBits [(.int .u64 x0), (.int .i64 x1)] H R := by
  intro h
  refine wpFn_ok (Z := [[(7, (.int .i64 0))]]) (fn := Go.Proofs.Try.f4) ?_ ?_ ?_
  · kernel_rfl
  · kernel_rfl
  · apply turnInto h
    kernel_rfl

theorem use_crossbarlaw07_DeclBits_0 {t0 : Int} {t1 : Int} {t5 : Int} {t6 : Int} {t9_0 : Int} {t9_1 : Int} {t10 : Int} {t11 : Int} {t12_0 : Int} {t12_1 : Int} {t13 : Int} {t14 : Int} {K0 : Fr → Heap → Prop} {t7 : Int} {t8 : Int} {t15 : Value} {t16 : Value} {t17 : Value} {t18 : Value} {t19 : Value} {t20 : Value} {t21 : Value} {t22 : Value} {t23 : Value} {t24 : Value} {t25 : Value} {t26 : Value} {H : Heap} (I : Nat → Int → Int → Heap → Prop) (n : Nat) (h0 : I n t7 t8 H)
    (hstep : ∀ (n : Nat) (t7 : Int) (t8 : Int) (ys : Fr) (H : Heap), I n t7 t8 H →
    (
 bif (decide (t8 < 64)) then (
 nn (IntKind.u64.wrap t8) ∧
 nz 2 ∧
 bif ((Int.tmod (Int.fdiv t6 (2 ^ (min (IntKind.u64.wrap t8).toNat 64))) 2) == 1) then (
 ∃ k1, k1 < n ∧
 I k1 (IntKind.i64.wrap (t7 + 1)) (IntKind.i64.wrap (t8 + 1)) H)
 else (
 ∃ k2, k2 < n ∧
 I k2 t7 (IntKind.i64.wrap (t8 + 1)) H))
 else (
 K0 [(.int .u64 t0), (.int .i64 t1), undef, undef, (.bool false), (.int .i64 t5), (.int .u64 t6), (.int .i64 t7), (.int .i64 t8), (.tuple #[(.int .i64 t9_0), (.int .u64 t9_1)]), (.int .u64 t10), (.int .i64 t11), (.tuple #[(.int .i64 t12_0), (.int .u64 t12_1)]), (.int .i64 t13), (.int .u64 t14), (.int .i64 t8), (.bool false), (ys.getD 17 undef), (ys.getD 18 undef), (ys.getD 19 undef), (ys.getD 20 undef), (ys.getD 21 undef), (ys.getD 22 undef), (ys.getD 23 undef), (ys.getD 24 undef), (ys.getD 25 undef), (ys.getD 26 undef), undef, undef, undef, undef, undef, undef, undef, undef, undef, undef, undef, undef, undef, undef, undef, undef, undef, undef, undef, undef, undef, undef, undef, undef, undef, undef] H))) :
    LA en L_crossbarlaw07_DeclBits_0 [(.int .u64 t0), (.int .i64 t1), undef, undef, (.bool false), (.int .i64 t5), (.int .u64 t6), (.int .i64 t7), (.int .i64 t8), (.tuple #[(.int .i64 t9_0), (.int .u64 t9_1)]), (.int .u64 t10), (.int .i64 t11), (.tuple #[(.int .i64 t12_0), (.int .u64 t12_1)]), (.int .i64 t13), (.int .u64 t14), t15, t16, t17, t18, t19, t20, t21, t22, t23, t24, t25, t26, undef, undef, undef, undef, undef, undef, undef, undef, undef, undef, undef, undef, undef, undef, undef, undef, undef, undef, undef, undef, undef, undef, undef, undef, undef, undef] H [(X.exit 0, K0)] := by
  refine LA_rule (Z := []) (fun m xs H' => AS.asInt .i64 (xs.getD 7 undef) fun t7 => AS.asInt .i64 (xs.getD 8 undef) fun t8 => I m t7 t8 H') ?_ n H ?_
  · intro n H
    suffices hs : ∀ s15 : Value, ∀ s16 : Value, ∀ s19 : Value, ∀ s20 : Value, ∀ s21 : Value, ∀ s22 : Value, ∀ s23 : Value, ∀ s24 : Value, ∀ s25 : Value, ∀ s26 : Value, ∀ s7 : Value, ∀ s17 : Value, ∀ s18 : Value, ∀ s8 : Value, ((AS.asInt .i64 s7 fun t7 => AS.asInt .i64 s8 fun t8 => I n t7 t8 H) → wpCode en L_crossbarlaw07_DeclBits_0 [] [(.int .u64 t0), (.int .i64 t1), undef, undef, (.bool false), (.int .i64 t5), (.int .u64 t6), s7, s8, (.tuple #[(.int .i64 t9_0), (.int .u64 t9_1)]), (.int .u64 t10), (.int .i64 t11), (.tuple #[(.int .i64 t12_0), (.int .u64 t12_1)]), (.int .i64 t13), (.int .u64 t14), s15, s16, s17, s18, s19, s20, s21, s22, s23, s24, s25, s26, undef, undef, undef, undef, undef, undef, undef, undef, undef, undef, undef, undef, undef, undef, undef, undef, undef, undef, undef, undef, undef, undef, undef, undef, undef, undef] H (loopQ (fun m xs H' => AS.asInt .i64 (xs.getD 7 undef) fun t7 => AS.asInt .i64 (xs.getD 8 undef) fun t8 => I m t7 t8 H') n [(X.exit 0, K0)])) by
      apply turnInto hs
      kernel_rfl
    intro s15 s16 s19 s20 s21 s22 s23 s24 s25 s26 s7 s17 s18 s8 hP
    replace hP := asInt_elim hP
    obtain ⟨t7, rfl, hP⟩ := hP
    replace hP := asInt_elim hP
    obtain ⟨t8, rfl, hP⟩ := hP
    apply turnInto (hstep n t7 t8 [(.int .u64 t0), (.int .i64 t1), undef, undef, (.bool false), (.int .i64 t5), (.int .u64 t6), (.int .i64 t7), (.int .i64 t8), (.tuple #[(.int .i64 t9_0), (.int .u64 t9_1)]), (.int .u64 t10), (.int .i64 t11), (.tuple #[(.int .i64 t12_0), (.int .u64 t12_1)]), (.int .i64 t13), (.int .u64 t14), s15, s16, s17, s18, s19, s20, s21, s22, s23, s24, s25, s26, undef, undef, undef, undef, undef, undef, undef, undef, undef, undef, undef, undef, undef, undef, undef, undef, undef, undef, undef, undef, undef, undef, undef, undef, undef, undef] H hP)
    kernel_rfl
  · apply turnInto h0
    kernel_rfl


/-! crossbarlaw07_DeclOrder -/

theorem vc_crossbarlaw07_DeclOrder (x0_0 : Int) (x0_1 : Int) (x0_2 : Int) (x0_3 : Int) (x0_4 : Int) (x1 : Int) (x2 : Int) (x3 : Int) (H : Heap) (R : Value → Heap → Prop) :
    (
 nwH H (.cells true 0 [(.int .i64 x0_0), (.int .i64 x0_1), (.int .i64 x0_2), (.int .i64 x0_3), (.int .i64 x0_4)]) fun i1 H2 =>
 ∃ n3, ∃ n4, ∃ n5, ∃ n6, ∃ n7, H2.cellsAt i1 0 5 = some [(.int .i64 n3), (.int .i64 n4), (.int .i64 n5), (.int .i64 n6), (.int .i64 n7)] ∧
 CA en F.decl_Ahead [(.agg #[(.int .i64 n3), (.int .i64 n4), (.int .i64 n5), (.int .i64 n6), (.int .i64 n7)]), (.int .u64 x1), (.int .u64 x2)] H2 fun v8 H9 =>
 ∃ b10, v8 = (.bool b10) ∧
 ∃ n11, ∃ n12, ∃ n13, ∃ n14, ∃ n15, H9.cellsAt i1 0 5 = some [(.int .i64 n11), (.int .i64 n12), (.int .i64 n13), (.int .i64 n14), (.int .i64 n15)] ∧
 CA en F.decl_Ahead [(.agg #[(.int .i64 n11), (.int .i64 n12), (.int .i64 n13), (.int .i64 n14), (.int .i64 n15)]), (.int .u64 x2), (.int .u64 x1)] H9 fun v16 H17 =>
 ∃ b18, v16 = (.bool b18) ∧
 bif b10 then (
 bif b18 then (
 R (.bool false) H17)
 else (
 bif b10 then (
 bif (!(true == (x1 != x2))) then (
 R (.bool false) H17)
 else (
 bif b10 then (
 ∃ n19, ∃ n20, ∃ n21, ∃ n22, ∃ n23, H17.cellsAt i1 0 5 = some [(.int .i64 n19), (.int .i64 n20), (.int .i64 n21), (.int .i64 n22), (.int .i64 n23)] ∧
 CA en F.decl_Ahead [(.agg #[(.int .i64 n19), (.int .i64 n20), (.int .i64 n21), (.int .i64 n22), (.int .i64 n23)]), (.int .u64 x2), (.int .u64 x3)] H17 fun v24 H25 =>
 ∃ b26, v24 = (.bool b26) ∧
 bif b26 then (
 ∃ n27, ∃ n28, ∃ n29, ∃ n30, ∃ n31, H25.cellsAt i1 0 5 = some [(.int .i64 n27), (.int .i64 n28), (.int .i64 n29), (.int .i64 n30), (.int .i64 n31)] ∧
 CA en F.decl_Ahead [(.agg #[(.int .i64 n27), (.int .i64 n28), (.int .i64 n29), (.int .i64 n30), (.int .i64 n31)]), (.int .u64 x1), (.int .u64 x3)] H25 fun v32 H33 =>
 ∃ b34, v32 = (.bool b34) ∧
 bif (!b34) then (
 R (.bool false) H33)
 else (
 ∃ n35, H33.cell i1 0 = some (.int .i64 n35) ∧
 bif (n35 == 4) then (
 ∃ n36, H33.cell i1 3 = some (.int .i64 n36) ∧
 bif (decide (n36 ≥ 1)) then (
 ∃ n37, H33.cell i1 3 = some (.int .i64 n37) ∧
 CA en F.decl_Bucket [(.int .u64 x1), (.int .i64 n37)] H33 fun v38 H39 =>
 ∃ n40, v38 = (.int .i64 n40) ∧
 ∃ n41, H39.cell i1 3 = some (.int .i64 n41) ∧
 CA en F.decl_Bucket [(.int .u64 x2), (.int .i64 n41)] H39 fun v42 H43 =>
 ∃ n44, v42 = (.int .i64 n44) ∧
 bif (decide (n40 < 0)) then (
 R (.bool false) H43)
 else (
 ∃ n45, H43.cell i1 3 = some (.int .i64 n45) ∧
 bif (decide (n40 ≥ n45)) then (
 R (.bool false) H43)
 else (
 bif (decide (n40 < n44)) then (
 bif (!b10) then (
 R (.bool false) H43)
 else (
 bif (n40 == n44) then (
 bif (!(b10 == (decide (x1 < x2)))) then (
 R (.bool false) H43)
 else (
 CA en F.crossbarlaw07_works [] H43 fun v46 H47 =>
 ∃ b48, v46 = (.bool b48) ∧
 R (.bool b48) H47))
 else (
 CA en F.crossbarlaw07_works [] H43 fun v49 H50 =>
 ∃ b51, v49 = (.bool b51) ∧
 R (.bool b51) H50)))
 else (
 bif (n40 == n44) then (
 bif (!(b10 == (decide (x1 < x2)))) then (
 R (.bool false) H43)
 else (
 CA en F.crossbarlaw07_works [] H43 fun v52 H53 =>
 ∃ b54, v52 = (.bool b54) ∧
 R (.bool b54) H53))
 else (
 CA en F.crossbarlaw07_works [] H43 fun v55 H56 =>
 ∃ b57, v55 = (.bool b57) ∧
 R (.bool b57) H56)))))
 else (
 CA en F.crossbarlaw07_works [] H33 fun v58 H59 =>
 ∃ b60, v58 = (.bool b60) ∧
 R (.bool b60) H59))
 else (
 CA en F.crossbarlaw07_works [] H33 fun v61 H62 =>
 ∃ b63, v61 = (.bool b63) ∧
 R (.bool b63) H62)))
 else (
 ∃ n64, H25.cell i1 0 = some (.int .i64 n64) ∧
 bif (n64 == 4) then (
 ∃ n65, H25.cell i1 3 = some (.int .i64 n65) ∧
 bif (decide (n65 ≥ 1)) then (
 ∃ n66, H25.cell i1 3 = some (.int .i64 n66) ∧
 CA en F.decl_Bucket [(.int .u64 x1), (.int .i64 n66)] H25 fun v67 H68 =>
 ∃ n69, v67 = (.int .i64 n69) ∧
 ∃ n70, H68.cell i1 3 = some (.int .i64 n70) ∧
 CA en F.decl_Bucket [(.int .u64 x2), (.int .i64 n70)] H68 fun v71 H72 =>
 ∃ n73, v71 = (.int .i64 n73) ∧
 bif (decide (n69 < 0)) then (
 R (.bool false) H72)
 else (
 ∃ n74, H72.cell i1 3 = some (.int .i64 n74) ∧
 bif (decide (n69 ≥ n74)) then (
 R (.bool false) H72)
 else (
 bif (decide (n69 < n73)) then (
 bif (!b10) then (
 R (.bool false) H72)
 else (
 bif (n69 == n73) then (
 bif (!(b10 == (decide (x1 < x2)))) then (
 R (.bool false) H72)
 else (
 CA en F.crossbarlaw07_works [] H72 fun v75 H76 =>
 ∃ b77, v75 = (.bool b77) ∧
 R (.bool b77) H76))
 else (
 CA en F.crossbarlaw07_works [] H72 fun v78 H79 =>
 ∃ b80, v78 = (.bool b80) ∧
 R (.bool b80) H79)))
 else (
 bif (n69 == n73) then (
 bif (!(b10 == (decide (x1 < x2)))) then (
 R (.bool false) H72)
 else (
 CA en F.crossbarlaw07_works [] H72 fun v81 H82 =>
 ∃ b83, v81 = (.bool b83) ∧
 R (.bool b83) H82))
 else (
 CA en F.crossbarlaw07_works [] H72 fun v84 H85 =>
 ∃ b86, v84 = (.bool b86) ∧
 R (.bool b86) H85)))))
 else (
 CA en F.crossbarlaw07_works [] H25 fun v87 H88 =>
 ∃ b89, v87 = (.bool b89) ∧
 R (.bool b89) H88))
 else (
 CA en F.crossbarlaw07_works [] H25 fun v90 H91 =>
 ∃ b92, v90 = (.bool b92) ∧
 R (.bool b92) H91)))
 else (
 ∃ n93, H17.cell i1 0 = some (.int .i64 n93) ∧
 bif (n93 == 4) then (
 ∃ n94, H17.cell i1 3 = some (.int .i64 n94) ∧
 bif (decide (n94 ≥ 1)) then (
 ∃ n95, H17.cell i1 3 = some (.int .i64 n95) ∧
 CA en F.decl_Bucket [(.int .u64 x1), (.int .i64 n95)] H17 fun v96 H97 =>
 ∃ n98, v96 = (.int .i64 n98) ∧
 ∃ n99, H97.cell i1 3 = some (.int .i64 n99) ∧
 CA en F.decl_Bucket [(.int .u64 x2), (.int .i64 n99)] H97 fun v100 H101 =>
 ∃ n102, v100 = (.int .i64 n102) ∧
 bif (decide (n98 < 0)) then (
 R (.bool false) H101)
 else (
 ∃ n103, H101.cell i1 3 = some (.int .i64 n103) ∧
 bif (decide (n98 ≥ n103)) then (
 R (.bool false) H101)
 else (
 bif (decide (n98 < n102)) then (
 bif (!b10) then (
 R (.bool false) H101)
 else (
 bif (n98 == n102) then (
 bif (!(b10 == (decide (x1 < x2)))) then (
 R (.bool false) H101)
 else (
 CA en F.crossbarlaw07_works [] H101 fun v104 H105 =>
 ∃ b106, v104 = (.bool b106) ∧
 R (.bool b106) H105))
 else (
 CA en F.crossbarlaw07_works [] H101 fun v107 H108 =>
 ∃ b109, v107 = (.bool b109) ∧
 R (.bool b109) H108)))
 else (
 bif (n98 == n102) then (
 bif (!(b10 == (decide (x1 < x2)))) then (
 R (.bool false) H101)
 else (
 CA en F.crossbarlaw07_works [] H101 fun v110 H111 =>
 ∃ b112, v110 = (.bool b112) ∧
 R (.bool b112) H111))
 else (
 CA en F.crossbarlaw07_works [] H101 fun v113 H114 =>
 ∃ b115, v113 = (.bool b115) ∧
 R (.bool b115) H114)))))
 else (
 CA en F.crossbarlaw07_works [] H17 fun v116 H117 =>
 ∃ b118, v116 = (.bool b118) ∧
 R (.bool b118) H117))
 else (
 CA en F.crossbarlaw07_works [] H17 fun v119 H120 =>
 ∃ b121, v119 = (.bool b121) ∧
 R (.bool b121) H120))))
 else (
 bif (!(b18 == (x1 != x2))) then (
 R (.bool false) H17)
 else (
 bif b10 then (
 ∃ n122, ∃ n123, ∃ n124, ∃ n125, ∃ n126, H17.cellsAt i1 0 5 = some [(.int .i64 n122), (.int .i64 n123), (.int .i64 n124), (.int .i64 n125), (.int .i64 n126)] ∧
 CA en F.decl_Ahead [(.agg #[(.int .i64 n122), (.int .i64 n123), (.int .i64 n124), (.int .i64 n125), (.int .i64 n126)]), (.int .u64 x2), (.int .u64 x3)] H17 fun v127 H128 =>
 ∃ b129, v127 = (.bool b129) ∧
 bif b129 then (
 ∃ n130, ∃ n131, ∃ n132, ∃ n133, ∃ n134, H128.cellsAt i1 0 5 = some [(.int .i64 n130), (.int .i64 n131), (.int .i64 n132), (.int .i64 n133), (.int .i64 n134)] ∧
 CA en F.decl_Ahead [(.agg #[(.int .i64 n130), (.int .i64 n131), (.int .i64 n132), (.int .i64 n133), (.int .i64 n134)]), (.int .u64 x1), (.int .u64 x3)] H128 fun v135 H136 =>
 ∃ b137, v135 = (.bool b137) ∧
 bif (!b137) then (
 R (.bool false) H136)
 else (
 ∃ n138, H136.cell i1 0 = some (.int .i64 n138) ∧
 bif (n138 == 4) then (
 ∃ n139, H136.cell i1 3 = some (.int .i64 n139) ∧
 bif (decide (n139 ≥ 1)) then (
 ∃ n140, H136.cell i1 3 = some (.int .i64 n140) ∧
 CA en F.decl_Bucket [(.int .u64 x1), (.int .i64 n140)] H136 fun v141 H142 =>
 ∃ n143, v141 = (.int .i64 n143) ∧
 ∃ n144, H142.cell i1 3 = some (.int .i64 n144) ∧
 CA en F.decl_Bucket [(.int .u64 x2), (.int .i64 n144)] H142 fun v145 H146 =>
 ∃ n147, v145 = (.int .i64 n147) ∧
 bif (decide (n143 < 0)) then (
 R (.bool false) H146)
 else (
 ∃ n148, H146.cell i1 3 = some (.int .i64 n148) ∧
 bif (decide (n143 ≥ n148)) then (
 R (.bool false) H146)
 else (
 bif (decide (n143 < n147)) then (
 bif (!b10) then (
 R (.bool false) H146)
 else (
 bif (n143 == n147) then (
 bif (!(b10 == (decide (x1 < x2)))) then (
 R (.bool false) H146)
 else (
 CA en F.crossbarlaw07_works [] H146 fun v149 H150 =>
 ∃ b151, v149 = (.bool b151) ∧
 R (.bool b151) H150))
 else (
 CA en F.crossbarlaw07_works [] H146 fun v152 H153 =>
 ∃ b154, v152 = (.bool b154) ∧
 R (.bool b154) H153)))
 else (
 bif (n143 == n147) then (
 bif (!(b10 == (decide (x1 < x2)))) then (
 R (.bool false) H146)
 else (
 CA en F.crossbarlaw07_works [] H146 fun v155 H156 =>
 ∃ b157, v155 = (.bool b157) ∧
 R (.bool b157) H156))
 else (
 CA en F.crossbarlaw07_works [] H146 fun v158 H159 =>
 ∃ b160, v158 = (.bool b160) ∧
 R (.bool b160) H159)))))
 else (
 CA en F.crossbarlaw07_works [] H136 fun v161 H162 =>
 ∃ b163, v161 = (.bool b163) ∧
 R (.bool b163) H162))
 else (
 CA en F.crossbarlaw07_works [] H136 fun v164 H165 =>
 ∃ b166, v164 = (.bool b166) ∧
 R (.bool b166) H165)))
 else (
 ∃ n167, H128.cell i1 0 = some (.int .i64 n167) ∧
 bif (n167 == 4) then (
 ∃ n168, H128.cell i1 3 = some (.int .i64 n168) ∧
 bif (decide (n168 ≥ 1)) then (
 ∃ n169, H128.cell i1 3 = some (.int .i64 n169) ∧
 CA en F.decl_Bucket [(.int .u64 x1), (.int .i64 n169)] H128 fun v170 H171 =>
 ∃ n172, v170 = (.int .i64 n172) ∧
 ∃ n173, H171.cell i1 3 = some (.int .i64 n173) ∧
 CA en F.decl_Bucket [(.int .u64 x2), (.int .i64 n173)] H171 fun v174 H175 =>
 ∃ n176, v174 = (.int .i64 n176) ∧
 bif (decide (n172 < 0)) then (
 R (.bool false) H175)
 else (
 ∃ n177, H175.cell i1 3 = some (.int .i64 n177) ∧
 bif (decide (n172 ≥ n177)) then (
 R (.bool false) H175)
 else (
 bif (decide (n172 < n176)) then (
 bif (!b10) then (
 R (.bool false) H175)
 else (
 bif (n172 == n176) then (
 bif (!(b10 == (decide (x1 < x2)))) then (
 R (.bool false) H175)
 else (
 CA en F.crossbarlaw07_works [] H175 fun v178 H179 =>
 ∃ b180, v178 = (.bool b180) ∧
 R (.bool b180) H179))
 else (
 CA en F.crossbarlaw07_works [] H175 fun v181 H182 =>
 ∃ b183, v181 = (.bool b183) ∧
 R (.bool b183) H182)))
 else (
 bif (n172 == n176) then (
 bif (!(b10 == (decide (x1 < x2)))) then (
 R (.bool false) H175)
 else (
 CA en F.crossbarlaw07_works [] H175 fun v184 H185 =>
 ∃ b186, v184 = (.bool b186) ∧
 R (.bool b186) H185))
 else (
 CA en F.crossbarlaw07_works [] H175 fun v187 H188 =>
 ∃ b189, v187 = (.bool b189) ∧
 R (.bool b189) H188)))))
 else (
 CA en F.crossbarlaw07_works [] H128 fun v190 H191 =>
 ∃ b192, v190 = (.bool b192) ∧
 R (.bool b192) H191))
 else (
 CA en F.crossbarlaw07_works [] H128 fun v193 H194 =>
 ∃ b195, v193 = (.bool b195) ∧
 R (.bool b195) H194)))
 else (
 ∃ n196, H17.cell i1 0 = some (.int .i64 n196) ∧
 bif (n196 == 4) then (
 ∃ n197, H17.cell i1 3 = some (.int .i64 n197) ∧
 bif (decide (n197 ≥ 1)) then (
 ∃ n198, H17.cell i1 3 = some (.int .i64 n198) ∧
 CA en F.decl_Bucket [(.int .u64 x1), (.int .i64 n198)] H17 fun v199 H200 =>
 ∃ n201, v199 = (.int .i64 n201) ∧
 ∃ n202, H200.cell i1 3 = some (.int .i64 n202) ∧
 CA en F.decl_Bucket [(.int .u64 x2), (.int .i64 n202)] H200 fun v203 H204 =>
 ∃ n205, v203 = (.int .i64 n205) ∧
 bif (decide (n201 < 0)) then (
 R (.bool false) H204)
 else (
 ∃ n206, H204.cell i1 3 = some (.int .i64 n206) ∧
 bif (decide (n201 ≥ n206)) then (
 R (.bool false) H204)
 else (
 bif (decide (n201 < n205)) then (
 bif (!b10) then (
 R (.bool false) H204)
 else (
 bif (n201 == n205) then (
 bif (!(b10 == (decide (x1 < x2)))) then (
 R (.bool false) H204)
 else (
 CA en F.crossbarlaw07_works [] H204 fun v207 H208 =>
 ∃ b209, v207 = (.bool b209) ∧
 R (.bool b209) H208))
 else (
 CA en F.crossbarlaw07_works [] H204 fun v210 H211 =>
 ∃ b212, v210 = (.bool b212) ∧
 R (.bool b212) H211)))
 else (
 bif (n201 == n205) then (
 bif (!(b10 == (decide (x1 < x2)))) then (
 R (.bool false) H204)
 else (
 CA en F.crossbarlaw07_works [] H204 fun v213 H214 =>
 ∃ b215, v213 = (.bool b215) ∧
 R (.bool b215) H214))
 else (
 CA en F.crossbarlaw07_works [] H204 fun v216 H217 =>
 ∃ b218, v216 = (.bool b218) ∧
 R (.bool b218) H217)))))
 else (
 CA en F.crossbarlaw07_works [] H17 fun v219 H220 =>
 ∃ b221, v219 = (.bool b221) ∧
 R (.bool b221) H220))
 else (
 CA en F.crossbarlaw07_works [] H17 fun v222 H223 =>
 ∃ b224, v222 = (.bool b224) ∧
 R (.bool b224) H223))))))
 else (
 bif b10 then (
 bif (!(true == (x1 != x2))) then (
 R (.bool false) H17)
 else (
 bif b10 then (
 ∃ n225, ∃ n226, ∃ n227, ∃ n228, ∃ n229, H17.cellsAt i1 0 5 = some [(.int .i64 n225), (.int .i64 n226), (.int .i64 n227), (.int .i64 n228), (.int .i64 n229)] ∧
 CA en F.decl_Ahead [(.agg #[(.int .i64 n225), (.int .i64 n226), (.int .i64 n227), (.int .i64 n228), (.int .i64 n229)]), (.int .u64 x2), (.int .u64 x3)] H17 fun v230 H231 =>
 ∃ b232, v230 = (.bool b232) ∧
 bif b232 then (
 ∃ n233, ∃ n234, ∃ n235, ∃ n236, ∃ n237, H231.cellsAt i1 0 5 = some [(.int .i64 n233), (.int .i64 n234), (.int .i64 n235), (.int .i64 n236), (.int .i64 n237)] ∧
 CA en F.decl_Ahead [(.agg #[(.int .i64 n233), (.int .i64 n234), (.int .i64 n235), (.int .i64 n236), (.int .i64 n237)]), (.int .u64 x1), (.int .u64 x3)] H231 fun v238 H239 =>
 ∃ b240, v238 = (.bool b240) ∧
 bif (!b240) then (
 R (.bool false) H239)
 else (
 ∃ n241, H239.cell i1 0 = some (.int .i64 n241) ∧
 bif (n241 == 4) then (
 ∃ n242, H239.cell i1 3 = some (.int .i64 n242) ∧
 bif (decide (n242 ≥ 1)) then (
 ∃ n243, H239.cell i1 3 = some (.int .i64 n243) ∧
 CA en F.decl_Bucket [(.int .u64 x1), (.int .i64 n243)] H239 fun v244 H245 =>
 ∃ n246, v244 = (.int .i64 n246) ∧
 ∃ n247, H245.cell i1 3 = some (.int .i64 n247) ∧
 CA en F.decl_Bucket [(.int .u64 x2), (.int .i64 n247)] H245 fun v248 H249 =>
 ∃ n250, v248 = (.int .i64 n250) ∧
 bif (decide (n246 < 0)) then (
 R (.bool false) H249)
 else (
 ∃ n251, H249.cell i1 3 = some (.int .i64 n251) ∧
 bif (decide (n246 ≥ n251)) then (
 R (.bool false) H249)
 else (
 bif (decide (n246 < n250)) then (
 bif (!b10) then (
 R (.bool false) H249)
 else (
 bif (n246 == n250) then (
 bif (!(b10 == (decide (x1 < x2)))) then (
 R (.bool false) H249)
 else (
 CA en F.crossbarlaw07_works [] H249 fun v252 H253 =>
 ∃ b254, v252 = (.bool b254) ∧
 R (.bool b254) H253))
 else (
 CA en F.crossbarlaw07_works [] H249 fun v255 H256 =>
 ∃ b257, v255 = (.bool b257) ∧
 R (.bool b257) H256)))
 else (
 bif (n246 == n250) then (
 bif (!(b10 == (decide (x1 < x2)))) then (
 R (.bool false) H249)
 else (
 CA en F.crossbarlaw07_works [] H249 fun v258 H259 =>
 ∃ b260, v258 = (.bool b260) ∧
 R (.bool b260) H259))
 else (
 CA en F.crossbarlaw07_works [] H249 fun v261 H262 =>
 ∃ b263, v261 = (.bool b263) ∧
 R (.bool b263) H262)))))
 else (
 CA en F.crossbarlaw07_works [] H239 fun v264 H265 =>
 ∃ b266, v264 = (.bool b266) ∧
 R (.bool b266) H265))
 else (
 CA en F.crossbarlaw07_works [] H239 fun v267 H268 =>
 ∃ b269, v267 = (.bool b269) ∧
 R (.bool b269) H268)))
 else (
 ∃ n270, H231.cell i1 0 = some (.int .i64 n270) ∧
 bif (n270 == 4) then (
 ∃ n271, H231.cell i1 3 = some (.int .i64 n271) ∧
 bif (decide (n271 ≥ 1)) then (
 ∃ n272, H231.cell i1 3 = some (.int .i64 n272) ∧
 CA en F.decl_Bucket [(.int .u64 x1), (.int .i64 n272)] H231 fun v273 H274 =>
 ∃ n275, v273 = (.int .i64 n275) ∧
 ∃ n276, H274.cell i1 3 = some (.int .i64 n276) ∧
 CA en F.decl_Bucket [(.int .u64 x2), (.int .i64 n276)] H274 fun v277 H278 =>
 ∃ n279, v277 = (.int .i64 n279) ∧
 bif (decide (n275 < 0)) then (
 R (.bool false) H278)
 else (
 ∃ n280, H278.cell i1 3 = some (.int .i64 n280) ∧
 bif (decide (n275 ≥ n280)) then (
 R (.bool false) H278)
 else (
 bif (decide (n275 < n279)) then (
 bif (!b10) then (
 R (.bool false) H278)
 else (
 bif (n275 == n279) then (
 bif (!(b10 == (decide (x1 < x2)))) then (
 R (.bool false) H278)
 else (
 CA en F.crossbarlaw07_works [] H278 fun v281 H282 =>
 ∃ b283, v281 = (.bool b283) ∧
 R (.bool b283) H282))
 else (
 CA en F.crossbarlaw07_works [] H278 fun v284 H285 =>
 ∃ b286, v284 = (.bool b286) ∧
 R (.bool b286) H285)))
 else (
 bif (n275 == n279) then (
 bif (!(b10 == (decide (x1 < x2)))) then (
 R (.bool false) H278)
 else (
 CA en F.crossbarlaw07_works [] H278 fun v287 H288 =>
 ∃ b289, v287 = (.bool b289) ∧
 R (.bool b289) H288))
 else (
 CA en F.crossbarlaw07_works [] H278 fun v290 H291 =>
 ∃ b292, v290 = (.bool b292) ∧
 R (.bool b292) H291)))))
 else (
 CA en F.crossbarlaw07_works [] H231 fun v293 H294 =>
 ∃ b295, v293 = (.bool b295) ∧
 R (.bool b295) H294))
 else (
 CA en F.crossbarlaw07_works [] H231 fun v296 H297 =>
 ∃ b298, v296 = (.bool b298) ∧
 R (.bool b298) H297)))
 else (
 ∃ n299, H17.cell i1 0 = some (.int .i64 n299) ∧
 bif (n299 == 4) then (
 ∃ n300, H17.cell i1 3 = some (.int .i64 n300) ∧
 bif (decide (n300 ≥ 1)) then (
 ∃ n301, H17.cell i1 3 = some (.int .i64 n301) ∧
 CA en F.decl_Bucket [(.int .u64 x1), (.int .i64 n301)] H17 fun v302 H303 =>
 ∃ n304, v302 = (.int .i64 n304) ∧
 ∃ n305, H303.cell i1 3 = some (.int .i64 n305) ∧
 CA en F.decl_Bucket [(.int .u64 x2), (.int .i64 n305)] H303 fun v306 H307 =>
 ∃ n308, v306 = (.int .i64 n308) ∧
 bif (decide (n304 < 0)) then (
 R (.bool false) H307)
 else (
 ∃ n309, H307.cell i1 3 = some (.int .i64 n309) ∧
 bif (decide (n304 ≥ n309)) then (
 R (.bool false) H307)
 else (
 bif (decide (n304 < n308)) then (
 bif (!b10) then (
 R (.bool false) H307)
 else (
 bif (n304 == n308) then (
 bif (!(b10 == (decide (x1 < x2)))) then (
 R (.bool false) H307)
 else (
 CA en F.crossbarlaw07_works [] H307 fun v310 H311 =>
 ∃ b312, v310 = (.bool b312) ∧
 R (.bool b312) H311))
 else (
 CA en F.crossbarlaw07_works [] H307 fun v313 H314 =>
 ∃ b315, v313 = (.bool b315) ∧
 R (.bool b315) H314)))
 else (
 bif (n304 == n308) then (
 bif (!(b10 == (decide (x1 < x2)))) then (
 R (.bool false) H307)
 else (
 CA en F.crossbarlaw07_works [] H307 fun v316 H317 =>
 ∃ b318, v316 = (.bool b318) ∧
 R (.bool b318) H317))
 else (
 CA en F.crossbarlaw07_works [] H307 fun v319 H320 =>
 ∃ b321, v319 = (.bool b321) ∧
 R (.bool b321) H320)))))
 else (
 CA en F.crossbarlaw07_works [] H17 fun v322 H323 =>
 ∃ b324, v322 = (.bool b324) ∧
 R (.bool b324) H323))
 else (
 CA en F.crossbarlaw07_works [] H17 fun v325 H326 =>
 ∃ b327, v325 = (.bool b327) ∧
 R (.bool b327) H326))))
 else (
 bif (!(b18 == (x1 != x2))) then (
 R (.bool false) H17)
 else (
 bif b10 then (
 ∃ n328, ∃ n329, ∃ n330, ∃ n331, ∃ n332, H17.cellsAt i1 0 5 = some [(.int .i64 n328), (.int .i64 n329), (.int .i64 n330), (.int .i64 n331), (.int .i64 n332)] ∧
 CA en F.decl_Ahead [(.agg #[(.int .i64 n328), (.int .i64 n329), (.int .i64 n330), (.int .i64 n331), (.int .i64 n332)]), (.int .u64 x2), (.int .u64 x3)] H17 fun v333 H334 =>
 ∃ b335, v333 = (.bool b335) ∧
 bif b335 then (
 ∃ n336, ∃ n337, ∃ n338, ∃ n339, ∃ n340, H334.cellsAt i1 0 5 = some [(.int .i64 n336), (.int .i64 n337), (.int .i64 n338), (.int .i64 n339), (.int .i64 n340)] ∧
 CA en F.decl_Ahead [(.agg #[(.int .i64 n336), (.int .i64 n337), (.int .i64 n338), (.int .i64 n339), (.int .i64 n340)]), (.int .u64 x1), (.int .u64 x3)] H334 fun v341 H342 =>
 ∃ b343, v341 = (.bool b343) ∧
 bif (!b343) then (
 R (.bool false) H342)
 else (
 ∃ n344, H342.cell i1 0 = some (.int .i64 n344) ∧
 bif (n344 == 4) then (
 ∃ n345, H342.cell i1 3 = some (.int .i64 n345) ∧
 bif (decide (n345 ≥ 1)) then (
 ∃ n346, H342.cell i1 3 = some (.int .i64 n346) ∧
 CA en F.decl_Bucket [(.int .u64 x1), (.int .i64 n346)] H342 fun v347 H348 =>
 ∃ n349, v347 = (.int .i64 n349) ∧
 ∃ n350, H348.cell i1 3 = some (.int .i64 n350) ∧
 CA en F.decl_Bucket [(.int .u64 x2), (.int .i64 n350)] H348 fun v351 H352 =>
 ∃ n353, v351 = (.int .i64 n353) ∧
 bif (decide (n349 < 0)) then (
 R (.bool false) H352)
 else (
 ∃ n354, H352.cell i1 3 = some (.int .i64 n354) ∧
 bif (decide (n349 ≥ n354)) then (
 R (.bool false) H352)
 else (
 bif (decide (n349 < n353)) then (
 bif (!b10) then (
 R (.bool false) H352)
 else (
 bif (n349 == n353) then (
 bif (!(b10 == (decide (x1 < x2)))) then (
 R (.bool false) H352)
 else (
 CA en F.crossbarlaw07_works [] H352 fun v355 H356 =>
 ∃ b357, v355 = (.bool b357) ∧
 R (.bool b357) H356))
 else (
 CA en F.crossbarlaw07_works [] H352 fun v358 H359 =>
 ∃ b360, v358 = (.bool b360) ∧
 R (.bool b360) H359)))
 else (
 bif (n349 == n353) then (
 bif (!(b10 == (decide (x1 < x2)))) then (
 R (.bool false) H352)
 else (
 CA en F.crossbarlaw07_works [] H352 fun v361 H362 =>
 ∃ b363, v361 = (.bool b363) ∧
 R (.bool b363) H362))
 else (
 CA en F.crossbarlaw07_works [] H352 fun v364 H365 =>
 ∃ b366, v364 = (.bool b366) ∧
 R (.bool b366) H365)))))
 else (
 CA en F.crossbarlaw07_works [] H342 fun v367 H368 =>
 ∃ b369, v367 = (.bool b369) ∧
 R (.bool b369) H368))
 else (
 CA en F.crossbarlaw07_works [] H342 fun v370 H371 =>
 ∃ b372, v370 = (.bool b372) ∧
 R (.bool b372) H371)))
 else (
 ∃ n373, H334.cell i1 0 = some (.int .i64 n373) ∧
 bif (n373 == 4) then (
 ∃ n374, H334.cell i1 3 = some (.int .i64 n374) ∧
 bif (decide (n374 ≥ 1)) then (
 ∃ n375, H334.cell i1 3 = some (.int .i64 n375) ∧
 CA en F.decl_Bucket [(.int .u64 x1), (.int .i64 n375)] H334 fun v376 H377 =>
 ∃ n378, v376 = (.int .i64 n378) ∧
 ∃ n379, H377.cell i1 3 = some (.int .i64 n379) ∧
 CA en F.decl_Bucket [(.int .u64 x2), (.int .i64 n379)] H377 fun v380 H381 =>
 ∃ n382, v380 = (.int .i64 n382) ∧
 bif (decide (n378 < 0)) then (
 R (.bool false) H381)
 else (
 ∃ n383, H381.cell i1 3 = some (.int .i64 n383) ∧
 bif (decide (n378 ≥ n383)) then (
 R (.bool false) H381)
 else (
 bif (decide (n378 < n382)) then (
 bif (!b10) then (
 R (.bool false) H381)
 else (
 bif (n378 == n382) then (
 bif (!(b10 == (decide (x1 < x2)))) then (
 R (.bool false) H381)
 else (
 CA en F.crossbarlaw07_works [] H381 fun v384 H385 =>
 ∃ b386, v384 = (.bool b386) ∧
 R (.bool b386) H385))
 else (
 CA en F.crossbarlaw07_works [] H381 fun v387 H388 =>
 ∃ b389, v387 = (.bool b389) ∧
 R (.bool b389) H388)))
 else (
 bif (n378 == n382) then (
 bif (!(b10 == (decide (x1 < x2)))) then (
 R (.bool false) H381)
 else (
 CA en F.crossbarlaw07_works [] H381 fun v390 H391 =>
 ∃ b392, v390 = (.bool b392) ∧
 R (.bool b392) H391))
 else (
 CA en F.crossbarlaw07_works [] H381 fun v393 H394 =>
 ∃ b395, v393 = (.bool b395) ∧
 R (.bool b395) H394)))))
 else (
 CA en F.crossbarlaw07_works [] H334 fun v396 H397 =>
 ∃ b398, v396 = (.bool b398) ∧
 R (.bool b398) H397))
 else (
 CA en F.crossbarlaw07_works [] H334 fun v399 H400 =>
 ∃ b401, v399 = (.bool b401) ∧
 R (.bool b401) H400)))
 else (
 ∃ n402, H17.cell i1 0 = some (.int .i64 n402) ∧
 bif (n402 == 4) then (
 ∃ n403, H17.cell i1 3 = some (.int .i64 n403) ∧
 bif (decide (n403 ≥ 1)) then (
 ∃ n404, H17.cell i1 3 = some (.int .i64 n404) ∧
 CA en F.decl_Bucket [(.int .u64 x1), (.int .i64 n404)] H17 fun v405 H406 =>
 ∃ n407, v405 = (.int .i64 n407) ∧
 ∃ n408, H406.cell i1 3 = some (.int .i64 n408) ∧
 CA en F.decl_Bucket [(.int .u64 x2), (.int .i64 n408)] H406 fun v409 H410 =>
 ∃ n411, v409 = (.int .i64 n411) ∧
 bif (decide (n407 < 0)) then (
 R (.bool false) H410)
 else (
 ∃ n412, H410.cell i1 3 = some (.int .i64 n412) ∧
 bif (decide (n407 ≥ n412)) then (
 R (.bool false) H410)
 else (
 bif (decide (n407 < n411)) then (
 bif (!b10) then (
 R (.bool false) H410)
 else (
 bif (n407 == n411) then (
 bif (!(b10 == (decide (x1 < x2)))) then (
 R (.bool false) H410)
 else (
 CA en F.crossbarlaw07_works [] H410 fun v413 H414 =>
 ∃ b415, v413 = (.bool b415) ∧
 R (.bool b415) H414))
 else (
 CA en F.crossbarlaw07_works [] H410 fun v416 H417 =>
 ∃ b418, v416 = (.bool b418) ∧
 R (.bool b418) H417)))
 else (
 bif (n407 == n411) then (
 bif (!(b10 == (decide (x1 < x2)))) then (
 R (.bool false) H410)
 else (
 CA en F.crossbarlaw07_works [] H410 fun v419 H420 =>
 ∃ b421, v419 = (.bool b421) ∧
 R (.bool b421) H420))
 else (
 CA en F.crossbarlaw07_works [] H410 fun v422 H423 =>
 ∃ b424, v422 = (.bool b424) ∧
 R (.bool b424) H423)))))
 else (
 CA en F.crossbarlaw07_works [] H17 fun v425 H426 =>
 ∃ b427, v425 = (.bool b427) ∧
 R (.bool b427) H426))
 else (
 CA en F.crossbarlaw07_works [] H17 fun v428 H429 =>
 ∃ b430, v428 = (.bool b430) ∧
 R (.bool b430) H429)))))) →
    CA en F.crossbarlaw07_DeclOrder [(.agg #[(.int .i64 x0_0), (.int .i64 x0_1), (.int .i64 x0_2), (.int .i64 x0_3), (.int .i64 x0_4)]), (.int .u64 x1), (.int .u64 x2), (.int .u64 x3)] H R := by
  intro h
  refine wpFn_ok (Z := []) (fn := Go.Proofs.Try.f5) ?_ ?_ ?_
  · kernel_rfl
  · kernel_rfl
  · apply turnInto h
    kernel_rfl


/-! decl_Bloom -/

theorem vc_decl_Bloom (x0 : Int) (x1 : Int) (H : Heap) (R : Value → Heap → Prop) :
    (
 CA en F.decl_Bucket [(.int .u64 x0), (.int .i64 x1)] H fun v1 H2 =>
 ∃ n3, v1 = (.int .i64 n3) ∧
 nn 58 ∧
 nn (Int.fdiv (IntKind.u64.wrap (x0 * 14029467366897019727)) 288230376151711744) ∧
 nn 52 ∧
 nn (IntKind.u64.wrap ((BitVec.ofInt 64 (Int.fdiv (IntKind.u64.wrap (x0 * 14029467366897019727)) 4503599627370496) &&& (BitVec.ofInt 64 63)).toNat : Int)) ∧
 nn 46 ∧
 nn (IntKind.u64.wrap ((BitVec.ofInt 64 (Int.fdiv (IntKind.u64.wrap (x0 * 14029467366897019727)) 70368744177664) &&& (BitVec.ofInt 64 63)).toNat : Int)) ∧
 R (.tuple #[(.int .i64 n3), (.int .u64 (IntKind.u64.wrap ((BitVec.ofInt 64 (IntKind.u64.wrap ((BitVec.ofInt 64 (IntKind.u64.wrap (1 * 2 ^ (min (Int.fdiv (IntKind.u64.wrap (x0 * 14029467366897019727)) 288230376151711744).toNat 64))) ||| (BitVec.ofInt 64 (IntKind.u64.wrap (1 * 2 ^ (min (IntKind.u64.wrap ((BitVec.ofInt 64 (Int.fdiv (IntKind.u64.wrap (x0 * 14029467366897019727)) 4503599627370496) &&& (BitVec.ofInt 64 63)).toNat : Int)).toNat 64))))).toNat : Int)) ||| (BitVec.ofInt 64 (IntKind.u64.wrap (1 * 2 ^ (min (IntKind.u64.wrap ((BitVec.ofInt 64 (Int.fdiv (IntKind.u64.wrap (x0 * 14029467366897019727)) 70368744177664) &&& (BitVec.ofInt 64 63)).toNat : Int)).toNat 64))))).toNat : Int)))]) H2) →
    CA en F.decl_Bloom [(.int .u64 x0), (.int .i64 x1)] H R := by
  intro h
  refine wpFn_ok (Z := []) (fn := Go.Proofs.Try.f17) ?_ ?_ ?_
  · kernel_rfl
  · kernel_rfl
  · apply turnInto h
    kernel_rfl


/-! decl_Ahead -/

theorem vc_decl_Ahead (x0_0 : Int) (x0_1 : Int) (x0_2 : Int) (x0_3 : Int) (x0_4 : Int) (x1 : Int) (x2 : Int) (H : Heap) (R : Value → Heap → Prop) :
    (
 nwH H (.cells true 0 [(.int .i64 x0_0), (.int .i64 x0_1), (.int .i64 x0_2), (.int .i64 x0_3), (.int .i64 x0_4)]) fun i1 H2 =>
 ∃ n3, H2.cell i1 0 = some (.int .i64 n3) ∧
 CA en F.decl_kinds [(.int .i64 n3)] H2 fun v4 H5 =>
 ∃ n6, ∃ b7, ∃ b8, ∃ a9 i10, ∃ b11, ∃ b12, v4 = (.tuple #[(.agg #[(.int .i64 n6), (.bool b7), (.bool b8), (.slice a9 i10 0), (.bool b11)]), (.bool b12)]) ∧
 nwH H5 (.cells true 0 [(.int .i64 0), (.bool false), (.bool false), (.slice none 0 0), (.bool false)]) fun i13 H14 =>
 stc H14 i13 0 [(.int .i64 n6), (.bool b7), (.bool b8), (.slice a9 i10 0), (.bool b11)] fun H15 =>
 ∃ b16, H15.cell i13 4 = some (.bool b16) ∧
 bif b16 then (
 ∃ n17, H15.cell i1 3 = some (.int .i64 n17) ∧
 CA en F.decl_Bucket [(.int .u64 x1), (.int .i64 n17)] H15 fun v18 H19 =>
 ∃ n20, v18 = (.int .i64 n20) ∧
 CA en F.decl_Bucket [(.int .u64 x2), (.int .i64 n17)] H19 fun v21 H22 =>
 ∃ n23, v21 = (.int .i64 n23) ∧
 bif (n20 != n23) then (
 R (.bool (decide (n20 < n23))) H22)
 else (
 R (.bool (decide (x1 < x2))) H22))
 else (
 CA en F.decl_Bucket [(.int .u64 x1), (.int .i64 0)] H15 fun v24 H25 =>
 ∃ n26, v24 = (.int .i64 n26) ∧
 CA en F.decl_Bucket [(.int .u64 x2), (.int .i64 0)] H25 fun v27 H28 =>
 ∃ n29, v27 = (.int .i64 n29) ∧
 bif (n26 != n29) then (
 R (.bool (decide (n26 < n29))) H28)
 else (
 R (.bool (decide (x1 < x2))) H28))) →
    CA en F.decl_Ahead [(.agg #[(.int .i64 x0_0), (.int .i64 x0_1), (.int .i64 x0_2), (.int .i64 x0_3), (.int .i64 x0_4)]), (.int .u64 x1), (.int .u64 x2)] H R := by
  intro h
  refine wpFn_ok (Z := []) (fn := Go.Proofs.Try.f18) ?_ ?_ ?_
  · kernel_rfl
  · kernel_rfl
  · apply turnInto h
    kernel_rfl


/-! decl_Bucket -/

theorem vc_decl_Bucket (x0 : Int) (x1 : Int) (H : Heap) (R : Value → Heap → Prop) :
    (
 bif (decide (x1 < 1)) then (
 R (.int .i64 0) H)
 else (
 nn 32 ∧
 nz (IntKind.u64.wrap x1) ∧
 R (.int .i64 (IntKind.i64.wrap (Int.tmod (Int.fdiv (IntKind.u64.wrap (x0 * 11400714819323198485)) 4294967296) (IntKind.u64.wrap x1)))) H)) →
    CA en F.decl_Bucket [(.int .u64 x0), (.int .i64 x1)] H R := by
  intro h
  refine wpFn_ok (Z := []) (fn := Go.Proofs.Try.f19) ?_ ?_ ?_
  · kernel_rfl
  · kernel_rfl
  · apply turnInto h
    kernel_rfl


/-! decl_kinds -/

theorem vc_decl_kinds (x0 : Int) (H : Heap) (R : Value → Heap → Prop) :
    (
 nwH H (.cells true 0 [(.int .i64 0), (.bool false), (.bool false), (.slice none 0 0), (.bool false)]) fun i1 H2 =>
 nwH H2 (.cells true 1 [(.int .i64 1), (.int .i64 2), (.int .i64 4)]) fun i3 H4 =>
 nwH H4 (.cells true 1 [(.int .i64 6), (.int .i64 7), (.int .i64 8)]) fun i5 H6 =>
 nwH H6 (.cells true 1 [(.int .i64 3), (.int .i64 5)]) fun i7 H8 =>
 ∃ l9, rowOf H8 1 (some ⟨i3, 0, none⟩) 3 = some l9 ∧
 apd H8 8 1 (some ⟨i7, 0, none⟩) 2 3 l9 fun a10 i11 H12 =>
 nwH H12 (.cells true 1 [(.int .i64 3)]) fun i13 H14 =>
 ∃ l15, rowOf H14 1 (some ⟨i3, 0, none⟩) 3 = some l15 ∧
 apd H14 8 1 (some ⟨i13, 0, none⟩) 1 3 l15 fun a16 i17 H18 =>
 nwH H18 (.cells true 1 [(.int .i64 6), (.int .i64 8)]) fun i19 H20 =>
 nwH H20 (.cells true 0 [(.int .i64 0), (.bool false), (.bool false), (.slice none 0 0), (.bool false), (.int .i64 0), (.bool false), (.bool false), (.slice none 0 0), (.bool false), (.int .i64 0), (.bool false), (.bool false), (.slice none 0 0), (.bool false), (.int .i64 0), (.bool false), (.bool false), (.slice none 0 0), (.bool false), (.int .i64 0), (.bool false), (.bool false), (.slice none 0 0), (.bool false), (.int .i64 0), (.bool false), (.bool false), (.slice none 0 0), (.bool false), (.int .i64 0), (.bool false), (.bool false), (.slice none 0 0), (.bool false), (.int .i64 0), (.bool false), (.bool false), (.slice none 0 0), (.bool false), (.int .i64 0), (.bool false), (.bool false), (.slice none 0 0), (.bool false), (.int .i64 0), (.bool false), (.bool false), (.slice none 0 0), (.bool false), (.int .i64 0), (.bool false), (.bool false), (.slice none 0 0), (.bool false)]) fun i21 H22 =>
 stc H22 i21 0 [(.int .i64 0), (.bool false), (.bool false), (.slice none 0 0), (.bool false), (.int .i64 1), (.bool false), (.bool false), (.slice (some ⟨i3, 0, none⟩) 3 0), (.bool false), (.int .i64 1), (.bool false), (.bool false), (.slice (some ⟨i3, 0, none⟩) 3 0), (.bool false), (.int .i64 4), (.bool false), (.bool false), (.slice (some ⟨i3, 0, none⟩) 3 0), (.bool false), (.int .i64 1), (.bool true), (.bool false), (.slice a10 i11 0), (.bool true), (.int .i64 1), (.bool false), (.bool false), (.slice a10 i11 0), (.bool false), (.int .i64 4), (.bool false), (.bool false), (.slice (some ⟨i5, 0, none⟩) 3 0), (.bool false), (.int .i64 4), (.bool false), (.bool false), (.slice (some ⟨i5, 0, none⟩) 3 0), (.bool false), (.int .i64 1), (.bool true), (.bool false), (.slice (some ⟨i19, 0, none⟩) 2 0), (.bool false), (.int .i64 1), (.bool false), (.bool true), (.slice a16 i17 0), (.bool false), (.int .i64 1), (.bool true), (.bool true), (.slice a16 i17 0), (.bool true)] fun H23 =>
 bif (decide (x0 < 1)) then (
 stc H23 i1 0 [(.int .i64 0), (.bool false), (.bool false), (.slice none 0 0), (.bool false)] fun H24 =>
 ∃ n25, ∃ b26, ∃ b27, ∃ a28 i29, ∃ b30, H24.cellsAt i1 0 5 = some [(.int .i64 n25), (.bool b26), (.bool b27), (.slice a28 i29 0), (.bool b30)] ∧
 R (.tuple #[(.agg #[(.int .i64 n25), (.bool b26), (.bool b27), (.slice a28 i29 0), (.bool b30)]), (.bool false)]) H24)
 else (
 bif (decide (x0 ≥ 11)) then (
 stc H23 i1 0 [(.int .i64 0), (.bool false), (.bool false), (.slice none 0 0), (.bool false)] fun H31 =>
 ∃ n32, ∃ b33, ∃ b34, ∃ a35 i36, ∃ b37, H31.cellsAt i1 0 5 = some [(.int .i64 n32), (.bool b33), (.bool b34), (.slice a35 i36 0), (.bool b37)] ∧
 R (.tuple #[(.agg #[(.int .i64 n32), (.bool b33), (.bool b34), (.slice a35 i36 0), (.bool b37)]), (.bool false)]) H31)
 else (
 inB x0 11 ∧
 ∃ n38, ∃ b39, ∃ b40, ∃ a41 i42, ∃ b43, H23.cellsAt i21 (0 + (x0.toNat * 5)) 5 = some [(.int .i64 n38), (.bool b39), (.bool b40), (.slice a41 i42 0), (.bool b43)] ∧
 stc H23 i1 0 [(.int .i64 n38), (.bool b39), (.bool b40), (.slice a41 i42 0), (.bool b43)] fun H44 =>
 ∃ n45, ∃ b46, ∃ b47, ∃ a48 i49, ∃ b50, H44.cellsAt i1 0 5 = some [(.int .i64 n45), (.bool b46), (.bool b47), (.slice a48 i49 0), (.bool b50)] ∧
 R (.tuple #[(.agg #[(.int .i64 n45), (.bool b46), (.bool b47), (.slice a48 i49 0), (.bool b50)]), (.bool true)]) H44))) →
    CA en F.decl_kinds [(.int .i64 x0)] H R := by
  intro h
  refine wpFn_ok (Z := []) (fn := Go.Proofs.Try.f41) ?_ ?_ ?_
  · kernel_rfl
  · kernel_rfl
  · apply turnInto h
    kernel_rfl


/-! crossbarref07_Bloom -/
noncomputable def L_crossbarref07_Bloom_0 : Code := loopAt Go.Proofs.Try.f20 0

theorem vc_crossbarref07_Bloom (x0 : Int) (x1 : Int) (H : Heap) (R : Value → Heap → Prop) :
    (
 LA en L_crossbarref07_Bloom_0 [(.int .u64 x0), (.int .i64 x1), undef, undef, (.int .i64 0), (.int .u64 0), (.int .u64 (IntKind.u64.wrap (x0 * 14029467366897019727))), (.int .u64 0), (.int .i64 0), undef, (.int .u64 x0), (.int .u64 (IntKind.u64.wrap (x0 * 14029467366897019727))), undef, undef, undef, undef, undef, undef, undef, undef, undef, undef, undef, undef, undef, undef, undef, undef, undef, undef, undef, undef, undef, undef, undef, undef, undef, undef, undef, undef, undef, undef, undef, undef, undef] H [(X.exit 0, fun (y1 : Fr) (H2 : Heap) =>
 AS.asInt .u64 (y1.getD 7 undef) fun n3 =>
 CA en F.crossbarref07_Bucket [(.int .u64 x0), (.int .i64 x1)] H2 fun v4 H5 =>
 ∃ n6, v4 = (.int .i64 n6) ∧
 R (.tuple #[(.int .i64 n6), (.int .u64 n3)]) H5)]) →
    CA en F.crossbarref07_Bloom [(.int .u64 x0), (.int .i64 x1)] H R := by
  intro h
  refine wpFn_ok (Z := [[(7, (.int .u64 0))]]) (fn := Go.Proofs.Try.f20) ?_ ?_ ?_
  · kernel_rfl
  · kernel_rfl
  · apply turnInto h
    kernel_rfl

theorem use_crossbarref07_Bloom_0 {t0 : Int} {t1 : Int} {t6 : Int} {t10 : Int} {t11 : Int} {K0 : Fr → Heap → Prop} {t7 : Int} {t8 : Int} {t9 : Value} {t12 : Value} {t13 : Value} {t14 : Value} {t15 : Value} {t16 : Value} {t17 : Value} {t18 : Value} {t19 : Value} {t20 : Value} {t21 : Value} {t22 : Value} {t23 : Value} {t24 : Value} {t25 : Value} {t26 : Value} {t27 : Value} {t28 : Value} {t29 : Value} {t30 : Value} {t31 : Value} {t32 : Value} {t33 : Value} {t34 : Value} {t35 : Value} {t36 : Value} {t37 : Value} {t38 : Value} {t39 : Value} {t40 : Value} {H : Heap} (I : Nat → Int → Int → Heap → Prop) (n : Nat) (h0 : I n t7 t8 H)
    (hstep : ∀ (n : Nat) (t7 : Int) (t8 : Int) (ys : Fr) (H : Heap), I n t7 t8 H →
    (
 bif (decide (t8 < 64)) then (
 nn 58 ∧
 bif ((Int.fdiv t6 288230376151711744) == (IntKind.u64.wrap t8)) then (
 nn (IntKind.u64.wrap t8) ∧
 ∃ k1, k1 < n ∧
 I k1 (IntKind.u64.wrap (t7 + (IntKind.u64.wrap (1 * 2 ^ (min (IntKind.u64.wrap t8).toNat 64))))) (IntKind.i64.wrap (t8 + 1)) H)
 else (
 nn 52 ∧
 nz 64 ∧
 bif ((Int.tmod (Int.fdiv t6 4503599627370496) 64) == (IntKind.u64.wrap t8)) then (
 nn (IntKind.u64.wrap t8) ∧
 ∃ k2, k2 < n ∧
 I k2 (IntKind.u64.wrap (t7 + (IntKind.u64.wrap (1 * 2 ^ (min (IntKind.u64.wrap t8).toNat 64))))) (IntKind.i64.wrap (t8 + 1)) H)
 else (
 nn 46 ∧
 nz 64 ∧
 bif ((Int.tmod (Int.fdiv t6 70368744177664) 64) == (IntKind.u64.wrap t8)) then (
 nn (IntKind.u64.wrap t8) ∧
 ∃ k3, k3 < n ∧
 I k3 (IntKind.u64.wrap (t7 + (IntKind.u64.wrap (1 * 2 ^ (min (IntKind.u64.wrap t8).toNat 64))))) (IntKind.i64.wrap (t8 + 1)) H)
 else (
 ∃ k4, k4 < n ∧
 I k4 t7 (IntKind.i64.wrap (t8 + 1)) H))))
 else (
 K0 [(.int .u64 t0), (.int .i64 t1), undef, undef, (.int .i64 0), (.int .u64 0), (.int .u64 t6), (.int .u64 t7), (.int .i64 t8), (ys.getD 9 undef), (.int .u64 t10), (.int .u64 t11), (.int .i64 t8), (.bool false), (ys.getD 14 undef), (ys.getD 15 undef), (ys.getD 16 undef), (ys.getD 17 undef), (ys.getD 18 undef), (ys.getD 19 undef), (ys.getD 20 undef), (ys.getD 21 undef), (ys.getD 22 undef), (ys.getD 23 undef), (ys.getD 24 undef), (ys.getD 25 undef), (ys.getD 26 undef), (ys.getD 27 undef), (ys.getD 28 undef), (ys.getD 29 undef), (ys.getD 30 undef), (ys.getD 31 undef), (ys.getD 32 undef), (ys.getD 33 undef), (ys.getD 34 undef), (ys.getD 35 undef), (ys.getD 36 undef), (ys.getD 37 undef), (ys.getD 38 undef), (ys.getD 39 undef), (ys.getD 40 undef), undef, undef, undef, undef] H))) :
    LA en L_crossbarref07_Bloom_0 [(.int .u64 t0), (.int .i64 t1), undef, undef, (.int .i64 0), (.int .u64 0), (.int .u64 t6), (.int .u64 t7), (.int .i64 t8), t9, (.int .u64 t10), (.int .u64 t11), t12, t13, t14, t15, t16, t17, t18, t19, t20, t21, t22, t23, t24, t25, t26, t27, t28, t29, t30, t31, t32, t33, t34, t35, t36, t37, t38, t39, t40, undef, undef, undef, undef] H [(X.exit 0, K0)] := by
  refine LA_rule (Z := []) (fun m xs H' => AS.asInt .u64 (xs.getD 7 undef) fun t7 => AS.asInt .i64 (xs.getD 8 undef) fun t8 => I m t7 t8 H') ?_ n H ?_
  · intro n H
    suffices hs : ∀ s12 : Value, ∀ s13 : Value, ∀ s16 : Value, ∀ s17 : Value, ∀ s9 : Value, ∀ s18 : Value, ∀ s19 : Value, ∀ s20 : Value, ∀ s21 : Value, ∀ s22 : Value, ∀ s23 : Value, ∀ s24 : Value, ∀ s25 : Value, ∀ s26 : Value, ∀ s27 : Value, ∀ s28 : Value, ∀ s29 : Value, ∀ s30 : Value, ∀ s31 : Value, ∀ s32 : Value, ∀ s33 : Value, ∀ s34 : Value, ∀ s35 : Value, ∀ s36 : Value, ∀ s37 : Value, ∀ s38 : Value, ∀ s39 : Value, ∀ s40 : Value, ∀ s7 : Value, ∀ s14 : Value, ∀ s15 : Value, ∀ s8 : Value, ((AS.asInt .u64 s7 fun t7 => AS.asInt .i64 s8 fun t8 => I n t7 t8 H) → wpCode en L_crossbarref07_Bloom_0 [] [(.int .u64 t0), (.int .i64 t1), undef, undef, (.int .i64 0), (.int .u64 0), (.int .u64 t6), s7, s8, s9, (.int .u64 t10), (.int .u64 t11), s12, s13, s14, s15, s16, s17, s18, s19, s20, s21, s22, s23, s24, s25, s26, s27, s28, s29, s30, s31, s32, s33, s34, s35, s36, s37, s38, s39, s40, undef, undef, undef, undef] H (loopQ (fun m xs H' => AS.asInt .u64 (xs.getD 7 undef) fun t7 => AS.asInt .i64 (xs.getD 8 undef) fun t8 => I m t7 t8 H') n [(X.exit 0, K0)])) by
      apply turnInto hs
      kernel_rfl
    intro s12 s13 s16 s17 s9 s18 s19 s20 s21 s22 s23 s24 s25 s26 s27 s28 s29 s30 s31 s32 s33 s34 s35 s36 s37 s38 s39 s40 s7 s14 s15 s8 hP
    replace hP := asInt_elim hP
    obtain ⟨t7, rfl, hP⟩ := hP
    replace hP := asInt_elim hP
    obtain ⟨t8, rfl, hP⟩ := hP
    apply turnInto (hstep n t7 t8 [(.int .u64 t0), (.int .i64 t1), undef, undef, (.int .i64 0), (.int .u64 0), (.int .u64 t6), (.int .u64 t7), (.int .i64 t8), s9, (.int .u64 t10), (.int .u64 t11), s12, s13, s14, s15, s16, s17, s18, s19, s20, s21, s22, s23, s24, s25, s26, s27, s28, s29, s30, s31, s32, s33, s34, s35, s36, s37, s38, s39, s40, undef, undef, undef, undef] H hP)
    kernel_rfl
  · apply turnInto h0
    kernel_rfl


/-! crossbarref07_Bucket -/

theorem vc_crossbarref07_Bucket (x0 : Int) (x1 : Int) (H : Heap) (R : Value → Heap → Prop) :
    (
 bif (decide (x1 < 1)) then (
 R (.int .i64 0) H)
 else (
 nz 4294967296 ∧
 nz (IntKind.u64.wrap x1) ∧
 R (.int .i64 (IntKind.i64.wrap (Int.tmod (IntKind.u64.wrap (Int.tdiv (IntKind.u64.wrap (x0 * 11400714819323198485)) 4294967296)) (IntKind.u64.wrap x1)))) H)) →
    CA en F.crossbarref07_Bucket [(.int .u64 x0), (.int .i64 x1)] H R := by
  intro h
  refine wpFn_ok (Z := []) (fn := Go.Proofs.Try.f25) ?_ ?_ ?_
  · kernel_rfl
  · kernel_rfl
  · apply turnInto h
    kernel_rfl


/-! crossbarref07_Ahead -/

theorem vc_crossbarref07_Ahead (x0_0 : Int) (x0_1 : Int) (x0_2 : Int) (x0_3 : Int) (x0_4 : Int) (x1 : Int) (x2 : Int) (H : Heap) (R : Value → Heap → Prop) :
    (
 nwH H (.cells true 0 [(.int .i64 x0_0), (.int .i64 x0_1), (.int .i64 x0_2), (.int .i64 x0_3), (.int .i64 x0_4)]) fun i1 H2 =>
 ∃ n3, H2.cell i1 0 = some (.int .i64 n3) ∧
 bif (n3 == 4) then (
 ∃ n4, H2.cell i1 3 = some (.int .i64 n4) ∧
 CA en F.crossbarref07_Bucket [(.int .u64 x1), (.int .i64 n4)] H2 fun v5 H6 =>
 ∃ n7, v5 = (.int .i64 n7) ∧
 ∃ n8, H6.cell i1 3 = some (.int .i64 n8) ∧
 CA en F.crossbarref07_Bucket [(.int .u64 x2), (.int .i64 n8)] H6 fun v9 H10 =>
 ∃ n11, v9 = (.int .i64 n11) ∧
 bif (n7 != n11) then (
 R (.bool (decide (n7 < n11))) H10)
 else (
 R (.bool (decide (x1 < x2))) H10))
 else (
 ∃ n12, H2.cell i1 0 = some (.int .i64 n12) ∧
 bif (n12 == 10) then (
 ∃ n13, H2.cell i1 3 = some (.int .i64 n13) ∧
 CA en F.crossbarref07_Bucket [(.int .u64 x1), (.int .i64 n13)] H2 fun v14 H15 =>
 ∃ n16, v14 = (.int .i64 n16) ∧
 ∃ n17, H15.cell i1 3 = some (.int .i64 n17) ∧
 CA en F.crossbarref07_Bucket [(.int .u64 x2), (.int .i64 n17)] H15 fun v18 H19 =>
 ∃ n20, v18 = (.int .i64 n20) ∧
 bif (n16 != n20) then (
 R (.bool (decide (n16 < n20))) H19)
 else (
 R (.bool (decide (x1 < x2))) H19))
 else (
 R (.bool (decide (x1 < x2))) H2))) →
    CA en F.crossbarref07_Ahead [(.agg #[(.int .i64 x0_0), (.int .i64 x0_1), (.int .i64 x0_2), (.int .i64 x0_3), (.int .i64 x0_4)]), (.int .u64 x1), (.int .u64 x2)] H R := by
  intro h
  refine wpFn_ok (Z := []) (fn := Go.Proofs.Try.f26) ?_ ?_ ?_
  · kernel_rfl
  · kernel_rfl
  · apply turnInto h
    kernel_rfl


/-! slices_Contains_int_int -/

theorem vc_slices_Contains_int_int (x0 : Option Addr) (x0l : Nat) (x1 : Int) (H : Heap) (R : Value → Heap → Prop) :
    (
 CA en F.slices_Index_int_int [(.slice x0 x0l 0), (.int .i64 x1)] H fun v1 H2 =>
 ∃ n3, v1 = (.int .i64 n3) ∧
 R (.bool (decide (n3 ≥ 0))) H2) →
    CA en F.slices_Contains_int_int [(.slice x0 x0l 0), (.int .i64 x1)] H R := by
  intro h
  refine wpFn_ok (Z := []) (fn := Go.Proofs.Try.f42) ?_ ?_ ?_
  · kernel_rfl
  · kernel_rfl
  · apply turnInto h
    kernel_rfl


/-! slices_Index_int_int -/
noncomputable def L_slices_Index_int_int_0 : Code := loopAt Go.Proofs.Try.f62 0

theorem vc_slices_Index_int_int (x0 : Option Addr) (x0l : Nat) (x1 : Int) (H : Heap) (R : Value → Heap → Prop) :
    (
 LA en L_slices_Index_int_int_0 [(.slice x0 x0l 0), (.int .i64 x1), undef, undef, (.int .i64 0), undef, (.slice x0 x0l 0), (.int .i64 ((x0l : Nat) : Int)), (.int .i64 0), undef, undef, undef, undef, undef, undef, undef, undef, undef, undef] H [(X.exit 0, fun (y1 : Fr) (H2 : Heap) =>
 AS.asInt .i64 (y1.getD 4 undef) fun n3 =>
 R (.int .i64 (-1)) H2),
 (X.ret, fun (y4 : Fr) (H5 : Heap) =>
 AS.asInt .i64 (y4.getD 4 undef) fun n6 =>
 R (.int .i64 n6) H5)]) →
    CA en F.slices_Index_int_int [(.slice x0 x0l 0), (.int .i64 x1)] H R := by
  intro h
  refine wpFn_ok (Z := [[(4, (.int .i64 0))]]) (fn := Go.Proofs.Try.f62) ?_ ?_ ?_
  · kernel_rfl
  · kernel_rfl
  · apply turnInto h
    kernel_rfl

theorem use_slices_Index_int_int_0 {t0 : Option Addr} {t0l : Nat} {t1 : Int} {t6 : Option Addr} {t6l : Nat} {t7 : Int} {K0 : Fr → Heap → Prop} {K1 : Fr → Heap → Prop} {t4 : Int} {t8 : Int} {t5 : Value} {t9 : Value} {t10 : Value} {t11 : Value} {t12 : Value} {t13 : Value} {t14 : Value} {t15 : Value} {t16 : Value} {t17 : Value} {t18 : Value} {H : Heap} (I : Nat → Int → Int → Heap → Prop) (n : Nat) (h0 : I n t4 t8 H)
    (hstep : ∀ (n : Nat) (t4 : Int) (t8 : Int) (ys : Fr) (H : Heap), I n t4 t8 H →
    (
 bif (decide (t8 < t7)) then (
 inB t8 t0l ∧
 asRow t0 fun i1 i2 =>
 ∃ n3, H.cell i1 (i2 + (t8.toNat * 1)) = some (.int .i64 n3) ∧
 bif (t1 == n3) then (
 K1 [(.slice t0 t0l 0), (.int .i64 t1), undef, undef, (.int .i64 t8), (.int .i64 t8), (.slice t6 t6l 0), (.int .i64 t7), (.int .i64 t8), (.bool true), (.int .i64 t8), (.int .i64 t1), (.slice t0 t0l 0), (.int .i64 t8), (.pointer (some ⟨i1, (i2 + (t8.toNat * 1)), none⟩)), (.int .i64 n3), (.bool true), (.int .i64 t8), (ys.getD 18 undef)] H)
 else (
 ∃ k4, k4 < n ∧
 I k4 t4 (IntKind.i64.wrap (t8 + 1)) H))
 else (
 K0 [(.slice t0 t0l 0), (.int .i64 t1), undef, undef, (.int .i64 t4), (ys.getD 5 undef), (.slice t6 t6l 0), (.int .i64 t7), (.int .i64 t8), (.bool false), (ys.getD 10 undef), (ys.getD 11 undef), (ys.getD 12 undef), (ys.getD 13 undef), (ys.getD 14 undef), (ys.getD 15 undef), (ys.getD 16 undef), (ys.getD 17 undef), (ys.getD 18 undef)] H))) :
    LA en L_slices_Index_int_int_0 [(.slice t0 t0l 0), (.int .i64 t1), undef, undef, (.int .i64 t4), t5, (.slice t6 t6l 0), (.int .i64 t7), (.int .i64 t8), t9, t10, t11, t12, t13, t14, t15, t16, t17, t18] H [(X.exit 0, K0), (X.ret, K1)] := by
  refine LA_rule (Z := []) (fun m xs H' => AS.asInt .i64 (xs.getD 4 undef) fun t4 => AS.asInt .i64 (xs.getD 8 undef) fun t8 => I m t4 t8 H') ?_ n H ?_
  · intro n H
    suffices hs : ∀ s9 : Value, ∀ s10 : Value, ∀ s5 : Value, ∀ s11 : Value, ∀ s12 : Value, ∀ s13 : Value, ∀ s14 : Value, ∀ s15 : Value, ∀ s16 : Value, ∀ s17 : Value, ∀ s4 : Value, ∀ s18 : Value, ∀ s8 : Value, ((AS.asInt .i64 s4 fun t4 => AS.asInt .i64 s8 fun t8 => I n t4 t8 H) → wpCode en L_slices_Index_int_int_0 [] [(.slice t0 t0l 0), (.int .i64 t1), undef, undef, s4, s5, (.slice t6 t6l 0), (.int .i64 t7), s8, s9, s10, s11, s12, s13, s14, s15, s16, s17, s18] H (loopQ (fun m xs H' => AS.asInt .i64 (xs.getD 4 undef) fun t4 => AS.asInt .i64 (xs.getD 8 undef) fun t8 => I m t4 t8 H') n [(X.exit 0, K0), (X.ret, K1)])) by
      apply turnInto hs
      kernel_rfl
    intro s9 s10 s5 s11 s12 s13 s14 s15 s16 s17 s4 s18 s8 hP
    replace hP := asInt_elim hP
    obtain ⟨t4, rfl, hP⟩ := hP
    replace hP := asInt_elim hP
    obtain ⟨t8, rfl, hP⟩ := hP
    apply turnInto (hstep n t4 t8 [(.slice t0 t0l 0), (.int .i64 t1), undef, undef, (.int .i64 t4), s5, (.slice t6 t6l 0), (.int .i64 t7), (.int .i64 t8), s9, s10, s11, s12, s13, s14, s15, s16, s17, s18] H hP)
    kernel_rfl
  · apply turnInto h0
    kernel_rfl


/-! decl_within -/

theorem vc_decl_within (x0 : Int) (x1 : Int) (H : Heap) (R : Value → Heap → Prop) :
    (
 bif (decide (x0 ≥ 1)) then (
 R (.bool (decide (x0 ≤ x1))) H)
 else (
 R (.bool false) H)) →
    CA en F.decl_within [(.int .i64 x0), (.int .i64 x1)] H R := by
  intro h
  refine wpFn_ok (Z := []) (fn := Go.Proofs.Try.f58) ?_ ?_ ?_
  · kernel_rfl
  · kernel_rfl
  · apply turnInto h
    kernel_rfl

end Go.Proofs.Ytlkmdcncpdadbaa
