/-
  What functions of this seat's program need (printed by a program, checked by the kernel).
-/
import Derived.Test.YthnifkjpkepbaaaNames
import Derived.Test.YthnifkjpkepbaaaAs41
namespace Go.Proofs.Ythnifkjpkepbaaa
open Go Go.AS Go.RowKit
set_option linter.unusedVariables false
set_option maxRecDepth 100000

/-! lock_Take -/

theorem vc_lock_Take (x0 : Option Addr) (x1 : Int) (x2 : Int) (H : Heap) (R : Value → Heap → Prop) :
    (
 nwH H (.cells true 0 [(.pointer x0), (.int .i64 x1), (.int .i64 x2), (.int .u64 0), .nilFunc]) fun i1 H2 =>
 stc H2 i1 4 [(.func (.func F.lock_Taker_draw) #[(.pointer (some ⟨i1, 0, none⟩))] #[])] fun H3 =>
 R (.pointer (some ⟨i1, 0, none⟩)) H3) →
    CA en F.lock_Take [(.pointer x0), (.int .i64 x1), (.int .i64 x2)] H R := by
  intro h
  refine wpFn_ok (Z := []) (fn := Go.Proofs.Try.f14) ?_ ?_ ?_
  · kernel_rfl
  · kernel_rfl
  · apply turnInto h
    kernel_rfl


/-! lock_Taker_Step -/

theorem vc_lock_Taker_Step (x0 : Option Addr) (H : Heap) (R : Value → Heap → Prop) :
    (
 AS.asAddr (.pointer x0) fun i1 i2 =>
 ∃ v3, H.cell i1 (i2 + 4) = some v3 ∧
 AS.asFn v3 fun f4 l5 l6 =>
 (∃ fn, en.fn f4 = some fn) ∧
 CA en f4 (l5 ++ [] ++ l6) H fun v7 H8 =>
 ∃ b9, v7 = (.bool b9) ∧
 R (.bool b9) H8) →
    CA en F.lock_Taker_Step [(.pointer x0)] H R := by
  intro h
  refine wpFn_ok (Z := []) (fn := Go.Proofs.Try.f15) ?_ ?_ ?_
  · kernel_rfl
  · kernel_rfl
  · apply turnInto h
    kernel_rfl


/-! lock_Drop -/

theorem vc_lock_Drop (x0 : Option Addr) (x1 : Int) (x2 : Int) (H : Heap) (R : Value → Heap → Prop) :
    (
 CA en F.lock_more [(.pointer x0), (.int .i64 x1), (.int .i64 (IntKind.i64.wrap (x2 + 1)))] H fun v1 H2 =>
 ∃ n3, ∃ b4, v1 = (.tuple #[(.int .u64 n3), (.bool b4)]) ∧
 R (.bool b4) H2) →
    CA en F.lock_Drop [(.pointer x0), (.int .i64 x1), (.int .i64 x2)] H R := by
  intro h
  refine wpFn_ok (Z := []) (fn := Go.Proofs.Try.f17) ?_ ?_ ?_
  · kernel_rfl
  · kernel_rfl
  · apply turnInto h
    kernel_rfl


/-! lock_Begin -/

theorem vc_lock_Begin (x0 : Option Addr) (x1 : Int) (x2 : Int) (H : Heap) (R : Value → Heap → Prop) :
    (
 CA en F.lock_more [(.pointer x0), (.int .i64 x1), (.int .i64 x2)] H fun v1 H2 =>
 ∃ n3, ∃ b4, v1 = (.tuple #[(.int .u64 n3), (.bool b4)]) ∧
 R (.bool b4) H2) →
    CA en F.lock_Begin [(.pointer x0), (.int .i64 x1), (.int .i64 x2)] H R := by
  intro h
  refine wpFn_ok (Z := []) (fn := Go.Proofs.Try.f19) ?_ ?_ ?_
  · kernel_rfl
  · kernel_rfl
  · apply turnInto h
    kernel_rfl


/-! lock_Read -/

theorem vc_lock_Read (x0 : Option Addr) (x1 : Int) (x2 : Int) (H : Heap) (R : Value → Heap → Prop) :
    (
 CA en F.smem_Mem_Load [(.pointer x0), (.int .i64 x1), (.int .i64 x2)] H fun v1 H2 =>
 ∃ n3, ∃ b4, v1 = (.tuple #[(.int .u64 n3), (.bool b4)]) ∧
 bif b4 then (
 nz 2 ∧
 R (.tuple #[(.int .u64 n3), (.bool ((Int.tmod n3 2) == 0))]) H2)
 else (
 R (.tuple #[(.int .u64 n3), (.bool false)]) H2)) →
    CA en F.lock_Read [(.pointer x0), (.int .i64 x1), (.int .i64 x2)] H R := by
  intro h
  refine wpFn_ok (Z := []) (fn := Go.Proofs.Try.f20) ?_ ?_ ?_
  · kernel_rfl
  · kernel_rfl
  · apply turnInto h
    kernel_rfl


/-! lock_End -/

theorem vc_lock_End (x0 : Option Addr) (x1 : Int) (x2 : Int) (H : Heap) (R : Value → Heap → Prop) :
    (
 CA en F.lock_Begin [(.pointer x0), (.int .i64 x1), (.int .i64 x2)] H fun v1 H2 =>
 ∃ b3, v1 = (.bool b3) ∧
 R (.bool b3) H2) →
    CA en F.lock_End [(.pointer x0), (.int .i64 x1), (.int .i64 x2)] H R := by
  intro h
  refine wpFn_ok (Z := []) (fn := Go.Proofs.Try.f21) ?_ ?_ ?_
  · kernel_rfl
  · kernel_rfl
  · apply turnInto h
    kernel_rfl


/-! lock_Same -/

theorem vc_lock_Same (x0 : Option Addr) (x1 : Int) (x2 : Int) (x3 : Int) (H : Heap) (R : Value → Heap → Prop) :
    (
 CA en F.smem_Mem_Load [(.pointer x0), (.int .i64 x1), (.int .i64 x2)] H fun v1 H2 =>
 ∃ n3, ∃ b4, v1 = (.tuple #[(.int .u64 n3), (.bool b4)]) ∧
 bif b4 then (
 R (.bool (n3 == x3)) H2)
 else (
 R (.bool false) H2)) →
    CA en F.lock_Same [(.pointer x0), (.int .i64 x1), (.int .i64 x2), (.int .u64 x3)] H R := by
  intro h
  refine wpFn_ok (Z := []) (fn := Go.Proofs.Try.f22) ?_ ?_ ?_
  · kernel_rfl
  · kernel_rfl
  · apply turnInto h
    kernel_rfl


/-! lock_Taker_draw -/

theorem vc_lock_Taker_draw (x0 : Option Addr) (H : Heap) (R : Value → Heap → Prop) :
    (
 AS.asAddr (.pointer x0) fun i1 i2 =>
 ∃ a3, (H.bump 18).cell i1 i2 = some (.pointer a3) ∧
 AS.asAddr (.pointer x0) fun i4 i5 =>
 ∃ n6, (H.bump 18).cell i4 (i5 + 1) = some (.int .i64 n6) ∧
 AS.asAddr (.pointer x0) fun i7 i8 =>
 ∃ n9, (H.bump 18).cell i7 (i8 + 2) = some (.int .i64 n9) ∧
 CA en F.lock_more [(.pointer a3), (.int .i64 n6), (.int .i64 n9)] (H.bump 18) fun v10 H11 =>
 ∃ n12, ∃ b13, v10 = (.tuple #[(.int .u64 n12), (.bool b13)]) ∧
 (
 bif b13 then (
 AS.asAddr (.pointer x0) fun i14 i15 =>
 stc H11 i14 (i15 + 3) [(.int .u64 n12)] fun H16 =>
 AS.asAddr (.pointer x0) fun i17 i18 =>
 stc H16 i17 (i18 + 4) [(.func (.func F.lock_Taker_wait) #[(.pointer x0)] #[])] fun H19 =>
 R (.bool false) H19)
 else (
 R (.bool false) H11)) ∧
 True) →
    CA en F.lock_Taker_draw [(.pointer x0)] H R := by
  intro h
  refine wpFn_ok (Z := []) (fn := Go.Proofs.Try.f38) ?_ ?_ ?_
  · kernel_rfl
  · kernel_rfl
  · apply turnInto h
    kernel_rfl


/-! lock_more -/

theorem vc_lock_more (x0 : Option Addr) (x1 : Int) (x2 : Int) (H : Heap) (R : Value → Heap → Prop) :
    (
 CA en F.smem_Mem_Fetch [(.pointer x0), (.int .i64 x1), (.int .i64 x2), (.int .i64 0), (.int .u64 18446744073709551615), (.int .u64 1)] H fun v1 H2 =>
 ∃ n3, ∃ b4, v1 = (.tuple #[(.int .u64 n3), (.bool b4)]) ∧
 R (.tuple #[(.int .u64 n3), (.bool b4)]) H2) →
    CA en F.lock_more [(.pointer x0), (.int .i64 x1), (.int .i64 x2)] H R := by
  intro h
  refine wpFn_ok (Z := []) (fn := Go.Proofs.Try.f41) ?_ ?_ ?_
  · kernel_rfl
  · kernel_rfl
  · apply turnInto h
    kernel_rfl


/-! lock_Taker_wait -/

theorem vc_lock_Taker_wait (x0 : Option Addr) (H : Heap) (R : Value → Heap → Prop) :
    (
 AS.asAddr (.pointer x0) fun i1 i2 =>
 ∃ a3, (H.bump 19).cell i1 i2 = some (.pointer a3) ∧
 AS.asAddr (.pointer x0) fun i4 i5 =>
 ∃ n6, (H.bump 19).cell i4 (i5 + 1) = some (.int .i64 n6) ∧
 AS.asAddr (.pointer x0) fun i7 i8 =>
 ∃ n9, (H.bump 19).cell i7 (i8 + 2) = some (.int .i64 n9) ∧
 CA en F.smem_Mem_Load [(.pointer a3), (.int .i64 n6), (.int .i64 (IntKind.i64.wrap (n9 + 1)))] (H.bump 19) fun v10 H11 =>
 ∃ n12, ∃ b13, v10 = (.tuple #[(.int .u64 n12), (.bool b13)]) ∧
 (
 bif (!b13) then (
 R (.bool false) H11)
 else (
 AS.asAddr (.pointer x0) fun i14 i15 =>
 ∃ n16, H11.cell i14 (i15 + 3) = some (.int .u64 n16) ∧
 bif (n12 != n16) then (
 R (.bool false) H11)
 else (
 AS.asAddr (.pointer x0) fun i17 i18 =>
 stc H11 i17 (i18 + 4) [(.func (.func F.lock_Taker_got) #[(.pointer x0)] #[])] fun H19 =>
 R (.bool true) H19))) ∧
 True) →
    CA en F.lock_Taker_wait [(.pointer x0)] H R := by
  intro h
  refine wpFn_ok (Z := []) (fn := Go.Proofs.Try.f53) ?_ ?_ ?_
  · kernel_rfl
  · kernel_rfl
  · apply turnInto h
    kernel_rfl


/-! lock_Taker_got -/

theorem vc_lock_Taker_got (x0 : Option Addr) (H : Heap) (R : Value → Heap → Prop) :
    (
 R (.bool true) H) →
    CA en F.lock_Taker_got [(.pointer x0)] H R := by
  intro h
  refine wpFn_ok (Z := []) (fn := Go.Proofs.Try.f66) ?_ ?_ ?_
  · kernel_rfl
  · kernel_rfl
  · apply turnInto h
    kernel_rfl


/-! crossbarlaw10_made -/

theorem vc_crossbarlaw10_made (x0 : Int) (H : Heap) (R : Value → Heap → Prop) :
    (
 CA en F.smem_New [(.int .i64 x0)] H fun v1 H2 =>
 ∃ a3, v1 = (.pointer a3) ∧
 bif (!a3.isNone) then (
 CA en F.smem_Mem_Make [(.pointer a3), (.int .i64 x0)] H2 fun v4 H5 =>
 ∃ n6, ∃ n7, v4 = (.tuple #[(.int .i64 n6), (.int .i64 n7)]) ∧
 R (.pointer a3) H5)
 else (
 R (.pointer a3) H2)) →
    CA en F.crossbarlaw10_made [(.int .i64 x0)] H R := by
  intro h
  refine wpFn_ok (Z := []) (fn := Go.Proofs.Try.f10) ?_ ?_ ?_
  · kernel_rfl
  · kernel_rfl
  · apply turnInto h
    kernel_rfl


/-! crossbarlaw10_LockTurns -/
noncomputable def L_crossbarlaw10_LockTurns_0 : Code := loopAt Go.Proofs.Try.f3 0
noncomputable def L_crossbarlaw10_LockTurns_1 : Code := loopAt Go.Proofs.Try.f3 1

theorem vc_crossbarlaw10_LockTurns (x0 : Int) (x1 : Int) (x2 : Option Addr) (x2l : Nat) (H : Heap) (R : Value → Heap → Prop) :
    (
 CA en F.crossbarlaw10_made [(.int .i64 2)] H fun v1 H2 =>
 ∃ a3, v1 = (.pointer a3) ∧
 bif a3.isNone then (
 bif (!a3.isNone) then (
 CA en F.crossbarlaw10_known [] H2 fun v4 H5 =>
 ∃ b6, v4 = (.bool b6) ∧
 R (.bool b6) H5)
 else (
 R (.bool false) H2))
 else (
 bif (decide (((x2l : Nat) : Int) > 600)) then (
 bif (!a3.isNone) then (
 CA en F.crossbarlaw10_known [] H2 fun v7 H8 =>
 ∃ b9, v7 = (.bool b9) ∧
 R (.bool b9) H8)
 else (
 R (.bool false) H2))
 else (
 CA en F.crossbarkit_Pick [(.int .i64 x0), (.int .i64 5)] H2 fun v10 H11 =>
 ∃ n12, v10 = (.int .i64 n12) ∧
 okLen 32 (IntKind.i64.wrap (1 + n12)) (IntKind.i64.wrap (1 + n12)) ∧
 nwH H11 (.cells true 5 (reps (IntKind.i64.wrap (1 + n12)).toNat [(.pointer none), (.int .i64 0), (.bool false), (.bool false), (.int .i64 0)])) fun i13 H14 =>
 CA en F.crossbarkit_Pick [(.int .i64 x1), (.int .i64 4)] H14 fun v15 H16 =>
 ∃ n17, v15 = (.int .i64 n17) ∧
 LA en L_crossbarlaw10_LockTurns_0 [(.int .i64 x0), (.int .i64 n17), (.slice x2 x2l 0), undef, undef, undef, (.bool false), (.pointer a3), (.slice (some ⟨i13, 0, none⟩) (IntKind.i64.wrap (1 + n12)).toNat 0), (.int .i64 0), (.int .i64 0), (.int .i64 0), undef, undef, undef, undef, undef, (.pointer a3), (.pointer a3), (.bool a3.isNone), (.bool false), (.slice x2 x2l 0), (.int .i64 ((x2l : Nat) : Int)), (.bool (decide (((x2l : Nat) : Int) > 600))), (.bool false), undef, undef, undef, undef, undef, (.int .i64 x0), (.int .i64 n12), (.int .i64 (IntKind.i64.wrap (1 + n12))), (.slice (some ⟨i13, 0, none⟩) (IntKind.i64.wrap (1 + n12)).toNat 0), (.int .i64 x1), (.int .i64 n17), undef, undef, undef, undef, undef, undef, undef, undef, undef, undef, undef, undef, undef, undef, undef, undef, undef, undef, undef, undef, undef, undef, undef, undef, undef, undef, undef, undef, undef, undef, undef, undef, undef, undef, undef, undef, undef, undef, undef, undef, undef, undef, undef, undef, undef, undef, undef, undef, undef, undef, undef, undef, undef, undef, undef, undef, undef, undef, undef, undef, undef, undef, undef, undef, undef, undef, undef, undef, undef, undef, undef, undef, undef, undef, undef, undef, undef, undef, undef, undef, undef, undef, undef, undef, undef, undef, undef, undef, undef, undef, undef, undef, undef, undef, undef, undef, undef, undef, undef, undef, undef, undef, undef, undef, undef, undef, undef, undef, undef, undef, undef, undef, undef, undef, undef, undef, undef, undef, undef, undef, undef, undef, undef, undef, undef, undef, undef, undef, undef, undef, undef, undef, undef, undef, undef, undef, undef, undef, undef, undef, undef, undef, undef, undef, undef] H16 [(X.exit 0, fun (x18 : Fr) (H19 : Heap) =>
 AS.asBool (x18.getD 6 undef) fun b20 =>
 CA en F.crossbarlaw10_known [] H19 fun v21 H22 =>
 ∃ b23, v21 = (.bool b23) ∧
 R (.bool b23) H22),
 (X.ret, fun (x24 : Fr) (H25 : Heap) =>
 AS.asBool (x24.getD 6 undef) fun b26 =>
 R (.bool b26) H25)]))) →
    CA en F.crossbarlaw10_LockTurns [(.int .i64 x0), (.int .i64 x1), (.slice x2 x2l 0)] H R := by
  intro h
  refine wpFn_ok (Z := [[(6, (.bool false))], [(15, (.int .i64 0))]]) (fn := Go.Proofs.Try.f3) ?_ ?_ ?_
  · kernel_rfl
  · kernel_rfl
  · apply turnInto h
    kernel_rfl

theorem use_crossbarlaw10_LockTurns_0 {t0 : Int} {t1 : Int} {t2 : Option Addr} {t2l : Nat} {t7 : Option Addr} {t8 : Nat} {t8l : Nat} {t17 : Option Addr} {t18 : Option Addr} {t19 : Bool} {t21 : Option Addr} {t21l : Nat} {t22 : Int} {t23 : Bool} {t30 : Int} {t31 : Int} {t32 : Int} {t33 : Nat} {t33l : Nat} {t34 : Int} {t35 : Int} {K0 : Fr → Heap → Prop} {K1 : Fr → Heap → Prop} {t6 : Bool} {t9 : Int} {t10 : Int} {t11 : Int} {t12 : Value} {t13 : Value} {t14 : Value} {t15 : Value} {t16 : Value} {t36 : Value} {t37 : Value} {t38 : Value} {t39 : Value} {t40 : Value} {t41 : Value} {t42 : Value} {t43 : Value} {t44 : Value} {t45 : Value} {t46 : Value} {t47 : Value} {t48 : Value} {t49 : Value} {t50 : Value} {t51 : Value} {t52 : Value} {t53 : Value} {t54 : Value} {t55 : Value} {t56 : Value} {t57 : Value} {t58 : Value} {t59 : Value} {t60 : Value} {t61 : Value} {t62 : Value} {t63 : Value} {t64 : Value} {t65 : Value} {t66 : Value} {t67 : Value} {t68 : Value} {t69 : Value} {t70 : Value} {t71 : Value} {t72 : Value} {t73 : Value} {t74 : Value} {t75 : Value} {t76 : Value} {t77 : Value} {t78 : Value} {t79 : Value} {t80 : Value} {t81 : Value} {t82 : Value} {t83 : Value} {t84 : Value} {t85 : Value} {t86 : Value} {t87 : Value} {t88 : Value} {t89 : Value} {t90 : Value} {t91 : Value} {t92 : Value} {t93 : Value} {t94 : Value} {t95 : Value} {t96 : Value} {t97 : Value} {t98 : Value} {t99 : Value} {t100 : Value} {t101 : Value} {t102 : Value} {t103 : Value} {t104 : Value} {t105 : Value} {t106 : Value} {t107 : Value} {t108 : Value} {t109 : Value} {t110 : Value} {t111 : Value} {t112 : Value} {t113 : Value} {t114 : Value} {t115 : Value} {t116 : Value} {t117 : Value} {t118 : Value} {t119 : Value} {t120 : Value} {t121 : Value} {t122 : Value} {t123 : Value} {t124 : Value} {t125 : Value} {t126 : Value} {t127 : Value} {t128 : Value} {t129 : Value} {t130 : Value} {t131 : Value} {t132 : Value} {t133 : Value} {t134 : Value} {t135 : Value} {t136 : Value} {t137 : Value} {t138 : Value} {t139 : Value} {t140 : Value} {t141 : Value} {t142 : Value} {t143 : Value} {t144 : Value} {t145 : Value} {t146 : Value} {t147 : Value} {t148 : Value} {t149 : Value} {t150 : Value} {t151 : Value} {t152 : Value} {t153 : Value} {t154 : Value} {t155 : Value} {t156 : Value} {t157 : Value} {t158 : Value} {t159 : Value} {t160 : Value} {t161 : Value} {t162 : Value} {t163 : Value} {t164 : Value} {t165 : Value} {t166 : Value} {t167 : Value} {t168 : Value} {t169 : Value} {t170 : Value} {t171 : Value} {t172 : Value} {t173 : Value} {t174 : Value} {t175 : Value} {t176 : Value} {t177 : Value} {t178 : Value} {t179 : Value} {H : Heap} (I : Nat → Bool → Int → Int → Int → Heap → Prop) (n : Nat) (h0 : I n t6 t9 t10 t11 H)
    (hstep : ∀ (n : Nat) (t6 : Bool) (t9 : Int) (t10 : Int) (t11 : Int) (ys : Fr) (H : Heap), I n t6 t9 t10 t11 H →
    (
 bif (decide (t11 < ((t2l : Nat) : Int))) then (
 inB t11 t2l ∧
 asRow t2 fun i1 i2 =>
 ∃ n3, H.cell i1 (i2 + (t11.toNat * 1)) = some (.int .i64 n3) ∧
 CA en F.crossbarkit_Pick [(.int .i64 n3), (.int .i64 ((t8l : Nat) : Int))] H fun v4 H5 =>
 ∃ n6, v4 = (.int .i64 n6) ∧
 inB n6 t8l ∧
 CA en F.smem_Mem_Count [(.pointer t7)] H5 fun v7 H8 =>
 ∃ n9, v7 = (.int .i64 n9) ∧
 ∃ J10 : List Value → Heap → Prop, (
 ∃ a11, H8.cell t8 (0 + (n6.toNat * 5)) = some (.pointer a11) ∧
 bif a11.isNone then (
 CA en F.lock_Take [(.pointer t7), (.int .i64 1), (.int .i64 0)] H8 fun v12 H13 =>
 ∃ a14, v12 = (.pointer a14) ∧
 stc H13 t8 (0 + (n6.toNat * 5)) [(.pointer a14)] fun H15 =>
 ∃ a16, H15.cell t8 (0 + (n6.toNat * 5)) = some (.pointer a16) ∧
 bif a16.isNone then (
 K1 [(.int .i64 t0), (.int .i64 t1), (.slice t2 t2l 0), undef, undef, undef, (.bool false), (.pointer t7), (.slice (some ⟨t8, 0, none⟩) t8l 0), (.int .i64 t9), (.int .i64 t10), (.int .i64 t11), (.pointer (some ⟨t8, (0 + (n6.toNat * 5)), none⟩)), (.int .i64 n9), (ys.getD 14 undef), (ys.getD 15 undef), (ys.getD 16 undef), (.pointer t17), (.pointer t18), (.bool t19), (.bool false), (.slice t21 t21l 0), (.int .i64 t22), (.bool t23), (.bool false), undef, undef, undef, undef, undef, (.int .i64 t30), (.int .i64 t31), (.int .i64 t32), (.slice (some ⟨t33, 0, none⟩) t33l 0), (.int .i64 t34), (.int .i64 t35), (.int .i64 t11), (.slice t2 t2l 0), (.int .i64 ((t2l : Nat) : Int)), (.bool true), (ys.getD 40 undef), (ys.getD 41 undef), (.slice (some ⟨t8, 0, none⟩) t8l 0), (.slice t2 t2l 0), (.int .i64 t11), (.pointer (some ⟨i1, (i2 + (t11.toNat * 1)), none⟩)), (.int .i64 n3), (.slice (some ⟨t8, 0, none⟩) t8l 0), (.int .i64 ((t8l : Nat) : Int)), (.int .i64 n6), (.pointer (some ⟨t8, (0 + (n6.toNat * 5)), none⟩)), (.pointer t7), (.int .i64 n9), (ys.getD 53 undef), (ys.getD 54 undef), (ys.getD 55 undef), (ys.getD 56 undef), (ys.getD 57 undef), (ys.getD 58 undef), (ys.getD 59 undef), (ys.getD 60 undef), (ys.getD 61 undef), (ys.getD 62 undef), (ys.getD 63 undef), (ys.getD 64 undef), (ys.getD 65 undef), (ys.getD 66 undef), (.bool true), (.pointer (some ⟨t8, (0 + (n6.toNat * 5)), none⟩)), (.pointer (some ⟨t8, (0 + (n6.toNat * 5)), none⟩)), (.pointer (some ⟨t8, (0 + (n6.toNat * 5)), none⟩)), (.pointer a11), (.bool a11.isNone), (.pointer (some ⟨t8, (0 + (n6.toNat * 5)), none⟩)), (.pointer t7), (.pointer a14), (.pointer (some ⟨t8, (0 + (n6.toNat * 5)), none⟩)), (.pointer (some ⟨t8, (0 + (n6.toNat * 5)), none⟩)), (.pointer (some ⟨t8, (0 + (n6.toNat * 5)), none⟩)), (.pointer (some ⟨t8, (0 + (n6.toNat * 5)), none⟩)), (.pointer (some ⟨t8, (0 + (n6.toNat * 5)), none⟩)), (.pointer a16), (.bool a16.isNone), (.bool true), undef, undef, undef, undef, undef, (.bool true), (ys.getD 90 undef), (ys.getD 91 undef), (ys.getD 92 undef), (ys.getD 93 undef), (ys.getD 94 undef), (ys.getD 95 undef), (ys.getD 96 undef), (ys.getD 97 undef), (ys.getD 98 undef), (ys.getD 99 undef), (ys.getD 100 undef), (ys.getD 101 undef), (ys.getD 102 undef), (ys.getD 103 undef), (ys.getD 104 undef), (ys.getD 105 undef), (ys.getD 106 undef), (ys.getD 107 undef), (ys.getD 108 undef), (ys.getD 109 undef), (ys.getD 110 undef), (ys.getD 111 undef), (ys.getD 112 undef), (ys.getD 113 undef), (ys.getD 114 undef), (ys.getD 115 undef), (ys.getD 116 undef), (ys.getD 117 undef), (ys.getD 118 undef), (ys.getD 119 undef), (ys.getD 120 undef), (ys.getD 121 undef), (ys.getD 122 undef), (ys.getD 123 undef), (ys.getD 124 undef), (ys.getD 125 undef), (ys.getD 126 undef), (ys.getD 127 undef), (ys.getD 128 undef), (ys.getD 129 undef), (ys.getD 130 undef), (ys.getD 131 undef), (ys.getD 132 undef), (ys.getD 133 undef), (ys.getD 134 undef), (ys.getD 135 undef), (ys.getD 136 undef), (ys.getD 137 undef), (ys.getD 138 undef), (ys.getD 139 undef), (ys.getD 140 undef), (ys.getD 141 undef), (ys.getD 142 undef), (ys.getD 143 undef), (ys.getD 144 undef), (ys.getD 145 undef), (ys.getD 146 undef), (ys.getD 147 undef), (ys.getD 148 undef), (ys.getD 149 undef), (ys.getD 150 undef), (ys.getD 151 undef), (ys.getD 152 undef), (ys.getD 153 undef), (ys.getD 154 undef), (ys.getD 155 undef), (ys.getD 156 undef), (ys.getD 157 undef), (ys.getD 158 undef), (ys.getD 159 undef), (ys.getD 160 undef), (ys.getD 161 undef), (ys.getD 162 undef), (ys.getD 163 undef), (ys.getD 164 undef), (ys.getD 165 undef), (ys.getD 166 undef), (ys.getD 167 undef), (ys.getD 168 undef), (ys.getD 169 undef), (ys.getD 170 undef), (ys.getD 171 undef), (ys.getD 172 undef), (ys.getD 173 undef), (ys.getD 174 undef), (ys.getD 175 undef), (ys.getD 176 undef), (ys.getD 177 undef), (ys.getD 178 undef), (ys.getD 179 undef), undef] H15)
 else (
 ∃ a17, H15.cell t8 (0 + (n6.toNat * 5)) = some (.pointer a17) ∧
 CA en F.lock_Taker_Step [(.pointer a17)] H15 fun v18 H19 =>
 ∃ b20, v18 = (.bool b20) ∧
 bif b20 then (
 K1 [(.int .i64 t0), (.int .i64 t1), (.slice t2 t2l 0), undef, undef, undef, (.bool false), (.pointer t7), (.slice (some ⟨t8, 0, none⟩) t8l 0), (.int .i64 t9), (.int .i64 t10), (.int .i64 t11), (.pointer (some ⟨t8, (0 + (n6.toNat * 5)), none⟩)), (.int .i64 n9), (ys.getD 14 undef), (ys.getD 15 undef), (ys.getD 16 undef), (.pointer t17), (.pointer t18), (.bool t19), (.bool false), (.slice t21 t21l 0), (.int .i64 t22), (.bool t23), (.bool false), undef, undef, undef, undef, undef, (.int .i64 t30), (.int .i64 t31), (.int .i64 t32), (.slice (some ⟨t33, 0, none⟩) t33l 0), (.int .i64 t34), (.int .i64 t35), (.int .i64 t11), (.slice t2 t2l 0), (.int .i64 ((t2l : Nat) : Int)), (.bool true), (ys.getD 40 undef), (ys.getD 41 undef), (.slice (some ⟨t8, 0, none⟩) t8l 0), (.slice t2 t2l 0), (.int .i64 t11), (.pointer (some ⟨i1, (i2 + (t11.toNat * 1)), none⟩)), (.int .i64 n3), (.slice (some ⟨t8, 0, none⟩) t8l 0), (.int .i64 ((t8l : Nat) : Int)), (.int .i64 n6), (.pointer (some ⟨t8, (0 + (n6.toNat * 5)), none⟩)), (.pointer t7), (.int .i64 n9), (ys.getD 53 undef), (ys.getD 54 undef), (ys.getD 55 undef), (ys.getD 56 undef), (ys.getD 57 undef), (ys.getD 58 undef), (ys.getD 59 undef), (ys.getD 60 undef), (ys.getD 61 undef), (ys.getD 62 undef), (ys.getD 63 undef), (ys.getD 64 undef), (ys.getD 65 undef), (ys.getD 66 undef), (.bool true), (.pointer (some ⟨t8, (0 + (n6.toNat * 5)), none⟩)), (.pointer (some ⟨t8, (0 + (n6.toNat * 5)), none⟩)), (.pointer (some ⟨t8, (0 + (n6.toNat * 5)), none⟩)), (.pointer a11), (.bool a11.isNone), (.pointer (some ⟨t8, (0 + (n6.toNat * 5)), none⟩)), (.pointer t7), (.pointer a14), (.pointer (some ⟨t8, (0 + (n6.toNat * 5)), none⟩)), (.pointer (some ⟨t8, (0 + (n6.toNat * 5)), none⟩)), (.pointer (some ⟨t8, (0 + (n6.toNat * 5)), none⟩)), (.pointer (some ⟨t8, (0 + (n6.toNat * 5)), none⟩)), (.pointer (some ⟨t8, (0 + (n6.toNat * 5)), none⟩)), (.pointer a16), (.bool a16.isNone), (.bool false), (.pointer (some ⟨t8, (0 + (n6.toNat * 5)), none⟩)), (.pointer (some ⟨t8, (0 + (n6.toNat * 5)), none⟩)), (.pointer (some ⟨t8, (0 + (n6.toNat * 5)), none⟩)), (.pointer a17), (.bool b20), (.bool true), (ys.getD 90 undef), (ys.getD 91 undef), (ys.getD 92 undef), (ys.getD 93 undef), (ys.getD 94 undef), (ys.getD 95 undef), (ys.getD 96 undef), (ys.getD 97 undef), (ys.getD 98 undef), (ys.getD 99 undef), (ys.getD 100 undef), (ys.getD 101 undef), (ys.getD 102 undef), (ys.getD 103 undef), (ys.getD 104 undef), (ys.getD 105 undef), (ys.getD 106 undef), (ys.getD 107 undef), (ys.getD 108 undef), (ys.getD 109 undef), (ys.getD 110 undef), (ys.getD 111 undef), (ys.getD 112 undef), (ys.getD 113 undef), (ys.getD 114 undef), (ys.getD 115 undef), (ys.getD 116 undef), (ys.getD 117 undef), (ys.getD 118 undef), (ys.getD 119 undef), (ys.getD 120 undef), (ys.getD 121 undef), (ys.getD 122 undef), (ys.getD 123 undef), (ys.getD 124 undef), (ys.getD 125 undef), (ys.getD 126 undef), (ys.getD 127 undef), (ys.getD 128 undef), (ys.getD 129 undef), (ys.getD 130 undef), (ys.getD 131 undef), (ys.getD 132 undef), (ys.getD 133 undef), (ys.getD 134 undef), (ys.getD 135 undef), (ys.getD 136 undef), (ys.getD 137 undef), (ys.getD 138 undef), (ys.getD 139 undef), (ys.getD 140 undef), (ys.getD 141 undef), (ys.getD 142 undef), (ys.getD 143 undef), (ys.getD 144 undef), (ys.getD 145 undef), (ys.getD 146 undef), (ys.getD 147 undef), (ys.getD 148 undef), (ys.getD 149 undef), (ys.getD 150 undef), (ys.getD 151 undef), (ys.getD 152 undef), (ys.getD 153 undef), (ys.getD 154 undef), (ys.getD 155 undef), (ys.getD 156 undef), (ys.getD 157 undef), (ys.getD 158 undef), (ys.getD 159 undef), (ys.getD 160 undef), (ys.getD 161 undef), (ys.getD 162 undef), (ys.getD 163 undef), (ys.getD 164 undef), (ys.getD 165 undef), (ys.getD 166 undef), (ys.getD 167 undef), (ys.getD 168 undef), (ys.getD 169 undef), (ys.getD 170 undef), (ys.getD 171 undef), (ys.getD 172 undef), (ys.getD 173 undef), (ys.getD 174 undef), (ys.getD 175 undef), (ys.getD 176 undef), (ys.getD 177 undef), (ys.getD 178 undef), (ys.getD 179 undef), undef] H19)
 else (
 stc H19 t8 ((0 + (n6.toNat * 5)) + 3) [(.bool true)] fun H21 =>
 stc H21 t8 ((0 + (n6.toNat * 5)) + 4) [(.int .i64 t9)] fun H22 =>
 J10 [(.bool t6), (.int .i64 (IntKind.i64.wrap (t9 + 1))), (.int .i64 t10)] H22)))
 else (
 ∃ b23, H8.cell t8 ((0 + (n6.toNat * 5)) + 2) = some (.bool b23) ∧
 bif (!b23) then (
 ∃ a24, H8.cell t8 (0 + (n6.toNat * 5)) = some (.pointer a24) ∧
 CA en F.lock_Taker_Step [(.pointer a24)] H8 fun v25 H26 =>
 ∃ b27, v25 = (.bool b27) ∧
 ∃ n28, H26.cell t8 ((0 + (n6.toNat * 5)) + 4) = some (.int .i64 n28) ∧
 bif (!(b27 == (n28 == t10))) then (
 K1 [(.int .i64 t0), (.int .i64 t1), (.slice t2 t2l 0), undef, undef, undef, (.bool false), (.pointer t7), (.slice (some ⟨t8, 0, none⟩) t8l 0), (.int .i64 t9), (.int .i64 t10), (.int .i64 t11), (.pointer (some ⟨t8, (0 + (n6.toNat * 5)), none⟩)), (.int .i64 n9), (.bool b27), (ys.getD 15 undef), (ys.getD 16 undef), (.pointer t17), (.pointer t18), (.bool t19), (.bool false), (.slice t21 t21l 0), (.int .i64 t22), (.bool t23), (.bool false), undef, undef, undef, undef, undef, (.int .i64 t30), (.int .i64 t31), (.int .i64 t32), (.slice (some ⟨t33, 0, none⟩) t33l 0), (.int .i64 t34), (.int .i64 t35), (.int .i64 t11), (.slice t2 t2l 0), (.int .i64 ((t2l : Nat) : Int)), (.bool true), (ys.getD 40 undef), (ys.getD 41 undef), (.slice (some ⟨t8, 0, none⟩) t8l 0), (.slice t2 t2l 0), (.int .i64 t11), (.pointer (some ⟨i1, (i2 + (t11.toNat * 1)), none⟩)), (.int .i64 n3), (.slice (some ⟨t8, 0, none⟩) t8l 0), (.int .i64 ((t8l : Nat) : Int)), (.int .i64 n6), (.pointer (some ⟨t8, (0 + (n6.toNat * 5)), none⟩)), (.pointer t7), (.int .i64 n9), (ys.getD 53 undef), (ys.getD 54 undef), (ys.getD 55 undef), (ys.getD 56 undef), (ys.getD 57 undef), (ys.getD 58 undef), (ys.getD 59 undef), (ys.getD 60 undef), (ys.getD 61 undef), (ys.getD 62 undef), (ys.getD 63 undef), (ys.getD 64 undef), (ys.getD 65 undef), (ys.getD 66 undef), (.bool false), (.pointer (some ⟨t8, (0 + (n6.toNat * 5)), none⟩)), (.pointer (some ⟨t8, (0 + (n6.toNat * 5)), none⟩)), (.pointer (some ⟨t8, (0 + (n6.toNat * 5)), none⟩)), (.pointer a11), (.bool a11.isNone), (ys.getD 73 undef), (ys.getD 74 undef), (ys.getD 75 undef), (ys.getD 76 undef), (ys.getD 77 undef), (ys.getD 78 undef), (ys.getD 79 undef), (ys.getD 80 undef), (ys.getD 81 undef), (ys.getD 82 undef), (ys.getD 83 undef), (ys.getD 84 undef), (ys.getD 85 undef), (ys.getD 86 undef), (ys.getD 87 undef), (ys.getD 88 undef), (ys.getD 89 undef), (ys.getD 90 undef), (ys.getD 91 undef), (ys.getD 92 undef), (ys.getD 93 undef), (ys.getD 94 undef), (ys.getD 95 undef), (ys.getD 96 undef), (ys.getD 97 undef), (ys.getD 98 undef), (.bool true), (.pointer (some ⟨t8, (0 + (n6.toNat * 5)), none⟩)), (.pointer (some ⟨t8, (0 + (n6.toNat * 5)), none⟩)), (.pointer (some ⟨t8, ((0 + (n6.toNat * 5)) + 2), none⟩)), (.bool b23), (.bool (!b23)), (.pointer (some ⟨t8, (0 + (n6.toNat * 5)), none⟩)), (.pointer (some ⟨t8, (0 + (n6.toNat * 5)), none⟩)), (.pointer (some ⟨t8, (0 + (n6.toNat * 5)), none⟩)), (.pointer a24), (.bool b27), (.bool b27), (.pointer (some ⟨t8, (0 + (n6.toNat * 5)), none⟩)), (.pointer (some ⟨t8, (0 + (n6.toNat * 5)), none⟩)), (.pointer (some ⟨t8, ((0 + (n6.toNat * 5)) + 4), none⟩)), (.int .i64 n28), (.int .i64 t10), (.bool (n28 == t10)), (.bool true), (ys.getD 118 undef), (ys.getD 119 undef), (ys.getD 120 undef), (ys.getD 121 undef), (ys.getD 122 undef), (ys.getD 123 undef), (ys.getD 124 undef), (ys.getD 125 undef), (ys.getD 126 undef), (ys.getD 127 undef), (ys.getD 128 undef), (ys.getD 129 undef), (ys.getD 130 undef), (ys.getD 131 undef), (ys.getD 132 undef), (ys.getD 133 undef), (ys.getD 134 undef), (ys.getD 135 undef), (ys.getD 136 undef), (ys.getD 137 undef), (ys.getD 138 undef), (ys.getD 139 undef), (ys.getD 140 undef), (ys.getD 141 undef), (ys.getD 142 undef), (ys.getD 143 undef), (ys.getD 144 undef), (ys.getD 145 undef), (ys.getD 146 undef), (ys.getD 147 undef), (ys.getD 148 undef), (ys.getD 149 undef), (ys.getD 150 undef), (ys.getD 151 undef), (ys.getD 152 undef), (ys.getD 153 undef), (ys.getD 154 undef), (ys.getD 155 undef), (ys.getD 156 undef), (ys.getD 157 undef), (ys.getD 158 undef), (ys.getD 159 undef), (ys.getD 160 undef), (ys.getD 161 undef), (ys.getD 162 undef), (ys.getD 163 undef), (ys.getD 164 undef), (ys.getD 165 undef), (ys.getD 166 undef), (ys.getD 167 undef), (ys.getD 168 undef), (ys.getD 169 undef), (ys.getD 170 undef), (ys.getD 171 undef), (ys.getD 172 undef), (ys.getD 173 undef), (ys.getD 174 undef), (ys.getD 175 undef), (ys.getD 176 undef), (ys.getD 177 undef), (ys.getD 178 undef), (ys.getD 179 undef), undef] H26)
 else (
 stc H26 t8 ((0 + (n6.toNat * 5)) + 2) [(.bool b27)] fun H29 =>
 stc H29 t8 ((0 + (n6.toNat * 5)) + 1) [(.int .i64 0)] fun H30 =>
 J10 [(.bool t6), (.int .i64 t9), (.int .i64 t10)] H30))
 else (
 ∃ n31, H8.cell t8 ((0 + (n6.toNat * 5)) + 1) = some (.int .i64 n31) ∧
 bif (decide (n31 < t1)) then (
 ∃ a32, H8.cell t8 (0 + (n6.toNat * 5)) = some (.pointer a32) ∧
 CA en F.lock_Taker_Step [(.pointer a32)] H8 fun v33 H34 =>
 ∃ b35, v33 = (.bool b35) ∧
 bif (!b35) then (
 K1 [(.int .i64 t0), (.int .i64 t1), (.slice t2 t2l 0), undef, undef, undef, (.bool false), (.pointer t7), (.slice (some ⟨t8, 0, none⟩) t8l 0), (.int .i64 t9), (.int .i64 t10), (.int .i64 t11), (.pointer (some ⟨t8, (0 + (n6.toNat * 5)), none⟩)), (.int .i64 n9), (ys.getD 14 undef), (ys.getD 15 undef), (ys.getD 16 undef), (.pointer t17), (.pointer t18), (.bool t19), (.bool false), (.slice t21 t21l 0), (.int .i64 t22), (.bool t23), (.bool false), undef, undef, undef, undef, undef, (.int .i64 t30), (.int .i64 t31), (.int .i64 t32), (.slice (some ⟨t33, 0, none⟩) t33l 0), (.int .i64 t34), (.int .i64 t35), (.int .i64 t11), (.slice t2 t2l 0), (.int .i64 ((t2l : Nat) : Int)), (.bool true), (ys.getD 40 undef), (ys.getD 41 undef), (.slice (some ⟨t8, 0, none⟩) t8l 0), (.slice t2 t2l 0), (.int .i64 t11), (.pointer (some ⟨i1, (i2 + (t11.toNat * 1)), none⟩)), (.int .i64 n3), (.slice (some ⟨t8, 0, none⟩) t8l 0), (.int .i64 ((t8l : Nat) : Int)), (.int .i64 n6), (.pointer (some ⟨t8, (0 + (n6.toNat * 5)), none⟩)), (.pointer t7), (.int .i64 n9), (ys.getD 53 undef), (ys.getD 54 undef), (ys.getD 55 undef), (ys.getD 56 undef), (ys.getD 57 undef), (ys.getD 58 undef), (ys.getD 59 undef), (ys.getD 60 undef), (ys.getD 61 undef), (ys.getD 62 undef), (ys.getD 63 undef), (ys.getD 64 undef), (ys.getD 65 undef), (ys.getD 66 undef), (.bool false), (.pointer (some ⟨t8, (0 + (n6.toNat * 5)), none⟩)), (.pointer (some ⟨t8, (0 + (n6.toNat * 5)), none⟩)), (.pointer (some ⟨t8, (0 + (n6.toNat * 5)), none⟩)), (.pointer a11), (.bool a11.isNone), (ys.getD 73 undef), (ys.getD 74 undef), (ys.getD 75 undef), (ys.getD 76 undef), (ys.getD 77 undef), (ys.getD 78 undef), (ys.getD 79 undef), (ys.getD 80 undef), (ys.getD 81 undef), (ys.getD 82 undef), (ys.getD 83 undef), (ys.getD 84 undef), (ys.getD 85 undef), (ys.getD 86 undef), (ys.getD 87 undef), (ys.getD 88 undef), (ys.getD 89 undef), (ys.getD 90 undef), (ys.getD 91 undef), (ys.getD 92 undef), (ys.getD 93 undef), (ys.getD 94 undef), (ys.getD 95 undef), (ys.getD 96 undef), (ys.getD 97 undef), (ys.getD 98 undef), (.bool false), (.pointer (some ⟨t8, (0 + (n6.toNat * 5)), none⟩)), (.pointer (some ⟨t8, (0 + (n6.toNat * 5)), none⟩)), (.pointer (some ⟨t8, ((0 + (n6.toNat * 5)) + 2), none⟩)), (.bool b23), (.bool (!b23)), (ys.getD 105 undef), (ys.getD 106 undef), (ys.getD 107 undef), (ys.getD 108 undef), (ys.getD 109 undef), (ys.getD 110 undef), (ys.getD 111 undef), (ys.getD 112 undef), (ys.getD 113 undef), (ys.getD 114 undef), (ys.getD 115 undef), (ys.getD 116 undef), (ys.getD 117 undef), (ys.getD 118 undef), (ys.getD 119 undef), (ys.getD 120 undef), (ys.getD 121 undef), (ys.getD 122 undef), (ys.getD 123 undef), (ys.getD 124 undef), (.bool true), (.pointer (some ⟨t8, (0 + (n6.toNat * 5)), none⟩)), (.pointer (some ⟨t8, (0 + (n6.toNat * 5)), none⟩)), (.pointer (some ⟨t8, ((0 + (n6.toNat * 5)) + 1), none⟩)), (.int .i64 n31), (.int .i64 t1), (.bool (decide (n31 < t1))), (.pointer (some ⟨t8, (0 + (n6.toNat * 5)), none⟩)), (.pointer (some ⟨t8, (0 + (n6.toNat * 5)), none⟩)), (.pointer (some ⟨t8, (0 + (n6.toNat * 5)), none⟩)), (.pointer a32), (.bool b35), (.bool (!b35)), (.bool true), undef, undef, undef, undef, (.bool true), (ys.getD 144 undef), (ys.getD 145 undef), (ys.getD 146 undef), (ys.getD 147 undef), (ys.getD 148 undef), (ys.getD 149 undef), (ys.getD 150 undef), (ys.getD 151 undef), (ys.getD 152 undef), (ys.getD 153 undef), (ys.getD 154 undef), (ys.getD 155 undef), (ys.getD 156 undef), (ys.getD 157 undef), (ys.getD 158 undef), (ys.getD 159 undef), (ys.getD 160 undef), (ys.getD 161 undef), (ys.getD 162 undef), (ys.getD 163 undef), (ys.getD 164 undef), (ys.getD 165 undef), (ys.getD 166 undef), (ys.getD 167 undef), (ys.getD 168 undef), (ys.getD 169 undef), (ys.getD 170 undef), (ys.getD 171 undef), (ys.getD 172 undef), (ys.getD 173 undef), (ys.getD 174 undef), (ys.getD 175 undef), (ys.getD 176 undef), (ys.getD 177 undef), (ys.getD 178 undef), (ys.getD 179 undef), undef] H34)
 else (
 CA en F.smem_Mem_Count [(.pointer t7)] H34 fun v36 H37 =>
 ∃ n38, v36 = (.int .i64 n38) ∧
 bif (n38 != n9) then (
 K1 [(.int .i64 t0), (.int .i64 t1), (.slice t2 t2l 0), undef, undef, undef, (.bool false), (.pointer t7), (.slice (some ⟨t8, 0, none⟩) t8l 0), (.int .i64 t9), (.int .i64 t10), (.int .i64 t11), (.pointer (some ⟨t8, (0 + (n6.toNat * 5)), none⟩)), (.int .i64 n9), (ys.getD 14 undef), (ys.getD 15 undef), (ys.getD 16 undef), (.pointer t17), (.pointer t18), (.bool t19), (.bool false), (.slice t21 t21l 0), (.int .i64 t22), (.bool t23), (.bool false), undef, undef, undef, undef, undef, (.int .i64 t30), (.int .i64 t31), (.int .i64 t32), (.slice (some ⟨t33, 0, none⟩) t33l 0), (.int .i64 t34), (.int .i64 t35), (.int .i64 t11), (.slice t2 t2l 0), (.int .i64 ((t2l : Nat) : Int)), (.bool true), (ys.getD 40 undef), (ys.getD 41 undef), (.slice (some ⟨t8, 0, none⟩) t8l 0), (.slice t2 t2l 0), (.int .i64 t11), (.pointer (some ⟨i1, (i2 + (t11.toNat * 1)), none⟩)), (.int .i64 n3), (.slice (some ⟨t8, 0, none⟩) t8l 0), (.int .i64 ((t8l : Nat) : Int)), (.int .i64 n6), (.pointer (some ⟨t8, (0 + (n6.toNat * 5)), none⟩)), (.pointer t7), (.int .i64 n9), (ys.getD 53 undef), (ys.getD 54 undef), (ys.getD 55 undef), (ys.getD 56 undef), (ys.getD 57 undef), (ys.getD 58 undef), (ys.getD 59 undef), (ys.getD 60 undef), (ys.getD 61 undef), (ys.getD 62 undef), (ys.getD 63 undef), (ys.getD 64 undef), (ys.getD 65 undef), (ys.getD 66 undef), (.bool false), (.pointer (some ⟨t8, (0 + (n6.toNat * 5)), none⟩)), (.pointer (some ⟨t8, (0 + (n6.toNat * 5)), none⟩)), (.pointer (some ⟨t8, (0 + (n6.toNat * 5)), none⟩)), (.pointer a11), (.bool a11.isNone), (ys.getD 73 undef), (ys.getD 74 undef), (ys.getD 75 undef), (ys.getD 76 undef), (ys.getD 77 undef), (ys.getD 78 undef), (ys.getD 79 undef), (ys.getD 80 undef), (ys.getD 81 undef), (ys.getD 82 undef), (ys.getD 83 undef), (ys.getD 84 undef), (ys.getD 85 undef), (ys.getD 86 undef), (ys.getD 87 undef), (ys.getD 88 undef), (ys.getD 89 undef), (ys.getD 90 undef), (ys.getD 91 undef), (ys.getD 92 undef), (ys.getD 93 undef), (ys.getD 94 undef), (ys.getD 95 undef), (ys.getD 96 undef), (ys.getD 97 undef), (ys.getD 98 undef), (.bool false), (.pointer (some ⟨t8, (0 + (n6.toNat * 5)), none⟩)), (.pointer (some ⟨t8, (0 + (n6.toNat * 5)), none⟩)), (.pointer (some ⟨t8, ((0 + (n6.toNat * 5)) + 2), none⟩)), (.bool b23), (.bool (!b23)), (ys.getD 105 undef), (ys.getD 106 undef), (ys.getD 107 undef), (ys.getD 108 undef), (ys.getD 109 undef), (ys.getD 110 undef), (ys.getD 111 undef), (ys.getD 112 undef), (ys.getD 113 undef), (ys.getD 114 undef), (ys.getD 115 undef), (ys.getD 116 undef), (ys.getD 117 undef), (ys.getD 118 undef), (ys.getD 119 undef), (ys.getD 120 undef), (ys.getD 121 undef), (ys.getD 122 undef), (ys.getD 123 undef), (ys.getD 124 undef), (.bool true), (.pointer (some ⟨t8, (0 + (n6.toNat * 5)), none⟩)), (.pointer (some ⟨t8, (0 + (n6.toNat * 5)), none⟩)), (.pointer (some ⟨t8, ((0 + (n6.toNat * 5)) + 1), none⟩)), (.int .i64 n31), (.int .i64 t1), (.bool (decide (n31 < t1))), (.pointer (some ⟨t8, (0 + (n6.toNat * 5)), none⟩)), (.pointer (some ⟨t8, (0 + (n6.toNat * 5)), none⟩)), (.pointer (some ⟨t8, (0 + (n6.toNat * 5)), none⟩)), (.pointer a32), (.bool b35), (.bool (!b35)), (.bool false), (.pointer t7), (.int .i64 n38), (.int .i64 n9), (.bool (n38 != n9)), (.bool true), (ys.getD 144 undef), (ys.getD 145 undef), (ys.getD 146 undef), (ys.getD 147 undef), (ys.getD 148 undef), (ys.getD 149 undef), (ys.getD 150 undef), (ys.getD 151 undef), (ys.getD 152 undef), (ys.getD 153 undef), (ys.getD 154 undef), (ys.getD 155 undef), (ys.getD 156 undef), (ys.getD 157 undef), (ys.getD 158 undef), (ys.getD 159 undef), (ys.getD 160 undef), (ys.getD 161 undef), (ys.getD 162 undef), (ys.getD 163 undef), (ys.getD 164 undef), (ys.getD 165 undef), (ys.getD 166 undef), (ys.getD 167 undef), (ys.getD 168 undef), (ys.getD 169 undef), (ys.getD 170 undef), (ys.getD 171 undef), (ys.getD 172 undef), (ys.getD 173 undef), (ys.getD 174 undef), (ys.getD 175 undef), (ys.getD 176 undef), (ys.getD 177 undef), (ys.getD 178 undef), (ys.getD 179 undef), undef] H37)
 else (
 CA en F.smem_Mem_Load [(.pointer t7), (.int .i64 1), (.int .i64 0)] H37 fun v39 H40 =>
 ∃ n41, ∃ b42, v39 = (.tuple #[(.int .u64 n41), (.bool b42)]) ∧
 ∃ n43, H40.cell t8 ((0 + (n6.toNat * 5)) + 1) = some (.int .i64 n43) ∧
 stc H40 t8 ((0 + (n6.toNat * 5)) + 1) [(.int .i64 (IntKind.i64.wrap (n43 + 1)))] fun H44 =>
 J10 [(.bool t6), (.int .i64 t9), (.int .i64 t10)] H44)))
 else (
 CA en F.lock_Drop [(.pointer t7), (.int .i64 1), (.int .i64 0)] H8 fun v45 H46 =>
 ∃ b47, v45 = (.bool b47) ∧
 bif (!b47) then (
 K1 [(.int .i64 t0), (.int .i64 t1), (.slice t2 t2l 0), undef, undef, undef, (.bool false), (.pointer t7), (.slice (some ⟨t8, 0, none⟩) t8l 0), (.int .i64 t9), (.int .i64 t10), (.int .i64 t11), (.pointer (some ⟨t8, (0 + (n6.toNat * 5)), none⟩)), (.int .i64 n9), (ys.getD 14 undef), (ys.getD 15 undef), (ys.getD 16 undef), (.pointer t17), (.pointer t18), (.bool t19), (.bool false), (.slice t21 t21l 0), (.int .i64 t22), (.bool t23), (.bool false), undef, undef, undef, undef, undef, (.int .i64 t30), (.int .i64 t31), (.int .i64 t32), (.slice (some ⟨t33, 0, none⟩) t33l 0), (.int .i64 t34), (.int .i64 t35), (.int .i64 t11), (.slice t2 t2l 0), (.int .i64 ((t2l : Nat) : Int)), (.bool true), (ys.getD 40 undef), (ys.getD 41 undef), (.slice (some ⟨t8, 0, none⟩) t8l 0), (.slice t2 t2l 0), (.int .i64 t11), (.pointer (some ⟨i1, (i2 + (t11.toNat * 1)), none⟩)), (.int .i64 n3), (.slice (some ⟨t8, 0, none⟩) t8l 0), (.int .i64 ((t8l : Nat) : Int)), (.int .i64 n6), (.pointer (some ⟨t8, (0 + (n6.toNat * 5)), none⟩)), (.pointer t7), (.int .i64 n9), (.pointer t7), (.bool b47), (.bool true), (ys.getD 56 undef), (ys.getD 57 undef), (ys.getD 58 undef), (ys.getD 59 undef), (ys.getD 60 undef), (ys.getD 61 undef), (ys.getD 62 undef), (ys.getD 63 undef), (ys.getD 64 undef), (ys.getD 65 undef), (ys.getD 66 undef), (.bool false), (.pointer (some ⟨t8, (0 + (n6.toNat * 5)), none⟩)), (.pointer (some ⟨t8, (0 + (n6.toNat * 5)), none⟩)), (.pointer (some ⟨t8, (0 + (n6.toNat * 5)), none⟩)), (.pointer a11), (.bool a11.isNone), (ys.getD 73 undef), (ys.getD 74 undef), (ys.getD 75 undef), (ys.getD 76 undef), (ys.getD 77 undef), (ys.getD 78 undef), (ys.getD 79 undef), (ys.getD 80 undef), (ys.getD 81 undef), (ys.getD 82 undef), (ys.getD 83 undef), (ys.getD 84 undef), (ys.getD 85 undef), (ys.getD 86 undef), (ys.getD 87 undef), (ys.getD 88 undef), (ys.getD 89 undef), (ys.getD 90 undef), (ys.getD 91 undef), (ys.getD 92 undef), (ys.getD 93 undef), (ys.getD 94 undef), (ys.getD 95 undef), (ys.getD 96 undef), (ys.getD 97 undef), (ys.getD 98 undef), (.bool false), (.pointer (some ⟨t8, (0 + (n6.toNat * 5)), none⟩)), (.pointer (some ⟨t8, (0 + (n6.toNat * 5)), none⟩)), (.pointer (some ⟨t8, ((0 + (n6.toNat * 5)) + 2), none⟩)), (.bool b23), (.bool (!b23)), (ys.getD 105 undef), (ys.getD 106 undef), (ys.getD 107 undef), (ys.getD 108 undef), (ys.getD 109 undef), (ys.getD 110 undef), (ys.getD 111 undef), (ys.getD 112 undef), (ys.getD 113 undef), (ys.getD 114 undef), (ys.getD 115 undef), (ys.getD 116 undef), (ys.getD 117 undef), (ys.getD 118 undef), (ys.getD 119 undef), (ys.getD 120 undef), (ys.getD 121 undef), (ys.getD 122 undef), (ys.getD 123 undef), (ys.getD 124 undef), (.bool false), (.pointer (some ⟨t8, (0 + (n6.toNat * 5)), none⟩)), (.pointer (some ⟨t8, (0 + (n6.toNat * 5)), none⟩)), (.pointer (some ⟨t8, ((0 + (n6.toNat * 5)) + 1), none⟩)), (.int .i64 n31), (.int .i64 t1), (.bool (decide (n31 < t1))), (ys.getD 132 undef), (ys.getD 133 undef), (ys.getD 134 undef), (ys.getD 135 undef), (ys.getD 136 undef), (ys.getD 137 undef), (ys.getD 138 undef), (ys.getD 139 undef), (ys.getD 140 undef), (ys.getD 141 undef), (ys.getD 142 undef), (ys.getD 143 undef), (ys.getD 144 undef), (ys.getD 145 undef), (ys.getD 146 undef), (ys.getD 147 undef), (ys.getD 148 undef), (ys.getD 149 undef), (ys.getD 150 undef), (ys.getD 151 undef), (ys.getD 152 undef), (ys.getD 153 undef), (ys.getD 154 undef), (ys.getD 155 undef), (ys.getD 156 undef), (ys.getD 157 undef), (ys.getD 158 undef), (ys.getD 159 undef), (ys.getD 160 undef), (ys.getD 161 undef), (ys.getD 162 undef), (ys.getD 163 undef), (ys.getD 164 undef), (ys.getD 165 undef), (ys.getD 166 undef), (ys.getD 167 undef), (ys.getD 168 undef), (ys.getD 169 undef), (ys.getD 170 undef), (ys.getD 171 undef), (ys.getD 172 undef), (ys.getD 173 undef), (ys.getD 174 undef), (ys.getD 175 undef), (ys.getD 176 undef), (ys.getD 177 undef), (ys.getD 178 undef), (ys.getD 179 undef), undef] H46)
 else (
 stc H46 t8 (0 + (n6.toNat * 5)) [(.pointer none)] fun H48 =>
 stc H48 t8 ((0 + (n6.toNat * 5)) + 2) [(.bool false)] fun H49 =>
 stc H49 t8 ((0 + (n6.toNat * 5)) + 3) [(.bool false)] fun H50 =>
 J10 [(.bool t6), (.int .i64 t9), (.int .i64 (IntKind.i64.wrap (t10 + 1)))] H50))))) ∧
 ∀ (ys51 : Fr) (H52 : Heap), ∀ b53, ∀ n54, ∀ n55, J10 [(.bool b53), (.int .i64 n54), (.int .i64 n55)] H52 →
 LA en L_crossbarlaw10_LockTurns_1 [(.int .i64 t0), (.int .i64 t1), (.slice t2 t2l 0), undef, undef, undef, (.bool b53), (.pointer t7), (.slice (some ⟨t8, 0, none⟩) t8l 0), (.int .i64 n54), (.int .i64 n55), (.int .i64 t11), (.pointer (some ⟨t8, (0 + (n6.toNat * 5)), none⟩)), (.int .i64 n9), (ys51.getD 14 undef), (.int .i64 0), (.int .i64 0), (.pointer t17), (.pointer t18), (.bool t19), (.bool false), (.slice t21 t21l 0), (.int .i64 t22), (.bool t23), (.bool false), undef, undef, undef, undef, undef, (.int .i64 t30), (.int .i64 t31), (.int .i64 t32), (.slice (some ⟨t33, 0, none⟩) t33l 0), (.int .i64 t34), (.int .i64 t35), (.int .i64 t11), (.slice t2 t2l 0), (.int .i64 ((t2l : Nat) : Int)), (.bool true), (ys.getD 40 undef), (ys.getD 41 undef), (.slice (some ⟨t8, 0, none⟩) t8l 0), (.slice t2 t2l 0), (.int .i64 t11), (.pointer (some ⟨i1, (i2 + (t11.toNat * 1)), none⟩)), (.int .i64 n3), (.slice (some ⟨t8, 0, none⟩) t8l 0), (.int .i64 ((t8l : Nat) : Int)), (.int .i64 n6), (.pointer (some ⟨t8, (0 + (n6.toNat * 5)), none⟩)), (.pointer t7), (.int .i64 n9), (ys51.getD 53 undef), (ys51.getD 54 undef), (ys51.getD 55 undef), (ys51.getD 56 undef), (ys51.getD 57 undef), (ys51.getD 58 undef), (ys51.getD 59 undef), (ys51.getD 60 undef), (ys51.getD 61 undef), (ys51.getD 62 undef), (ys51.getD 63 undef), (ys51.getD 64 undef), (ys51.getD 65 undef), (ys51.getD 66 undef), (ys51.getD 67 undef), (ys51.getD 68 undef), (ys51.getD 69 undef), (ys51.getD 70 undef), (ys51.getD 71 undef), (ys51.getD 72 undef), (ys51.getD 73 undef), (ys51.getD 74 undef), (ys51.getD 75 undef), (ys51.getD 76 undef), (ys51.getD 77 undef), (ys51.getD 78 undef), (ys51.getD 79 undef), (ys51.getD 80 undef), (ys51.getD 81 undef), (ys51.getD 82 undef), (ys51.getD 83 undef), (ys51.getD 84 undef), (ys51.getD 85 undef), (ys51.getD 86 undef), (ys51.getD 87 undef), (ys51.getD 88 undef), (ys51.getD 89 undef), (ys51.getD 90 undef), (ys51.getD 91 undef), (ys51.getD 92 undef), (ys51.getD 93 undef), (ys51.getD 94 undef), (ys51.getD 95 undef), (ys51.getD 96 undef), (ys51.getD 97 undef), (ys51.getD 98 undef), (ys51.getD 99 undef), (ys51.getD 100 undef), (ys51.getD 101 undef), (ys51.getD 102 undef), (ys51.getD 103 undef), (ys51.getD 104 undef), (ys51.getD 105 undef), (ys51.getD 106 undef), (ys51.getD 107 undef), (ys51.getD 108 undef), (ys51.getD 109 undef), (ys51.getD 110 undef), (ys51.getD 111 undef), (ys51.getD 112 undef), (ys51.getD 113 undef), (ys51.getD 114 undef), (ys51.getD 115 undef), (ys51.getD 116 undef), (ys51.getD 117 undef), (ys51.getD 118 undef), (ys51.getD 119 undef), (ys51.getD 120 undef), (ys51.getD 121 undef), (ys51.getD 122 undef), (ys51.getD 123 undef), (ys51.getD 124 undef), (ys51.getD 125 undef), (ys51.getD 126 undef), (ys51.getD 127 undef), (ys51.getD 128 undef), (ys51.getD 129 undef), (ys51.getD 130 undef), (ys51.getD 131 undef), (ys51.getD 132 undef), (ys51.getD 133 undef), (ys51.getD 134 undef), (ys51.getD 135 undef), (ys51.getD 136 undef), (ys51.getD 137 undef), (ys51.getD 138 undef), (ys51.getD 139 undef), (ys51.getD 140 undef), (ys51.getD 141 undef), (ys51.getD 142 undef), (ys51.getD 143 undef), (ys51.getD 144 undef), (ys51.getD 145 undef), (ys51.getD 146 undef), (ys51.getD 147 undef), (ys51.getD 148 undef), (ys51.getD 149 undef), (ys51.getD 150 undef), (ys51.getD 151 undef), (ys51.getD 152 undef), (ys.getD 153 undef), (ys.getD 154 undef), (ys.getD 155 undef), (ys.getD 156 undef), (ys.getD 157 undef), (ys.getD 158 undef), (ys.getD 159 undef), (ys.getD 160 undef), (ys.getD 161 undef), (ys.getD 162 undef), (ys.getD 163 undef), (ys.getD 164 undef), (ys.getD 165 undef), (ys.getD 166 undef), (ys.getD 167 undef), (ys.getD 168 undef), (ys.getD 169 undef), (ys.getD 170 undef), (ys.getD 171 undef), (ys.getD 172 undef), (ys.getD 173 undef), (ys.getD 174 undef), (ys.getD 175 undef), (ys.getD 176 undef), (ys.getD 177 undef), (ys.getD 178 undef), (ys.getD 179 undef), undef] H52 [(X.exit 3, fun (x56 : Fr) (H57 : Heap) =>
 AS.asInt .i64 (x56.getD 15 undef) fun n58 =>
 CA en F.smem_Mem_Count [(.pointer t7)] H57 fun v59 H60 =>
 ∃ n61, v59 = (.int .i64 n61) ∧
 bif (n61 != (IntKind.i64.wrap (n9 + 1))) then (
 K1 [(.int .i64 t0), (.int .i64 t1), (.slice t2 t2l 0), undef, undef, undef, (.bool false), (.pointer t7), (.slice (some ⟨t8, 0, none⟩) t8l 0), (.int .i64 n54), (.int .i64 n55), (.int .i64 t11), (.pointer (some ⟨t8, (0 + (n6.toNat * 5)), none⟩)), (.int .i64 n9), (ys51.getD 14 undef), (.int .i64 n58), (x56.getD 16 undef), (.pointer t17), (.pointer t18), (.bool t19), (.bool false), (.slice t21 t21l 0), (.int .i64 t22), (.bool t23), (.bool false), undef, undef, undef, undef, undef, (.int .i64 t30), (.int .i64 t31), (.int .i64 t32), (.slice (some ⟨t33, 0, none⟩) t33l 0), (.int .i64 t34), (.int .i64 t35), (.int .i64 t11), (.slice t2 t2l 0), (.int .i64 ((t2l : Nat) : Int)), (.bool true), (ys.getD 40 undef), (ys.getD 41 undef), (.slice (some ⟨t8, 0, none⟩) t8l 0), (.slice t2 t2l 0), (.int .i64 t11), (.pointer (some ⟨i1, (i2 + (t11.toNat * 1)), none⟩)), (.int .i64 n3), (.slice (some ⟨t8, 0, none⟩) t8l 0), (.int .i64 ((t8l : Nat) : Int)), (.int .i64 n6), (.pointer (some ⟨t8, (0 + (n6.toNat * 5)), none⟩)), (.pointer t7), (.int .i64 n9), (ys51.getD 53 undef), (ys51.getD 54 undef), (ys51.getD 55 undef), (ys51.getD 56 undef), (ys51.getD 57 undef), (ys51.getD 58 undef), (ys51.getD 59 undef), (ys51.getD 60 undef), (ys51.getD 61 undef), (ys51.getD 62 undef), (ys51.getD 63 undef), (ys51.getD 64 undef), (ys51.getD 65 undef), (ys51.getD 66 undef), (ys51.getD 67 undef), (ys51.getD 68 undef), (ys51.getD 69 undef), (ys51.getD 70 undef), (ys51.getD 71 undef), (ys51.getD 72 undef), (ys51.getD 73 undef), (ys51.getD 74 undef), (ys51.getD 75 undef), (ys51.getD 76 undef), (ys51.getD 77 undef), (ys51.getD 78 undef), (ys51.getD 79 undef), (ys51.getD 80 undef), (ys51.getD 81 undef), (ys51.getD 82 undef), (ys51.getD 83 undef), (ys51.getD 84 undef), (ys51.getD 85 undef), (ys51.getD 86 undef), (ys51.getD 87 undef), (ys51.getD 88 undef), (ys51.getD 89 undef), (ys51.getD 90 undef), (ys51.getD 91 undef), (ys51.getD 92 undef), (ys51.getD 93 undef), (ys51.getD 94 undef), (ys51.getD 95 undef), (ys51.getD 96 undef), (ys51.getD 97 undef), (ys51.getD 98 undef), (ys51.getD 99 undef), (ys51.getD 100 undef), (ys51.getD 101 undef), (ys51.getD 102 undef), (ys51.getD 103 undef), (ys51.getD 104 undef), (ys51.getD 105 undef), (ys51.getD 106 undef), (ys51.getD 107 undef), (ys51.getD 108 undef), (ys51.getD 109 undef), (ys51.getD 110 undef), (ys51.getD 111 undef), (ys51.getD 112 undef), (ys51.getD 113 undef), (ys51.getD 114 undef), (ys51.getD 115 undef), (ys51.getD 116 undef), (ys51.getD 117 undef), (ys51.getD 118 undef), (ys51.getD 119 undef), (ys51.getD 120 undef), (ys51.getD 121 undef), (ys51.getD 122 undef), (ys51.getD 123 undef), (ys51.getD 124 undef), (ys51.getD 125 undef), (ys51.getD 126 undef), (ys51.getD 127 undef), (ys51.getD 128 undef), (ys51.getD 129 undef), (ys51.getD 130 undef), (ys51.getD 131 undef), (ys51.getD 132 undef), (ys51.getD 133 undef), (ys51.getD 134 undef), (ys51.getD 135 undef), (ys51.getD 136 undef), (ys51.getD 137 undef), (ys51.getD 138 undef), (ys51.getD 139 undef), (ys51.getD 140 undef), (ys51.getD 141 undef), (ys51.getD 142 undef), (ys51.getD 143 undef), (ys51.getD 144 undef), (ys51.getD 145 undef), (ys51.getD 146 undef), (ys51.getD 147 undef), (ys51.getD 148 undef), (ys51.getD 149 undef), (ys51.getD 150 undef), (ys51.getD 151 undef), (ys51.getD 152 undef), (x56.getD 153 undef), (x56.getD 154 undef), (x56.getD 155 undef), (x56.getD 156 undef), (x56.getD 157 undef), (x56.getD 158 undef), (x56.getD 159 undef), (x56.getD 160 undef), (x56.getD 161 undef), (x56.getD 162 undef), (x56.getD 163 undef), (x56.getD 164 undef), (x56.getD 165 undef), (.pointer t7), (.int .i64 n61), (.int .i64 n9), (.int .i64 (IntKind.i64.wrap (n9 + 1))), (.bool (n61 != (IntKind.i64.wrap (n9 + 1)))), (.bool true), undef, undef, (.bool true), (.bool true), undef, undef, undef, (.bool true), undef] H60)
 else (
 bif (decide (n58 > 1)) then (
 K1 [(.int .i64 t0), (.int .i64 t1), (.slice t2 t2l 0), undef, undef, undef, (.bool false), (.pointer t7), (.slice (some ⟨t8, 0, none⟩) t8l 0), (.int .i64 n54), (.int .i64 n55), (.int .i64 t11), (.pointer (some ⟨t8, (0 + (n6.toNat * 5)), none⟩)), (.int .i64 n9), (ys51.getD 14 undef), (.int .i64 n58), (x56.getD 16 undef), (.pointer t17), (.pointer t18), (.bool t19), (.bool false), (.slice t21 t21l 0), (.int .i64 t22), (.bool t23), (.bool false), undef, undef, undef, undef, undef, (.int .i64 t30), (.int .i64 t31), (.int .i64 t32), (.slice (some ⟨t33, 0, none⟩) t33l 0), (.int .i64 t34), (.int .i64 t35), (.int .i64 t11), (.slice t2 t2l 0), (.int .i64 ((t2l : Nat) : Int)), (.bool true), (ys.getD 40 undef), (ys.getD 41 undef), (.slice (some ⟨t8, 0, none⟩) t8l 0), (.slice t2 t2l 0), (.int .i64 t11), (.pointer (some ⟨i1, (i2 + (t11.toNat * 1)), none⟩)), (.int .i64 n3), (.slice (some ⟨t8, 0, none⟩) t8l 0), (.int .i64 ((t8l : Nat) : Int)), (.int .i64 n6), (.pointer (some ⟨t8, (0 + (n6.toNat * 5)), none⟩)), (.pointer t7), (.int .i64 n9), (ys51.getD 53 undef), (ys51.getD 54 undef), (ys51.getD 55 undef), (ys51.getD 56 undef), (ys51.getD 57 undef), (ys51.getD 58 undef), (ys51.getD 59 undef), (ys51.getD 60 undef), (ys51.getD 61 undef), (ys51.getD 62 undef), (ys51.getD 63 undef), (ys51.getD 64 undef), (ys51.getD 65 undef), (ys51.getD 66 undef), (ys51.getD 67 undef), (ys51.getD 68 undef), (ys51.getD 69 undef), (ys51.getD 70 undef), (ys51.getD 71 undef), (ys51.getD 72 undef), (ys51.getD 73 undef), (ys51.getD 74 undef), (ys51.getD 75 undef), (ys51.getD 76 undef), (ys51.getD 77 undef), (ys51.getD 78 undef), (ys51.getD 79 undef), (ys51.getD 80 undef), (ys51.getD 81 undef), (ys51.getD 82 undef), (ys51.getD 83 undef), (ys51.getD 84 undef), (ys51.getD 85 undef), (ys51.getD 86 undef), (ys51.getD 87 undef), (ys51.getD 88 undef), (ys51.getD 89 undef), (ys51.getD 90 undef), (ys51.getD 91 undef), (ys51.getD 92 undef), (ys51.getD 93 undef), (ys51.getD 94 undef), (ys51.getD 95 undef), (ys51.getD 96 undef), (ys51.getD 97 undef), (ys51.getD 98 undef), (ys51.getD 99 undef), (ys51.getD 100 undef), (ys51.getD 101 undef), (ys51.getD 102 undef), (ys51.getD 103 undef), (ys51.getD 104 undef), (ys51.getD 105 undef), (ys51.getD 106 undef), (ys51.getD 107 undef), (ys51.getD 108 undef), (ys51.getD 109 undef), (ys51.getD 110 undef), (ys51.getD 111 undef), (ys51.getD 112 undef), (ys51.getD 113 undef), (ys51.getD 114 undef), (ys51.getD 115 undef), (ys51.getD 116 undef), (ys51.getD 117 undef), (ys51.getD 118 undef), (ys51.getD 119 undef), (ys51.getD 120 undef), (ys51.getD 121 undef), (ys51.getD 122 undef), (ys51.getD 123 undef), (ys51.getD 124 undef), (ys51.getD 125 undef), (ys51.getD 126 undef), (ys51.getD 127 undef), (ys51.getD 128 undef), (ys51.getD 129 undef), (ys51.getD 130 undef), (ys51.getD 131 undef), (ys51.getD 132 undef), (ys51.getD 133 undef), (ys51.getD 134 undef), (ys51.getD 135 undef), (ys51.getD 136 undef), (ys51.getD 137 undef), (ys51.getD 138 undef), (ys51.getD 139 undef), (ys51.getD 140 undef), (ys51.getD 141 undef), (ys51.getD 142 undef), (ys51.getD 143 undef), (ys51.getD 144 undef), (ys51.getD 145 undef), (ys51.getD 146 undef), (ys51.getD 147 undef), (ys51.getD 148 undef), (ys51.getD 149 undef), (ys51.getD 150 undef), (ys51.getD 151 undef), (ys51.getD 152 undef), (x56.getD 153 undef), (x56.getD 154 undef), (x56.getD 155 undef), (x56.getD 156 undef), (x56.getD 157 undef), (x56.getD 158 undef), (x56.getD 159 undef), (x56.getD 160 undef), (x56.getD 161 undef), (x56.getD 162 undef), (x56.getD 163 undef), (x56.getD 164 undef), (x56.getD 165 undef), (.pointer t7), (.int .i64 n61), (.int .i64 n9), (.int .i64 (IntKind.i64.wrap (n9 + 1))), (.bool (n61 != (IntKind.i64.wrap (n9 + 1)))), (.bool false), (.int .i64 n58), (.bool (decide (n58 > 1))), (.bool (decide (n58 > 1))), (.bool true), undef, undef, undef, (.bool true), undef] H60)
 else (
 CA en F.smem_Mem_Bad [(.pointer t7)] H60 fun v62 H63 =>
 ∃ n64, v62 = (.int .i64 n64) ∧
 bif (n64 != 0) then (
 K1 [(.int .i64 t0), (.int .i64 t1), (.slice t2 t2l 0), undef, undef, undef, (.bool false), (.pointer t7), (.slice (some ⟨t8, 0, none⟩) t8l 0), (.int .i64 n54), (.int .i64 n55), (.int .i64 t11), (.pointer (some ⟨t8, (0 + (n6.toNat * 5)), none⟩)), (.int .i64 n9), (ys51.getD 14 undef), (.int .i64 n58), (x56.getD 16 undef), (.pointer t17), (.pointer t18), (.bool t19), (.bool false), (.slice t21 t21l 0), (.int .i64 t22), (.bool t23), (.bool false), undef, undef, undef, undef, undef, (.int .i64 t30), (.int .i64 t31), (.int .i64 t32), (.slice (some ⟨t33, 0, none⟩) t33l 0), (.int .i64 t34), (.int .i64 t35), (.int .i64 t11), (.slice t2 t2l 0), (.int .i64 ((t2l : Nat) : Int)), (.bool true), (ys.getD 40 undef), (ys.getD 41 undef), (.slice (some ⟨t8, 0, none⟩) t8l 0), (.slice t2 t2l 0), (.int .i64 t11), (.pointer (some ⟨i1, (i2 + (t11.toNat * 1)), none⟩)), (.int .i64 n3), (.slice (some ⟨t8, 0, none⟩) t8l 0), (.int .i64 ((t8l : Nat) : Int)), (.int .i64 n6), (.pointer (some ⟨t8, (0 + (n6.toNat * 5)), none⟩)), (.pointer t7), (.int .i64 n9), (ys51.getD 53 undef), (ys51.getD 54 undef), (ys51.getD 55 undef), (ys51.getD 56 undef), (ys51.getD 57 undef), (ys51.getD 58 undef), (ys51.getD 59 undef), (ys51.getD 60 undef), (ys51.getD 61 undef), (ys51.getD 62 undef), (ys51.getD 63 undef), (ys51.getD 64 undef), (ys51.getD 65 undef), (ys51.getD 66 undef), (ys51.getD 67 undef), (ys51.getD 68 undef), (ys51.getD 69 undef), (ys51.getD 70 undef), (ys51.getD 71 undef), (ys51.getD 72 undef), (ys51.getD 73 undef), (ys51.getD 74 undef), (ys51.getD 75 undef), (ys51.getD 76 undef), (ys51.getD 77 undef), (ys51.getD 78 undef), (ys51.getD 79 undef), (ys51.getD 80 undef), (ys51.getD 81 undef), (ys51.getD 82 undef), (ys51.getD 83 undef), (ys51.getD 84 undef), (ys51.getD 85 undef), (ys51.getD 86 undef), (ys51.getD 87 undef), (ys51.getD 88 undef), (ys51.getD 89 undef), (ys51.getD 90 undef), (ys51.getD 91 undef), (ys51.getD 92 undef), (ys51.getD 93 undef), (ys51.getD 94 undef), (ys51.getD 95 undef), (ys51.getD 96 undef), (ys51.getD 97 undef), (ys51.getD 98 undef), (ys51.getD 99 undef), (ys51.getD 100 undef), (ys51.getD 101 undef), (ys51.getD 102 undef), (ys51.getD 103 undef), (ys51.getD 104 undef), (ys51.getD 105 undef), (ys51.getD 106 undef), (ys51.getD 107 undef), (ys51.getD 108 undef), (ys51.getD 109 undef), (ys51.getD 110 undef), (ys51.getD 111 undef), (ys51.getD 112 undef), (ys51.getD 113 undef), (ys51.getD 114 undef), (ys51.getD 115 undef), (ys51.getD 116 undef), (ys51.getD 117 undef), (ys51.getD 118 undef), (ys51.getD 119 undef), (ys51.getD 120 undef), (ys51.getD 121 undef), (ys51.getD 122 undef), (ys51.getD 123 undef), (ys51.getD 124 undef), (ys51.getD 125 undef), (ys51.getD 126 undef), (ys51.getD 127 undef), (ys51.getD 128 undef), (ys51.getD 129 undef), (ys51.getD 130 undef), (ys51.getD 131 undef), (ys51.getD 132 undef), (ys51.getD 133 undef), (ys51.getD 134 undef), (ys51.getD 135 undef), (ys51.getD 136 undef), (ys51.getD 137 undef), (ys51.getD 138 undef), (ys51.getD 139 undef), (ys51.getD 140 undef), (ys51.getD 141 undef), (ys51.getD 142 undef), (ys51.getD 143 undef), (ys51.getD 144 undef), (ys51.getD 145 undef), (ys51.getD 146 undef), (ys51.getD 147 undef), (ys51.getD 148 undef), (ys51.getD 149 undef), (ys51.getD 150 undef), (ys51.getD 151 undef), (ys51.getD 152 undef), (x56.getD 153 undef), (x56.getD 154 undef), (x56.getD 155 undef), (x56.getD 156 undef), (x56.getD 157 undef), (x56.getD 158 undef), (x56.getD 159 undef), (x56.getD 160 undef), (x56.getD 161 undef), (x56.getD 162 undef), (x56.getD 163 undef), (x56.getD 164 undef), (x56.getD 165 undef), (.pointer t7), (.int .i64 n61), (.int .i64 n9), (.int .i64 (IntKind.i64.wrap (n9 + 1))), (.bool (n61 != (IntKind.i64.wrap (n9 + 1)))), (.bool false), (.int .i64 n58), (.bool (decide (n58 > 1))), (.bool (decide (n58 > 1))), (.bool false), (.pointer t7), (.int .i64 n64), (.bool (n64 != 0)), (.bool true), undef] H63)
 else (
 ∃ k65, k65 < n ∧
 I k65 b53 n54 n55 (IntKind.i64.wrap (t11 + 1)) H63))))])
 else (
 K0 [(.int .i64 t0), (.int .i64 t1), (.slice t2 t2l 0), undef, undef, undef, (.bool t6), (.pointer t7), (.slice (some ⟨t8, 0, none⟩) t8l 0), (.int .i64 t9), (.int .i64 t10), (.int .i64 t11), (ys.getD 12 undef), (ys.getD 13 undef), (ys.getD 14 undef), (ys.getD 15 undef), (ys.getD 16 undef), (.pointer t17), (.pointer t18), (.bool t19), (.bool false), (.slice t21 t21l 0), (.int .i64 t22), (.bool t23), (.bool false), undef, undef, undef, undef, undef, (.int .i64 t30), (.int .i64 t31), (.int .i64 t32), (.slice (some ⟨t33, 0, none⟩) t33l 0), (.int .i64 t34), (.int .i64 t35), (.int .i64 t11), (.slice t2 t2l 0), (.int .i64 ((t2l : Nat) : Int)), (.bool false), (ys.getD 40 undef), (ys.getD 41 undef), (ys.getD 42 undef), (ys.getD 43 undef), (ys.getD 44 undef), (ys.getD 45 undef), (ys.getD 46 undef), (ys.getD 47 undef), (ys.getD 48 undef), (ys.getD 49 undef), (ys.getD 50 undef), (ys.getD 51 undef), (ys.getD 52 undef), (ys.getD 53 undef), (ys.getD 54 undef), (ys.getD 55 undef), (ys.getD 56 undef), (ys.getD 57 undef), (ys.getD 58 undef), (ys.getD 59 undef), (ys.getD 60 undef), (ys.getD 61 undef), (ys.getD 62 undef), (ys.getD 63 undef), (ys.getD 64 undef), (ys.getD 65 undef), (ys.getD 66 undef), (ys.getD 67 undef), (ys.getD 68 undef), (ys.getD 69 undef), (ys.getD 70 undef), (ys.getD 71 undef), (ys.getD 72 undef), (ys.getD 73 undef), (ys.getD 74 undef), (ys.getD 75 undef), (ys.getD 76 undef), (ys.getD 77 undef), (ys.getD 78 undef), (ys.getD 79 undef), (ys.getD 80 undef), (ys.getD 81 undef), (ys.getD 82 undef), (ys.getD 83 undef), (ys.getD 84 undef), (ys.getD 85 undef), (ys.getD 86 undef), (ys.getD 87 undef), (ys.getD 88 undef), (ys.getD 89 undef), (ys.getD 90 undef), (ys.getD 91 undef), (ys.getD 92 undef), (ys.getD 93 undef), (ys.getD 94 undef), (ys.getD 95 undef), (ys.getD 96 undef), (ys.getD 97 undef), (ys.getD 98 undef), (ys.getD 99 undef), (ys.getD 100 undef), (ys.getD 101 undef), (ys.getD 102 undef), (ys.getD 103 undef), (ys.getD 104 undef), (ys.getD 105 undef), (ys.getD 106 undef), (ys.getD 107 undef), (ys.getD 108 undef), (ys.getD 109 undef), (ys.getD 110 undef), (ys.getD 111 undef), (ys.getD 112 undef), (ys.getD 113 undef), (ys.getD 114 undef), (ys.getD 115 undef), (ys.getD 116 undef), (ys.getD 117 undef), (ys.getD 118 undef), (ys.getD 119 undef), (ys.getD 120 undef), (ys.getD 121 undef), (ys.getD 122 undef), (ys.getD 123 undef), (ys.getD 124 undef), (ys.getD 125 undef), (ys.getD 126 undef), (ys.getD 127 undef), (ys.getD 128 undef), (ys.getD 129 undef), (ys.getD 130 undef), (ys.getD 131 undef), (ys.getD 132 undef), (ys.getD 133 undef), (ys.getD 134 undef), (ys.getD 135 undef), (ys.getD 136 undef), (ys.getD 137 undef), (ys.getD 138 undef), (ys.getD 139 undef), (ys.getD 140 undef), (ys.getD 141 undef), (ys.getD 142 undef), (ys.getD 143 undef), (ys.getD 144 undef), (ys.getD 145 undef), (ys.getD 146 undef), (ys.getD 147 undef), (ys.getD 148 undef), (ys.getD 149 undef), (ys.getD 150 undef), (ys.getD 151 undef), (ys.getD 152 undef), (ys.getD 153 undef), (ys.getD 154 undef), (ys.getD 155 undef), (ys.getD 156 undef), (ys.getD 157 undef), (ys.getD 158 undef), (ys.getD 159 undef), (ys.getD 160 undef), (ys.getD 161 undef), (ys.getD 162 undef), (ys.getD 163 undef), (ys.getD 164 undef), (ys.getD 165 undef), (ys.getD 166 undef), (ys.getD 167 undef), (ys.getD 168 undef), (ys.getD 169 undef), (ys.getD 170 undef), (ys.getD 171 undef), (ys.getD 172 undef), (ys.getD 173 undef), (ys.getD 174 undef), (ys.getD 175 undef), (ys.getD 176 undef), (ys.getD 177 undef), (ys.getD 178 undef), (ys.getD 179 undef), undef] H))) :
    LA en L_crossbarlaw10_LockTurns_0 [(.int .i64 t0), (.int .i64 t1), (.slice t2 t2l 0), undef, undef, undef, (.bool t6), (.pointer t7), (.slice (some ⟨t8, 0, none⟩) t8l 0), (.int .i64 t9), (.int .i64 t10), (.int .i64 t11), t12, t13, t14, t15, t16, (.pointer t17), (.pointer t18), (.bool t19), (.bool false), (.slice t21 t21l 0), (.int .i64 t22), (.bool t23), (.bool false), undef, undef, undef, undef, undef, (.int .i64 t30), (.int .i64 t31), (.int .i64 t32), (.slice (some ⟨t33, 0, none⟩) t33l 0), (.int .i64 t34), (.int .i64 t35), t36, t37, t38, t39, t40, t41, t42, t43, t44, t45, t46, t47, t48, t49, t50, t51, t52, t53, t54, t55, t56, t57, t58, t59, t60, t61, t62, t63, t64, t65, t66, t67, t68, t69, t70, t71, t72, t73, t74, t75, t76, t77, t78, t79, t80, t81, t82, t83, t84, t85, t86, t87, t88, t89, t90, t91, t92, t93, t94, t95, t96, t97, t98, t99, t100, t101, t102, t103, t104, t105, t106, t107, t108, t109, t110, t111, t112, t113, t114, t115, t116, t117, t118, t119, t120, t121, t122, t123, t124, t125, t126, t127, t128, t129, t130, t131, t132, t133, t134, t135, t136, t137, t138, t139, t140, t141, t142, t143, t144, t145, t146, t147, t148, t149, t150, t151, t152, t153, t154, t155, t156, t157, t158, t159, t160, t161, t162, t163, t164, t165, t166, t167, t168, t169, t170, t171, t172, t173, t174, t175, t176, t177, t178, t179, undef] H [(X.exit 0, K0), (X.ret, K1)] := by
  refine LA_ruleC (C := [none, none, none, none, none, some [(6, (.bool false)), (9, (.int .i64 0)), (10, (.int .i64 0))], none, none, none, none, none, none, none, none, none, none, none, none, none, none, none, none, none, none, none, none, none, none, none, none, none, none, none, none, none]) (Z := [[(15, (.int .i64 0))]]) (fun m xs H' => AS.asBool (xs.getD 6 undef) fun t6 => AS.asInt .i64 (xs.getD 9 undef) fun t9 => AS.asInt .i64 (xs.getD 10 undef) fun t10 => AS.asInt .i64 (xs.getD 11 undef) fun t11 => I m t6 t9 t10 t11 H') ?_ n H ?_
  · intro n H
    suffices hs : ∀ s36 : Value, ∀ s37 : Value, ∀ s38 : Value, ∀ s39 : Value, ∀ s42 : Value, ∀ s43 : Value, ∀ s44 : Value, ∀ s45 : Value, ∀ s46 : Value, ∀ s47 : Value, ∀ s48 : Value, ∀ s49 : Value, ∀ s50 : Value, ∀ s12 : Value, ∀ s51 : Value, ∀ s52 : Value, ∀ s13 : Value, ∀ s68 : Value, ∀ s69 : Value, ∀ s70 : Value, ∀ s71 : Value, ∀ s72 : Value, ∀ s67 : Value, ∀ s73 : Value, ∀ s74 : Value, ∀ s75 : Value, ∀ s76 : Value, ∀ s77 : Value, ∀ s78 : Value, ∀ s79 : Value, ∀ s80 : Value, ∀ s81 : Value, ∀ s82 : Value, ∀ s83 : Value, ∀ s84 : Value, ∀ s85 : Value, ∀ s86 : Value, ∀ s87 : Value, ∀ s88 : Value, ∀ s89 : Value, ∀ s6 : Value, ∀ s90 : Value, ∀ s91 : Value, ∀ s92 : Value, ∀ s93 : Value, ∀ s94 : Value, ∀ s95 : Value, ∀ s96 : Value, ∀ s97 : Value, ∀ s98 : Value, ∀ s9 : Value, ∀ s100 : Value, ∀ s101 : Value, ∀ s102 : Value, ∀ s103 : Value, ∀ s104 : Value, ∀ s99 : Value, ∀ s105 : Value, ∀ s106 : Value, ∀ s107 : Value, ∀ s108 : Value, ∀ s109 : Value, ∀ s14 : Value, ∀ s110 : Value, ∀ s111 : Value, ∀ s112 : Value, ∀ s113 : Value, ∀ s114 : Value, ∀ s115 : Value, ∀ s116 : Value, ∀ s117 : Value, ∀ s118 : Value, ∀ s119 : Value, ∀ s120 : Value, ∀ s121 : Value, ∀ s122 : Value, ∀ s123 : Value, ∀ s124 : Value, ∀ s126 : Value, ∀ s127 : Value, ∀ s128 : Value, ∀ s129 : Value, ∀ s130 : Value, ∀ s131 : Value, ∀ s125 : Value, ∀ s132 : Value, ∀ s133 : Value, ∀ s134 : Value, ∀ s135 : Value, ∀ s136 : Value, ∀ s137 : Value, ∀ s138 : Value, ∀ s139 : Value, ∀ s140 : Value, ∀ s141 : Value, ∀ s142 : Value, ∀ s143 : Value, ∀ s144 : Value, ∀ s145 : Value, ∀ s146 : Value, ∀ s147 : Value, ∀ s148 : Value, ∀ s149 : Value, ∀ s150 : Value, ∀ s151 : Value, ∀ s152 : Value, ∀ s53 : Value, ∀ s54 : Value, ∀ s55 : Value, ∀ s56 : Value, ∀ s57 : Value, ∀ s10 : Value, ∀ s58 : Value, ∀ s59 : Value, ∀ s60 : Value, ∀ s61 : Value, ∀ s62 : Value, ∀ s63 : Value, ∀ s64 : Value, ∀ s65 : Value, ∀ s66 : Value, ∀ s15 : Value, ∀ s16 : Value, ∀ s153 : Value, ∀ s154 : Value, ∀ s155 : Value, ∀ s156 : Value, ∀ s159 : Value, ∀ s160 : Value, ∀ s161 : Value, ∀ s162 : Value, ∀ s163 : Value, ∀ s164 : Value, ∀ s165 : Value, ∀ s157 : Value, ∀ s158 : Value, ∀ s166 : Value, ∀ s167 : Value, ∀ s168 : Value, ∀ s169 : Value, ∀ s170 : Value, ∀ s171 : Value, ∀ s172 : Value, ∀ s173 : Value, ∀ s174 : Value, ∀ s175 : Value, ∀ s176 : Value, ∀ s177 : Value, ∀ s178 : Value, ∀ s179 : Value, ∀ s40 : Value, ∀ s41 : Value, ∀ s11 : Value, ((AS.asBool s6 fun t6 => AS.asInt .i64 s9 fun t9 => AS.asInt .i64 s10 fun t10 => AS.asInt .i64 s11 fun t11 => I n t6 t9 t10 t11 H) → wpCodeC en L_crossbarlaw10_LockTurns_0 [none, none, none, none, none, some [(6, (.bool false)), (9, (.int .i64 0)), (10, (.int .i64 0))], none, none, none, none, none, none, none, none, none, none, none, none, none, none, none, none, none, none, none, none, none, none, none, none, none, none, none, none, none] [[(15, (.int .i64 0))]] [(.int .i64 t0), (.int .i64 t1), (.slice t2 t2l 0), undef, undef, undef, s6, (.pointer t7), (.slice (some ⟨t8, 0, none⟩) t8l 0), s9, s10, s11, s12, s13, s14, s15, s16, (.pointer t17), (.pointer t18), (.bool t19), (.bool false), (.slice t21 t21l 0), (.int .i64 t22), (.bool t23), (.bool false), undef, undef, undef, undef, undef, (.int .i64 t30), (.int .i64 t31), (.int .i64 t32), (.slice (some ⟨t33, 0, none⟩) t33l 0), (.int .i64 t34), (.int .i64 t35), s36, s37, s38, s39, s40, s41, s42, s43, s44, s45, s46, s47, s48, s49, s50, s51, s52, s53, s54, s55, s56, s57, s58, s59, s60, s61, s62, s63, s64, s65, s66, s67, s68, s69, s70, s71, s72, s73, s74, s75, s76, s77, s78, s79, s80, s81, s82, s83, s84, s85, s86, s87, s88, s89, s90, s91, s92, s93, s94, s95, s96, s97, s98, s99, s100, s101, s102, s103, s104, s105, s106, s107, s108, s109, s110, s111, s112, s113, s114, s115, s116, s117, s118, s119, s120, s121, s122, s123, s124, s125, s126, s127, s128, s129, s130, s131, s132, s133, s134, s135, s136, s137, s138, s139, s140, s141, s142, s143, s144, s145, s146, s147, s148, s149, s150, s151, s152, s153, s154, s155, s156, s157, s158, s159, s160, s161, s162, s163, s164, s165, s166, s167, s168, s169, s170, s171, s172, s173, s174, s175, s176, s177, s178, s179, undef] H (loopQ (fun m xs H' => AS.asBool (xs.getD 6 undef) fun t6 => AS.asInt .i64 (xs.getD 9 undef) fun t9 => AS.asInt .i64 (xs.getD 10 undef) fun t10 => AS.asInt .i64 (xs.getD 11 undef) fun t11 => I m t6 t9 t10 t11 H') n [(X.exit 0, K0), (X.ret, K1)])) by
      apply turnInto hs
      kernel_rfl
    intro s36 s37 s38 s39 s42 s43 s44 s45 s46 s47 s48 s49 s50 s12 s51 s52 s13 s68 s69 s70 s71 s72 s67 s73 s74 s75 s76 s77 s78 s79 s80 s81 s82 s83 s84 s85 s86 s87 s88 s89 s6 s90 s91 s92 s93 s94 s95 s96 s97 s98 s9 s100 s101 s102 s103 s104 s99 s105 s106 s107 s108 s109 s14 s110 s111 s112 s113 s114 s115 s116 s117 s118 s119 s120 s121 s122 s123 s124 s126 s127 s128 s129 s130 s131 s125 s132 s133 s134 s135 s136 s137 s138 s139 s140 s141 s142 s143 s144 s145 s146 s147 s148 s149 s150 s151 s152 s53 s54 s55 s56 s57 s10 s58 s59 s60 s61 s62 s63 s64 s65 s66 s15 s16 s153 s154 s155 s156 s159 s160 s161 s162 s163 s164 s165 s157 s158 s166 s167 s168 s169 s170 s171 s172 s173 s174 s175 s176 s177 s178 s179 s40 s41 s11 hP
    replace hP := asBool_elim hP
    obtain ⟨t6, rfl, hP⟩ := hP
    replace hP := asInt_elim hP
    obtain ⟨t9, rfl, hP⟩ := hP
    replace hP := asInt_elim hP
    obtain ⟨t10, rfl, hP⟩ := hP
    replace hP := asInt_elim hP
    obtain ⟨t11, rfl, hP⟩ := hP
    apply turnInto (hstep n t6 t9 t10 t11 [(.int .i64 t0), (.int .i64 t1), (.slice t2 t2l 0), undef, undef, undef, (.bool t6), (.pointer t7), (.slice (some ⟨t8, 0, none⟩) t8l 0), (.int .i64 t9), (.int .i64 t10), (.int .i64 t11), s12, s13, s14, s15, s16, (.pointer t17), (.pointer t18), (.bool t19), (.bool false), (.slice t21 t21l 0), (.int .i64 t22), (.bool t23), (.bool false), undef, undef, undef, undef, undef, (.int .i64 t30), (.int .i64 t31), (.int .i64 t32), (.slice (some ⟨t33, 0, none⟩) t33l 0), (.int .i64 t34), (.int .i64 t35), s36, s37, s38, s39, s40, s41, s42, s43, s44, s45, s46, s47, s48, s49, s50, s51, s52, s53, s54, s55, s56, s57, s58, s59, s60, s61, s62, s63, s64, s65, s66, s67, s68, s69, s70, s71, s72, s73, s74, s75, s76, s77, s78, s79, s80, s81, s82, s83, s84, s85, s86, s87, s88, s89, s90, s91, s92, s93, s94, s95, s96, s97, s98, s99, s100, s101, s102, s103, s104, s105, s106, s107, s108, s109, s110, s111, s112, s113, s114, s115, s116, s117, s118, s119, s120, s121, s122, s123, s124, s125, s126, s127, s128, s129, s130, s131, s132, s133, s134, s135, s136, s137, s138, s139, s140, s141, s142, s143, s144, s145, s146, s147, s148, s149, s150, s151, s152, s153, s154, s155, s156, s157, s158, s159, s160, s161, s162, s163, s164, s165, s166, s167, s168, s169, s170, s171, s172, s173, s174, s175, s176, s177, s178, s179, undef] H hP)
    kernel_rfl
  · apply turnInto h0
    kernel_rfl

theorem use_crossbarlaw10_LockTurns_1 {t0 : Int} {t1 : Int} {t2 : Option Addr} {t2l : Nat} {t6 : Bool} {t7 : Option Addr} {t8 : Nat} {t8l : Nat} {t9 : Int} {t10 : Int} {t11 : Int} {t12 : Nat} {t12o : Nat} {t13 : Int} {t14 : Value} {t17 : Option Addr} {t18 : Option Addr} {t19 : Bool} {t21 : Option Addr} {t21l : Nat} {t22 : Int} {t23 : Bool} {t30 : Int} {t31 : Int} {t32 : Int} {t33 : Nat} {t33l : Nat} {t34 : Int} {t35 : Int} {t36 : Int} {t37 : Option Addr} {t37l : Nat} {t38 : Int} {t40 : Value} {t41 : Value} {t42 : Nat} {t42l : Nat} {t43 : Option Addr} {t43l : Nat} {t44 : Int} {t45 : Nat} {t45o : Nat} {t46 : Int} {t47 : Nat} {t47l : Nat} {t48 : Int} {t49 : Int} {t50 : Nat} {t50o : Nat} {t51 : Option Addr} {t52 : Int} {t53 : Value} {t54 : Value} {t55 : Value} {t56 : Value} {t57 : Value} {t58 : Value} {t59 : Value} {t60 : Value} {t61 : Value} {t62 : Value} {t63 : Value} {t64 : Value} {t65 : Value} {t66 : Value} {t67 : Value} {t68 : Value} {t69 : Value} {t70 : Value} {t71 : Value} {t72 : Value} {t73 : Value} {t74 : Value} {t75 : Value} {t76 : Value} {t77 : Value} {t78 : Value} {t79 : Value} {t80 : Value} {t81 : Value} {t82 : Value} {t83 : Value} {t84 : Value} {t85 : Value} {t86 : Value} {t87 : Value} {t88 : Value} {t89 : Value} {t90 : Value} {t91 : Value} {t92 : Value} {t93 : Value} {t94 : Value} {t95 : Value} {t96 : Value} {t97 : Value} {t98 : Value} {t99 : Value} {t100 : Value} {t101 : Value} {t102 : Value} {t103 : Value} {t104 : Value} {t105 : Value} {t106 : Value} {t107 : Value} {t108 : Value} {t109 : Value} {t110 : Value} {t111 : Value} {t112 : Value} {t113 : Value} {t114 : Value} {t115 : Value} {t116 : Value} {t117 : Value} {t118 : Value} {t119 : Value} {t120 : Value} {t121 : Value} {t122 : Value} {t123 : Value} {t124 : Value} {t125 : Value} {t126 : Value} {t127 : Value} {t128 : Value} {t129 : Value} {t130 : Value} {t131 : Value} {t132 : Value} {t133 : Value} {t134 : Value} {t135 : Value} {t136 : Value} {t137 : Value} {t138 : Value} {t139 : Value} {t140 : Value} {t141 : Value} {t142 : Value} {t143 : Value} {t144 : Value} {t145 : Value} {t146 : Value} {t147 : Value} {t148 : Value} {t149 : Value} {t150 : Value} {t151 : Value} {t152 : Value} {t166 : Value} {t167 : Value} {t168 : Value} {t169 : Value} {t170 : Value} {t171 : Value} {t172 : Value} {t173 : Value} {t174 : Value} {t175 : Value} {t176 : Value} {t177 : Value} {t178 : Value} {t179 : Value} {K0 : Fr → Heap → Prop} {t15 : Int} {t16 : Int} {t153 : Value} {t154 : Value} {t155 : Value} {t156 : Value} {t157 : Value} {t158 : Value} {t159 : Value} {t160 : Value} {t161 : Value} {t162 : Value} {t163 : Value} {t164 : Value} {t165 : Value} {H : Heap} (I : Nat → Int → Int → Heap → Prop) (n : Nat) (h0 : I n t15 t16 H)
    (hstep : ∀ (n : Nat) (t15 : Int) (t16 : Int) (ys : Fr) (H : Heap), I n t15 t16 H →
    (
 bif (decide (t16 < ((t8l : Nat) : Int))) then (
 inB t16 t8l ∧
 ∃ b1, H.cell t8 ((0 + (t16.toNat * 5)) + 2) = some (.bool b1) ∧
 bif b1 then (
 ∃ k2, k2 < n ∧
 I k2 (IntKind.i64.wrap (t15 + 1)) (IntKind.i64.wrap (t16 + 1)) H)
 else (
 ∃ k3, k3 < n ∧
 I k3 t15 (IntKind.i64.wrap (t16 + 1)) H))
 else (
 K0 [(.int .i64 t0), (.int .i64 t1), (.slice t2 t2l 0), undef, undef, undef, (.bool t6), (.pointer t7), (.slice (some ⟨t8, 0, none⟩) t8l 0), (.int .i64 t9), (.int .i64 t10), (.int .i64 t11), (.pointer (some ⟨t12, t12o, none⟩)), (.int .i64 t13), t14, (.int .i64 t15), (.int .i64 t16), (.pointer t17), (.pointer t18), (.bool t19), (.bool false), (.slice t21 t21l 0), (.int .i64 t22), (.bool t23), (.bool false), undef, undef, undef, undef, undef, (.int .i64 t30), (.int .i64 t31), (.int .i64 t32), (.slice (some ⟨t33, 0, none⟩) t33l 0), (.int .i64 t34), (.int .i64 t35), (.int .i64 t36), (.slice t37 t37l 0), (.int .i64 t38), (.bool true), t40, t41, (.slice (some ⟨t42, 0, none⟩) t42l 0), (.slice t43 t43l 0), (.int .i64 t44), (.pointer (some ⟨t45, t45o, none⟩)), (.int .i64 t46), (.slice (some ⟨t47, 0, none⟩) t47l 0), (.int .i64 t48), (.int .i64 t49), (.pointer (some ⟨t50, t50o, none⟩)), (.pointer t51), (.int .i64 t52), t53, t54, t55, t56, t57, t58, t59, t60, t61, t62, t63, t64, t65, t66, t67, t68, t69, t70, t71, t72, t73, t74, t75, t76, t77, t78, t79, t80, t81, t82, t83, t84, t85, t86, t87, t88, t89, t90, t91, t92, t93, t94, t95, t96, t97, t98, t99, t100, t101, t102, t103, t104, t105, t106, t107, t108, t109, t110, t111, t112, t113, t114, t115, t116, t117, t118, t119, t120, t121, t122, t123, t124, t125, t126, t127, t128, t129, t130, t131, t132, t133, t134, t135, t136, t137, t138, t139, t140, t141, t142, t143, t144, t145, t146, t147, t148, t149, t150, t151, t152, (.int .i64 t16), (.slice (some ⟨t8, 0, none⟩) t8l 0), (.int .i64 ((t8l : Nat) : Int)), (.bool false), (ys.getD 157 undef), (ys.getD 158 undef), (ys.getD 159 undef), (ys.getD 160 undef), (ys.getD 161 undef), (ys.getD 162 undef), (ys.getD 163 undef), (ys.getD 164 undef), (ys.getD 165 undef), t166, t167, t168, t169, t170, t171, t172, t173, t174, t175, t176, t177, t178, t179, undef] H))) :
    LA en L_crossbarlaw10_LockTurns_1 [(.int .i64 t0), (.int .i64 t1), (.slice t2 t2l 0), undef, undef, undef, (.bool t6), (.pointer t7), (.slice (some ⟨t8, 0, none⟩) t8l 0), (.int .i64 t9), (.int .i64 t10), (.int .i64 t11), (.pointer (some ⟨t12, t12o, none⟩)), (.int .i64 t13), t14, (.int .i64 t15), (.int .i64 t16), (.pointer t17), (.pointer t18), (.bool t19), (.bool false), (.slice t21 t21l 0), (.int .i64 t22), (.bool t23), (.bool false), undef, undef, undef, undef, undef, (.int .i64 t30), (.int .i64 t31), (.int .i64 t32), (.slice (some ⟨t33, 0, none⟩) t33l 0), (.int .i64 t34), (.int .i64 t35), (.int .i64 t36), (.slice t37 t37l 0), (.int .i64 t38), (.bool true), t40, t41, (.slice (some ⟨t42, 0, none⟩) t42l 0), (.slice t43 t43l 0), (.int .i64 t44), (.pointer (some ⟨t45, t45o, none⟩)), (.int .i64 t46), (.slice (some ⟨t47, 0, none⟩) t47l 0), (.int .i64 t48), (.int .i64 t49), (.pointer (some ⟨t50, t50o, none⟩)), (.pointer t51), (.int .i64 t52), t53, t54, t55, t56, t57, t58, t59, t60, t61, t62, t63, t64, t65, t66, t67, t68, t69, t70, t71, t72, t73, t74, t75, t76, t77, t78, t79, t80, t81, t82, t83, t84, t85, t86, t87, t88, t89, t90, t91, t92, t93, t94, t95, t96, t97, t98, t99, t100, t101, t102, t103, t104, t105, t106, t107, t108, t109, t110, t111, t112, t113, t114, t115, t116, t117, t118, t119, t120, t121, t122, t123, t124, t125, t126, t127, t128, t129, t130, t131, t132, t133, t134, t135, t136, t137, t138, t139, t140, t141, t142, t143, t144, t145, t146, t147, t148, t149, t150, t151, t152, t153, t154, t155, t156, t157, t158, t159, t160, t161, t162, t163, t164, t165, t166, t167, t168, t169, t170, t171, t172, t173, t174, t175, t176, t177, t178, t179, undef] H [(X.exit 3, K0)] := by
  refine LA_rule (Z := []) (fun m xs H' => AS.asInt .i64 (xs.getD 15 undef) fun t15 => AS.asInt .i64 (xs.getD 16 undef) fun t16 => I m t15 t16 H') ?_ n H ?_
  · intro n H
    suffices hs : ∀ s153 : Value, ∀ s154 : Value, ∀ s155 : Value, ∀ s156 : Value, ∀ s159 : Value, ∀ s160 : Value, ∀ s161 : Value, ∀ s162 : Value, ∀ s163 : Value, ∀ s164 : Value, ∀ s165 : Value, ∀ s15 : Value, ∀ s157 : Value, ∀ s158 : Value, ∀ s16 : Value, ((AS.asInt .i64 s15 fun t15 => AS.asInt .i64 s16 fun t16 => I n t15 t16 H) → wpCode en L_crossbarlaw10_LockTurns_1 [] [(.int .i64 t0), (.int .i64 t1), (.slice t2 t2l 0), undef, undef, undef, (.bool t6), (.pointer t7), (.slice (some ⟨t8, 0, none⟩) t8l 0), (.int .i64 t9), (.int .i64 t10), (.int .i64 t11), (.pointer (some ⟨t12, t12o, none⟩)), (.int .i64 t13), t14, s15, s16, (.pointer t17), (.pointer t18), (.bool t19), (.bool false), (.slice t21 t21l 0), (.int .i64 t22), (.bool t23), (.bool false), undef, undef, undef, undef, undef, (.int .i64 t30), (.int .i64 t31), (.int .i64 t32), (.slice (some ⟨t33, 0, none⟩) t33l 0), (.int .i64 t34), (.int .i64 t35), (.int .i64 t36), (.slice t37 t37l 0), (.int .i64 t38), (.bool true), t40, t41, (.slice (some ⟨t42, 0, none⟩) t42l 0), (.slice t43 t43l 0), (.int .i64 t44), (.pointer (some ⟨t45, t45o, none⟩)), (.int .i64 t46), (.slice (some ⟨t47, 0, none⟩) t47l 0), (.int .i64 t48), (.int .i64 t49), (.pointer (some ⟨t50, t50o, none⟩)), (.pointer t51), (.int .i64 t52), t53, t54, t55, t56, t57, t58, t59, t60, t61, t62, t63, t64, t65, t66, t67, t68, t69, t70, t71, t72, t73, t74, t75, t76, t77, t78, t79, t80, t81, t82, t83, t84, t85, t86, t87, t88, t89, t90, t91, t92, t93, t94, t95, t96, t97, t98, t99, t100, t101, t102, t103, t104, t105, t106, t107, t108, t109, t110, t111, t112, t113, t114, t115, t116, t117, t118, t119, t120, t121, t122, t123, t124, t125, t126, t127, t128, t129, t130, t131, t132, t133, t134, t135, t136, t137, t138, t139, t140, t141, t142, t143, t144, t145, t146, t147, t148, t149, t150, t151, t152, s153, s154, s155, s156, s157, s158, s159, s160, s161, s162, s163, s164, s165, t166, t167, t168, t169, t170, t171, t172, t173, t174, t175, t176, t177, t178, t179, undef] H (loopQ (fun m xs H' => AS.asInt .i64 (xs.getD 15 undef) fun t15 => AS.asInt .i64 (xs.getD 16 undef) fun t16 => I m t15 t16 H') n [(X.exit 3, K0)])) by
      apply turnInto hs
      kernel_rfl
    intro s153 s154 s155 s156 s159 s160 s161 s162 s163 s164 s165 s15 s157 s158 s16 hP
    replace hP := asInt_elim hP
    obtain ⟨t15, rfl, hP⟩ := hP
    replace hP := asInt_elim hP
    obtain ⟨t16, rfl, hP⟩ := hP
    apply turnInto (hstep n t15 t16 [(.int .i64 t0), (.int .i64 t1), (.slice t2 t2l 0), undef, undef, undef, (.bool t6), (.pointer t7), (.slice (some ⟨t8, 0, none⟩) t8l 0), (.int .i64 t9), (.int .i64 t10), (.int .i64 t11), (.pointer (some ⟨t12, t12o, none⟩)), (.int .i64 t13), t14, (.int .i64 t15), (.int .i64 t16), (.pointer t17), (.pointer t18), (.bool t19), (.bool false), (.slice t21 t21l 0), (.int .i64 t22), (.bool t23), (.bool false), undef, undef, undef, undef, undef, (.int .i64 t30), (.int .i64 t31), (.int .i64 t32), (.slice (some ⟨t33, 0, none⟩) t33l 0), (.int .i64 t34), (.int .i64 t35), (.int .i64 t36), (.slice t37 t37l 0), (.int .i64 t38), (.bool true), t40, t41, (.slice (some ⟨t42, 0, none⟩) t42l 0), (.slice t43 t43l 0), (.int .i64 t44), (.pointer (some ⟨t45, t45o, none⟩)), (.int .i64 t46), (.slice (some ⟨t47, 0, none⟩) t47l 0), (.int .i64 t48), (.int .i64 t49), (.pointer (some ⟨t50, t50o, none⟩)), (.pointer t51), (.int .i64 t52), t53, t54, t55, t56, t57, t58, t59, t60, t61, t62, t63, t64, t65, t66, t67, t68, t69, t70, t71, t72, t73, t74, t75, t76, t77, t78, t79, t80, t81, t82, t83, t84, t85, t86, t87, t88, t89, t90, t91, t92, t93, t94, t95, t96, t97, t98, t99, t100, t101, t102, t103, t104, t105, t106, t107, t108, t109, t110, t111, t112, t113, t114, t115, t116, t117, t118, t119, t120, t121, t122, t123, t124, t125, t126, t127, t128, t129, t130, t131, t132, t133, t134, t135, t136, t137, t138, t139, t140, t141, t142, t143, t144, t145, t146, t147, t148, t149, t150, t151, t152, s153, s154, s155, s156, s157, s158, s159, s160, s161, s162, s163, s164, s165, t166, t167, t168, t169, t170, t171, t172, t173, t174, t175, t176, t177, t178, t179, undef] H hP)
    kernel_rfl
  · apply turnInto h0
    kernel_rfl

end Go.Proofs.Ythnifkjpkepbaaa
