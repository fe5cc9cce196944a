/-
  What functions of this seat's program need (printed by a program, checked by the kernel).
-/
import Derived.Test.YtmgkngdbphkmmaaNames
import Derived.Test.YtmgkngdbphkmmaaAs41
namespace Go.Proofs.Ytmgkngdbphkmmaa
open Go Go.AS Go.RowKit
set_option linter.unusedVariables false
set_option maxRecDepth 100000
set_option maxHeartbeats 2000000

/-! crossbarlaw06_is -/

theorem vc_crossbarlaw06_is (x0 : Option Addr) (x0l : Nat) (x1 : Int) (x2 : Option Addr) (x2l : Nat) (H : Heap) (R : Value → Heap → Prop) :
    (
 CA en F.flow_Targets [(.slice x2 x2l 0)] H fun v1 H2 =>
 ∃ a3 i4, ∃ n5, v1 = (.tuple #[(.slice a3 i4 0), (.int .i64 n5)]) ∧
 bif (n5 == x1) then (
 CA en F.crossbarkit_SameInts [(.slice a3 i4 0), (.slice x0 x0l 0)] H2 fun v6 H7 =>
 ∃ b8, v6 = (.bool b8) ∧
 R (.bool b8) H7)
 else (
 R (.bool false) H2)) →
    CA en F.crossbarlaw06_is [(.slice x0 x0l 0), (.int .i64 x1), (.slice x2 x2l 0)] H R := by
  intro h
  refine wpFn_ok (Z := []) (fn := Go.Proofs.Try.f4) ?_ ?_ ?_
  · kernel_rfl
  · kernel_rfl
  · apply turnInto h
    kernel_rfl


/-! crossbarlaw06_known -/

theorem vc_crossbarlaw06_known (H : Heap) (R : Value → Heap → Prop) :
    (
 nwH H (.cells true 1 [(.int .i64 2), (.int .i64 (-1)), (.int .i64 (-1))]) fun i1 H2 =>
 CA en F.crossbarlaw06_jump [(.int .i64 2)] H2 fun v3 H4 =>
 ∃ n5, ∃ n6, ∃ n7, ∃ n8, ∃ n9, v3 = (.agg #[(.int .i64 n5), (.int .i64 n6), (.int .i64 n7), (.int .i64 n8), (.int .i64 n9)]) ∧
 CA en F.crossbarlaw06_wide [] H4 fun v10 H11 =>
 ∃ n12, ∃ n13, ∃ n14, ∃ n15, ∃ n16, v10 = (.agg #[(.int .i64 n12), (.int .i64 n13), (.int .i64 n14), (.int .i64 n15), (.int .i64 n16)]) ∧
 CA en F.crossbarlaw06_exit [] H11 fun v17 H18 =>
 ∃ n19, ∃ n20, ∃ n21, ∃ n22, ∃ n23, v17 = (.agg #[(.int .i64 n19), (.int .i64 n20), (.int .i64 n21), (.int .i64 n22), (.int .i64 n23)]) ∧
 nwH H18 (.cells true 5 [(.int .i64 n5), (.int .i64 n6), (.int .i64 n7), (.int .i64 n8), (.int .i64 n9), (.int .i64 n12), (.int .i64 n13), (.int .i64 n14), (.int .i64 n15), (.int .i64 n16), (.int .i64 n19), (.int .i64 n20), (.int .i64 n21), (.int .i64 n22), (.int .i64 n23)]) fun i24 H25 =>
 CA en F.crossbarlaw06_is [(.slice (some ⟨i1, 0, none⟩) 3 0), (.int .i64 0), (.slice (some ⟨i24, 0, none⟩) 3 0)] H25 fun v26 H27 =>
 ∃ b28, v26 = (.bool b28) ∧
 bif b28 then (
 CA en F.crossbarlaw06_jump [(.int .i64 1)] H27 fun v29 H30 =>
 ∃ n31, ∃ n32, ∃ n33, ∃ n34, ∃ n35, v29 = (.agg #[(.int .i64 n31), (.int .i64 n32), (.int .i64 n33), (.int .i64 n34), (.int .i64 n35)]) ∧
 CA en F.crossbarlaw06_wide [] H30 fun v36 H37 =>
 ∃ n38, ∃ n39, ∃ n40, ∃ n41, ∃ n42, v36 = (.agg #[(.int .i64 n38), (.int .i64 n39), (.int .i64 n40), (.int .i64 n41), (.int .i64 n42)]) ∧
 CA en F.crossbarlaw06_exit [] H37 fun v43 H44 =>
 ∃ n45, ∃ n46, ∃ n47, ∃ n48, ∃ n49, v43 = (.agg #[(.int .i64 n45), (.int .i64 n46), (.int .i64 n47), (.int .i64 n48), (.int .i64 n49)]) ∧
 nwH H44 (.cells true 5 [(.int .i64 n31), (.int .i64 n32), (.int .i64 n33), (.int .i64 n34), (.int .i64 n35), (.int .i64 n38), (.int .i64 n39), (.int .i64 n40), (.int .i64 n41), (.int .i64 n42), (.int .i64 n45), (.int .i64 n46), (.int .i64 n47), (.int .i64 n48), (.int .i64 n49)]) fun i50 H51 =>
 CA en F.crossbarlaw06_is [(.slice none 0 0), (.int .i64 11), (.slice (some ⟨i50, 0, none⟩) 3 0)] H51 fun v52 H53 =>
 ∃ b54, v52 = (.bool b54) ∧
 bif b54 then (
 CA en F.crossbarlaw06_ja [(.int .i64 1)] H53 fun v55 H56 =>
 ∃ n57, ∃ n58, ∃ n59, ∃ n60, ∃ n61, v55 = (.agg #[(.int .i64 n57), (.int .i64 n58), (.int .i64 n59), (.int .i64 n60), (.int .i64 n61)]) ∧
 CA en F.crossbarlaw06_mov [] H56 fun v62 H63 =>
 ∃ n64, ∃ n65, ∃ n66, ∃ n67, ∃ n68, v62 = (.agg #[(.int .i64 n64), (.int .i64 n65), (.int .i64 n66), (.int .i64 n67), (.int .i64 n68)]) ∧
 CA en F.crossbarlaw06_exit [] H63 fun v69 H70 =>
 ∃ n71, ∃ n72, ∃ n73, ∃ n74, ∃ n75, v69 = (.agg #[(.int .i64 n71), (.int .i64 n72), (.int .i64 n73), (.int .i64 n74), (.int .i64 n75)]) ∧
 nwH H70 (.cells true 5 [(.int .i64 n57), (.int .i64 n58), (.int .i64 n59), (.int .i64 n60), (.int .i64 n61), (.int .i64 n64), (.int .i64 n65), (.int .i64 n66), (.int .i64 n67), (.int .i64 n68), (.int .i64 n71), (.int .i64 n72), (.int .i64 n73), (.int .i64 n74), (.int .i64 n75)]) fun i76 H77 =>
 CA en F.crossbarlaw06_is [(.slice none 0 0), (.int .i64 13), (.slice (some ⟨i76, 0, none⟩) 3 0)] H77 fun v78 H79 =>
 ∃ b80, v78 = (.bool b80) ∧
 R (.bool b80) H79)
 else (
 R (.bool false) H53))
 else (
 R (.bool false) H27)) →
    CA en F.crossbarlaw06_known [] H R := by
  intro h
  refine wpFn_ok (Z := []) (fn := Go.Proofs.Try.f13) ?_ ?_ ?_
  · kernel_rfl
  · kernel_rfl
  · apply turnInto h
    kernel_rfl


/-! crossbarlaw06_mov -/

theorem vc_crossbarlaw06_mov (H : Heap) (R : Value → Heap → Prop) :
    (
 nwH H (.cells true 0 [(.int .i64 0), (.int .i64 0), (.int .i64 0), (.int .i64 0), (.int .i64 0)]) fun i1 H2 =>
 stc H2 i1 0 [(.int .i64 183), (.int .i64 0), (.int .i64 0), (.int .i64 0), (.int .i64 0)] fun H3 =>
 ∃ n4, ∃ n5, ∃ n6, ∃ n7, ∃ n8, H3.cellsAt i1 0 5 = some [(.int .i64 n4), (.int .i64 n5), (.int .i64 n6), (.int .i64 n7), (.int .i64 n8)] ∧
 R (.agg #[(.int .i64 n4), (.int .i64 n5), (.int .i64 n6), (.int .i64 n7), (.int .i64 n8)]) H3) →
    CA en F.crossbarlaw06_mov [] H R := by
  intro h
  refine wpFn_ok (Z := []) (fn := Go.Proofs.Try.f5) ?_ ?_ ?_
  · kernel_rfl
  · kernel_rfl
  · apply turnInto h
    kernel_rfl


/-! crossbarlaw06_exit -/

theorem vc_crossbarlaw06_exit (H : Heap) (R : Value → Heap → Prop) :
    (
 nwH H (.cells true 0 [(.int .i64 0), (.int .i64 0), (.int .i64 0), (.int .i64 0), (.int .i64 0)]) fun i1 H2 =>
 stc H2 i1 0 [(.int .i64 149), (.int .i64 0), (.int .i64 0), (.int .i64 0), (.int .i64 0)] fun H3 =>
 ∃ n4, ∃ n5, ∃ n6, ∃ n7, ∃ n8, H3.cellsAt i1 0 5 = some [(.int .i64 n4), (.int .i64 n5), (.int .i64 n6), (.int .i64 n7), (.int .i64 n8)] ∧
 R (.agg #[(.int .i64 n4), (.int .i64 n5), (.int .i64 n6), (.int .i64 n7), (.int .i64 n8)]) H3) →
    CA en F.crossbarlaw06_exit [] H R := by
  intro h
  refine wpFn_ok (Z := []) (fn := Go.Proofs.Try.f6) ?_ ?_ ?_
  · kernel_rfl
  · kernel_rfl
  · apply turnInto h
    kernel_rfl


/-! crossbarlaw06_wide -/

theorem vc_crossbarlaw06_wide (H : Heap) (R : Value → Heap → Prop) :
    (
 nwH H (.cells true 0 [(.int .i64 0), (.int .i64 0), (.int .i64 0), (.int .i64 0), (.int .i64 0)]) fun i1 H2 =>
 stc H2 i1 0 [(.int .i64 24), (.int .i64 0), (.int .i64 0), (.int .i64 0), (.int .i64 0)] fun H3 =>
 ∃ n4, ∃ n5, ∃ n6, ∃ n7, ∃ n8, H3.cellsAt i1 0 5 = some [(.int .i64 n4), (.int .i64 n5), (.int .i64 n6), (.int .i64 n7), (.int .i64 n8)] ∧
 R (.agg #[(.int .i64 n4), (.int .i64 n5), (.int .i64 n6), (.int .i64 n7), (.int .i64 n8)]) H3) →
    CA en F.crossbarlaw06_wide [] H R := by
  intro h
  refine wpFn_ok (Z := []) (fn := Go.Proofs.Try.f9) ?_ ?_ ?_
  · kernel_rfl
  · kernel_rfl
  · apply turnInto h
    kernel_rfl


/-! crossbarlaw06_jump -/

theorem vc_crossbarlaw06_jump (x0 : Int) (H : Heap) (R : Value → Heap → Prop) :
    (
 nwH H (.cells true 0 [(.int .i64 0), (.int .i64 0), (.int .i64 0), (.int .i64 0), (.int .i64 0)]) fun i1 H2 =>
 stc H2 i1 0 [(.int .i64 21), (.int .i64 0), (.int .i64 0), (.int .i64 x0), (.int .i64 0)] fun H3 =>
 ∃ n4, ∃ n5, ∃ n6, ∃ n7, ∃ n8, H3.cellsAt i1 0 5 = some [(.int .i64 n4), (.int .i64 n5), (.int .i64 n6), (.int .i64 n7), (.int .i64 n8)] ∧
 R (.agg #[(.int .i64 n4), (.int .i64 n5), (.int .i64 n6), (.int .i64 n7), (.int .i64 n8)]) H3) →
    CA en F.crossbarlaw06_jump [(.int .i64 x0)] H R := by
  intro h
  refine wpFn_ok (Z := []) (fn := Go.Proofs.Try.f7) ?_ ?_ ?_
  · kernel_rfl
  · kernel_rfl
  · apply turnInto h
    kernel_rfl


/-! crossbarlaw06_ja -/

theorem vc_crossbarlaw06_ja (x0 : Int) (H : Heap) (R : Value → Heap → Prop) :
    (
 nwH H (.cells true 0 [(.int .i64 0), (.int .i64 0), (.int .i64 0), (.int .i64 0), (.int .i64 0)]) fun i1 H2 =>
 stc H2 i1 0 [(.int .i64 5), (.int .i64 0), (.int .i64 0), (.int .i64 x0), (.int .i64 0)] fun H3 =>
 ∃ n4, ∃ n5, ∃ n6, ∃ n7, ∃ n8, H3.cellsAt i1 0 5 = some [(.int .i64 n4), (.int .i64 n5), (.int .i64 n6), (.int .i64 n7), (.int .i64 n8)] ∧
 R (.agg #[(.int .i64 n4), (.int .i64 n5), (.int .i64 n6), (.int .i64 n7), (.int .i64 n8)]) H3) →
    CA en F.crossbarlaw06_ja [(.int .i64 x0)] H R := by
  intro h
  refine wpFn_ok (Z := []) (fn := Go.Proofs.Try.f8) ?_ ?_ ?_
  · kernel_rfl
  · kernel_rfl
  · apply turnInto h
    kernel_rfl

end Go.Proofs.Ytmgkngdbphkmmaa
