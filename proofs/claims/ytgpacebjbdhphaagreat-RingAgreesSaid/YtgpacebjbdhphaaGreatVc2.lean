/-
  What functions of this seat's program need (printed by a program, checked by the kernel).
-/
import Derived.Test.YtgpacebjbdhphaaGreatNames
import Derived.Test.YtgpacebjbdhphaaGreatAs41
namespace Go.Proofs.YtgpacebjbdhphaaGreat
open Go Go.AS Go.RowKit
set_option linter.unusedVariables false
set_option maxRecDepth 100000
set_option maxHeartbeats 2000000

/-! crossbarref07_Nested -/

theorem vc_crossbarref07_Nested (x0 : Int) (H : Heap) (R : Value → Heap → Prop) :
    (
 bif (x0 == 9) then (
 R (.bool true) H)
 else (
 R (.bool (x0 == 10)) H)) →
    CA en F.crossbarref07_Nested [(.int .i64 x0)] H R := by
  intro h
  refine wpFn_ok (Z := []) (fn := Go.Proofs.Tryz.f72) ?_ ?_ ?_
  · kernel_rfl
  · kernel_rfl
  · apply turnInto h
    kernel_rfl


/-! crossbarref07_May -/

theorem vc_crossbarref07_May (x0 : Int) (x1 : Int) (H : Heap) (R : Value → Heap → Prop) :
    (
 bif (x0 == 1) then (
 bif (x0 == 4) then (
 bif (x0 == 6) then (
 bif (x1 == 1) then (
 R (.bool true) H)
 else (
 bif (x1 == 2) then (
 R (.bool true) H)
 else (
 bif (x1 == 4) then (
 R (.bool true) H)
 else (
 bif (x1 == 3) then (
 R (.bool true) H)
 else (
 bif (x1 == 5) then (
 R (.bool true) H)
 else (
 bif (x1 == 6) then (
 R (.bool true) H)
 else (
 bif (x1 == 8) then (
 R (.bool true) H)
 else (
 bif (x1 == 7) then (
 R (.bool true) H)
 else (
 R (.bool false) H)))))))))
 else (
 bif (x1 == 1) then (
 R (.bool true) H)
 else (
 bif (x1 == 2) then (
 R (.bool true) H)
 else (
 bif (x1 == 4) then (
 R (.bool true) H)
 else (
 bif (x1 == 3) then (
 R (.bool true) H)
 else (
 bif (x1 == 5) then (
 R (.bool true) H)
 else (
 bif (x1 == 6) then (
 bif (x0 == 7) then (
 R (.bool true) H)
 else (
 R (.bool (x0 == 8)) H))
 else (
 bif (x1 == 8) then (
 bif (x0 == 7) then (
 R (.bool true) H)
 else (
 R (.bool (x0 == 8)) H))
 else (
 bif (x1 == 7) then (
 R (.bool (x0 == 7)) H)
 else (
 R (.bool false) H))))))))))
 else (
 bif (x0 == 6) then (
 bif (x1 == 1) then (
 R (.bool true) H)
 else (
 bif (x1 == 2) then (
 R (.bool true) H)
 else (
 bif (x1 == 4) then (
 R (.bool true) H)
 else (
 bif (x1 == 3) then (
 bif (x0 == 5) then (
 R (.bool true) H)
 else (
 CA en F.crossbarref07_Nested [(.int .i64 x0)] H fun v1 H2 =>
 ∃ b3, v1 = (.bool b3) ∧
 R (.bool b3) H2))
 else (
 bif (x1 == 5) then (
 R (.bool (x0 == 5)) H)
 else (
 bif (x1 == 6) then (
 R (.bool true) H)
 else (
 bif (x1 == 8) then (
 R (.bool true) H)
 else (
 bif (x1 == 7) then (
 R (.bool true) H)
 else (
 R (.bool false) H)))))))))
 else (
 bif (x1 == 1) then (
 R (.bool true) H)
 else (
 bif (x1 == 2) then (
 R (.bool true) H)
 else (
 bif (x1 == 4) then (
 R (.bool true) H)
 else (
 bif (x1 == 3) then (
 bif (x0 == 5) then (
 R (.bool true) H)
 else (
 CA en F.crossbarref07_Nested [(.int .i64 x0)] H fun v4 H5 =>
 ∃ b6, v4 = (.bool b6) ∧
 R (.bool b6) H5))
 else (
 bif (x1 == 5) then (
 R (.bool (x0 == 5)) H)
 else (
 bif (x1 == 6) then (
 bif (x0 == 7) then (
 R (.bool true) H)
 else (
 R (.bool (x0 == 8)) H))
 else (
 bif (x1 == 8) then (
 bif (x0 == 7) then (
 R (.bool true) H)
 else (
 R (.bool (x0 == 8)) H))
 else (
 bif (x1 == 7) then (
 R (.bool (x0 == 7)) H)
 else (
 R (.bool false) H)))))))))))
 else (
 bif (x0 == 2) then (
 bif (x0 == 4) then (
 bif (x0 == 6) then (
 bif (x1 == 1) then (
 R (.bool true) H)
 else (
 bif (x1 == 2) then (
 R (.bool true) H)
 else (
 bif (x1 == 4) then (
 R (.bool true) H)
 else (
 bif (x1 == 3) then (
 R (.bool true) H)
 else (
 bif (x1 == 5) then (
 R (.bool true) H)
 else (
 bif (x1 == 6) then (
 R (.bool true) H)
 else (
 bif (x1 == 8) then (
 R (.bool true) H)
 else (
 bif (x1 == 7) then (
 R (.bool true) H)
 else (
 R (.bool false) H)))))))))
 else (
 bif (x1 == 1) then (
 R (.bool true) H)
 else (
 bif (x1 == 2) then (
 R (.bool true) H)
 else (
 bif (x1 == 4) then (
 R (.bool true) H)
 else (
 bif (x1 == 3) then (
 R (.bool true) H)
 else (
 bif (x1 == 5) then (
 R (.bool true) H)
 else (
 bif (x1 == 6) then (
 bif (x0 == 7) then (
 R (.bool true) H)
 else (
 R (.bool (x0 == 8)) H))
 else (
 bif (x1 == 8) then (
 bif (x0 == 7) then (
 R (.bool true) H)
 else (
 R (.bool (x0 == 8)) H))
 else (
 bif (x1 == 7) then (
 R (.bool (x0 == 7)) H)
 else (
 R (.bool false) H))))))))))
 else (
 bif (x0 == 6) then (
 bif (x1 == 1) then (
 R (.bool true) H)
 else (
 bif (x1 == 2) then (
 R (.bool true) H)
 else (
 bif (x1 == 4) then (
 R (.bool true) H)
 else (
 bif (x1 == 3) then (
 bif (x0 == 5) then (
 R (.bool true) H)
 else (
 CA en F.crossbarref07_Nested [(.int .i64 x0)] H fun v7 H8 =>
 ∃ b9, v7 = (.bool b9) ∧
 R (.bool b9) H8))
 else (
 bif (x1 == 5) then (
 R (.bool (x0 == 5)) H)
 else (
 bif (x1 == 6) then (
 R (.bool true) H)
 else (
 bif (x1 == 8) then (
 R (.bool true) H)
 else (
 bif (x1 == 7) then (
 R (.bool true) H)
 else (
 R (.bool false) H)))))))))
 else (
 bif (x1 == 1) then (
 R (.bool true) H)
 else (
 bif (x1 == 2) then (
 R (.bool true) H)
 else (
 bif (x1 == 4) then (
 R (.bool true) H)
 else (
 bif (x1 == 3) then (
 bif (x0 == 5) then (
 R (.bool true) H)
 else (
 CA en F.crossbarref07_Nested [(.int .i64 x0)] H fun v10 H11 =>
 ∃ b12, v10 = (.bool b12) ∧
 R (.bool b12) H11))
 else (
 bif (x1 == 5) then (
 R (.bool (x0 == 5)) H)
 else (
 bif (x1 == 6) then (
 bif (x0 == 7) then (
 R (.bool true) H)
 else (
 R (.bool (x0 == 8)) H))
 else (
 bif (x1 == 8) then (
 bif (x0 == 7) then (
 R (.bool true) H)
 else (
 R (.bool (x0 == 8)) H))
 else (
 bif (x1 == 7) then (
 R (.bool (x0 == 7)) H)
 else (
 R (.bool false) H)))))))))))
 else (
 bif (x0 == 4) then (
 bif (x0 == 6) then (
 bif (x1 == 1) then (
 bif (x0 == 3) then (
 R (.bool true) H)
 else (
 R (.bool true) H))
 else (
 bif (x1 == 2) then (
 bif (x0 == 3) then (
 R (.bool true) H)
 else (
 R (.bool true) H))
 else (
 bif (x1 == 4) then (
 bif (x0 == 3) then (
 R (.bool true) H)
 else (
 R (.bool true) H))
 else (
 bif (x1 == 3) then (
 R (.bool true) H)
 else (
 bif (x1 == 5) then (
 R (.bool true) H)
 else (
 bif (x1 == 6) then (
 R (.bool true) H)
 else (
 bif (x1 == 8) then (
 R (.bool true) H)
 else (
 bif (x1 == 7) then (
 R (.bool true) H)
 else (
 R (.bool false) H)))))))))
 else (
 bif (x1 == 1) then (
 bif (x0 == 3) then (
 R (.bool true) H)
 else (
 R (.bool true) H))
 else (
 bif (x1 == 2) then (
 bif (x0 == 3) then (
 R (.bool true) H)
 else (
 R (.bool true) H))
 else (
 bif (x1 == 4) then (
 bif (x0 == 3) then (
 R (.bool true) H)
 else (
 R (.bool true) H))
 else (
 bif (x1 == 3) then (
 R (.bool true) H)
 else (
 bif (x1 == 5) then (
 R (.bool true) H)
 else (
 bif (x1 == 6) then (
 bif (x0 == 7) then (
 R (.bool true) H)
 else (
 R (.bool (x0 == 8)) H))
 else (
 bif (x1 == 8) then (
 bif (x0 == 7) then (
 R (.bool true) H)
 else (
 R (.bool (x0 == 8)) H))
 else (
 bif (x1 == 7) then (
 R (.bool (x0 == 7)) H)
 else (
 R (.bool false) H))))))))))
 else (
 bif (x0 == 6) then (
 bif (x1 == 1) then (
 bif (x0 == 3) then (
 R (.bool true) H)
 else (
 bif (x0 == 5) then (
 R (.bool true) H)
 else (
 CA en F.crossbarref07_Nested [(.int .i64 x0)] H fun v13 H14 =>
 ∃ b15, v13 = (.bool b15) ∧
 R (.bool b15) H14)))
 else (
 bif (x1 == 2) then (
 bif (x0 == 3) then (
 R (.bool true) H)
 else (
 bif (x0 == 5) then (
 R (.bool true) H)
 else (
 CA en F.crossbarref07_Nested [(.int .i64 x0)] H fun v16 H17 =>
 ∃ b18, v16 = (.bool b18) ∧
 R (.bool b18) H17)))
 else (
 bif (x1 == 4) then (
 bif (x0 == 3) then (
 R (.bool true) H)
 else (
 bif (x0 == 5) then (
 R (.bool true) H)
 else (
 CA en F.crossbarref07_Nested [(.int .i64 x0)] H fun v19 H20 =>
 ∃ b21, v19 = (.bool b21) ∧
 R (.bool b21) H20)))
 else (
 bif (x1 == 3) then (
 bif (x0 == 5) then (
 R (.bool true) H)
 else (
 CA en F.crossbarref07_Nested [(.int .i64 x0)] H fun v22 H23 =>
 ∃ b24, v22 = (.bool b24) ∧
 R (.bool b24) H23))
 else (
 bif (x1 == 5) then (
 R (.bool (x0 == 5)) H)
 else (
 bif (x1 == 6) then (
 R (.bool true) H)
 else (
 bif (x1 == 8) then (
 R (.bool true) H)
 else (
 bif (x1 == 7) then (
 R (.bool true) H)
 else (
 R (.bool false) H)))))))))
 else (
 bif (x1 == 1) then (
 bif (x0 == 3) then (
 R (.bool true) H)
 else (
 bif (x0 == 5) then (
 R (.bool true) H)
 else (
 CA en F.crossbarref07_Nested [(.int .i64 x0)] H fun v25 H26 =>
 ∃ b27, v25 = (.bool b27) ∧
 R (.bool b27) H26)))
 else (
 bif (x1 == 2) then (
 bif (x0 == 3) then (
 R (.bool true) H)
 else (
 bif (x0 == 5) then (
 R (.bool true) H)
 else (
 CA en F.crossbarref07_Nested [(.int .i64 x0)] H fun v28 H29 =>
 ∃ b30, v28 = (.bool b30) ∧
 R (.bool b30) H29)))
 else (
 bif (x1 == 4) then (
 bif (x0 == 3) then (
 R (.bool true) H)
 else (
 bif (x0 == 5) then (
 R (.bool true) H)
 else (
 CA en F.crossbarref07_Nested [(.int .i64 x0)] H fun v31 H32 =>
 ∃ b33, v31 = (.bool b33) ∧
 R (.bool b33) H32)))
 else (
 bif (x1 == 3) then (
 bif (x0 == 5) then (
 R (.bool true) H)
 else (
 CA en F.crossbarref07_Nested [(.int .i64 x0)] H fun v34 H35 =>
 ∃ b36, v34 = (.bool b36) ∧
 R (.bool b36) H35))
 else (
 bif (x1 == 5) then (
 R (.bool (x0 == 5)) H)
 else (
 bif (x1 == 6) then (
 bif (x0 == 7) then (
 R (.bool true) H)
 else (
 R (.bool (x0 == 8)) H))
 else (
 bif (x1 == 8) then (
 bif (x0 == 7) then (
 R (.bool true) H)
 else (
 R (.bool (x0 == 8)) H))
 else (
 bif (x1 == 7) then (
 R (.bool (x0 == 7)) H)
 else (
 R (.bool false) H))))))))))))) →
    CA en F.crossbarref07_May [(.int .i64 x0), (.int .i64 x1)] H R := by
  intro h
  refine wpFn_ok (Z := []) (fn := Go.Proofs.Tryz.f73) ?_ ?_ ?_
  · kernel_rfl
  · kernel_rfl
  · apply turnInto h
    kernel_rfl

end Go.Proofs.YtgpacebjbdhphaaGreat
