/-
  What functions of this seat's program need (printed by a program, checked by the kernel).
-/
import Derived.Test.YtgpacebjbdhphaaGreatNames
import Derived.Test.YtgpacebjbdhphaaGreatAs41
namespace Go.Proofs.YtgpacebjbdhphaaGreat
open Go Go.AS Go.RowKit
set_option linter.unusedVariables false
set_option maxRecDepth 100000
set_option maxHeartbeats 2000000

/-! lock_Take -/

theorem vc_lock_Take (x0 : Option Addr) (x1 : Int) (x2 : Int) (H : Heap) (R : Value → Heap → Prop) :
    (
 nwH H (.cells true 0 [(.pointer x0), (.int .i64 x1), (.int .i64 x2), (.int .u64 0), .nilFunc]) fun i1 H2 =>
 stc H2 i1 4 [(.func (.func F.lock_Taker_draw) #[(.pointer (some ⟨i1, 0, none⟩))] #[])] fun H3 =>
 R (.pointer (some ⟨i1, 0, none⟩)) H3) →
    CA en F.lock_Take [(.pointer x0), (.int .i64 x1), (.int .i64 x2)] H R := by
  intro h
  refine wpFn_ok (Z := []) (fn := Go.Proofs.Tryz.f28) ?_ ?_ ?_
  · kernel_rfl
  · kernel_rfl
  · apply turnInto h
    kernel_rfl


/-! lock_Taker_Step -/

theorem vc_lock_Taker_Step (x0 : Option Addr) (H : Heap) (R : Value → Heap → Prop) :
    (
 AS.asAddr (.pointer x0) fun i1 i2 =>
 ∃ v3, H.cell i1 (i2 + 4) = some v3 ∧
 AS.asFn v3 fun f4 l5 l6 =>
 (∃ fn, en.fn f4 = some fn) ∧
 CA en f4 (l5 ++ [] ++ l6) H fun v7 H8 =>
 ∃ b9, v7 = (.bool b9) ∧
 R (.bool b9) H8) →
    CA en F.lock_Taker_Step [(.pointer x0)] H R := by
  intro h
  refine wpFn_ok (Z := []) (fn := Go.Proofs.Tryz.f29) ?_ ?_ ?_
  · kernel_rfl
  · kernel_rfl
  · apply turnInto h
    kernel_rfl


/-! lock_Taker_draw -/

theorem vc_lock_Taker_draw (x0 : Option Addr) (H : Heap) (R : Value → Heap → Prop) :
    (
 AS.asAddr (.pointer x0) fun i1 i2 =>
 ∃ a3, (H.bump 18).cell i1 i2 = some (.pointer a3) ∧
 AS.asAddr (.pointer x0) fun i4 i5 =>
 ∃ n6, (H.bump 18).cell i4 (i5 + 1) = some (.int .i64 n6) ∧
 AS.asAddr (.pointer x0) fun i7 i8 =>
 ∃ n9, (H.bump 18).cell i7 (i8 + 2) = some (.int .i64 n9) ∧
 CA en F.lock_more [(.pointer a3), (.int .i64 n6), (.int .i64 n9)] (H.bump 18) fun v10 H11 =>
 ∃ n12, ∃ b13, v10 = (.tuple #[(.int .u64 n12), (.bool b13)]) ∧
 (
 bif b13 then (
 AS.asAddr (.pointer x0) fun i14 i15 =>
 stc H11 i14 (i15 + 3) [(.int .u64 n12)] fun H16 =>
 AS.asAddr (.pointer x0) fun i17 i18 =>
 stc H16 i17 (i18 + 4) [(.func (.func F.lock_Taker_wait) #[(.pointer x0)] #[])] fun H19 =>
 R (.bool false) H19)
 else (
 R (.bool false) H11)) ∧
 True) →
    CA en F.lock_Taker_draw [(.pointer x0)] H R := by
  intro h
  refine wpFn_ok (Z := []) (fn := Go.Proofs.Tryz.f43) ?_ ?_ ?_
  · kernel_rfl
  · kernel_rfl
  · apply turnInto h
    kernel_rfl


/-! lock_Drop -/

theorem vc_lock_Drop (x0 : Option Addr) (x1 : Int) (x2 : Int) (H : Heap) (R : Value → Heap → Prop) :
    (
 CA en F.lock_more [(.pointer x0), (.int .i64 x1), (.int .i64 (IntKind.i64.wrap (x2 + 1)))] H fun v1 H2 =>
 ∃ n3, ∃ b4, v1 = (.tuple #[(.int .u64 n3), (.bool b4)]) ∧
 R (.bool b4) H2) →
    CA en F.lock_Drop [(.pointer x0), (.int .i64 x1), (.int .i64 x2)] H R := by
  intro h
  refine wpFn_ok (Z := []) (fn := Go.Proofs.Tryz.f46) ?_ ?_ ?_
  · kernel_rfl
  · kernel_rfl
  · apply turnInto h
    kernel_rfl


/-! lock_more -/

theorem vc_lock_more (x0 : Option Addr) (x1 : Int) (x2 : Int) (H : Heap) (R : Value → Heap → Prop) :
    (
 CA en F.smem_Mem_Fetch [(.pointer x0), (.int .i64 x1), (.int .i64 x2), (.int .i64 0), (.int .u64 18446744073709551615), (.int .u64 1)] H fun v1 H2 =>
 ∃ n3, ∃ b4, v1 = (.tuple #[(.int .u64 n3), (.bool b4)]) ∧
 R (.tuple #[(.int .u64 n3), (.bool b4)]) H2) →
    CA en F.lock_more [(.pointer x0), (.int .i64 x1), (.int .i64 x2)] H R := by
  intro h
  refine wpFn_ok (Z := []) (fn := Go.Proofs.Tryz.f58) ?_ ?_ ?_
  · kernel_rfl
  · kernel_rfl
  · apply turnInto h
    kernel_rfl


/-! lock_Taker_wait -/

theorem vc_lock_Taker_wait (x0 : Option Addr) (H : Heap) (R : Value → Heap → Prop) :
    (
 AS.asAddr (.pointer x0) fun i1 i2 =>
 ∃ a3, (H.bump 19).cell i1 i2 = some (.pointer a3) ∧
 AS.asAddr (.pointer x0) fun i4 i5 =>
 ∃ n6, (H.bump 19).cell i4 (i5 + 1) = some (.int .i64 n6) ∧
 AS.asAddr (.pointer x0) fun i7 i8 =>
 ∃ n9, (H.bump 19).cell i7 (i8 + 2) = some (.int .i64 n9) ∧
 CA en F.smem_Mem_Load [(.pointer a3), (.int .i64 n6), (.int .i64 (IntKind.i64.wrap (n9 + 1)))] (H.bump 19) fun v10 H11 =>
 ∃ n12, ∃ b13, v10 = (.tuple #[(.int .u64 n12), (.bool b13)]) ∧
 (
 bif (!b13) then (
 R (.bool false) H11)
 else (
 AS.asAddr (.pointer x0) fun i14 i15 =>
 ∃ n16, H11.cell i14 (i15 + 3) = some (.int .u64 n16) ∧
 bif (n12 != n16) then (
 R (.bool false) H11)
 else (
 AS.asAddr (.pointer x0) fun i17 i18 =>
 stc H11 i17 (i18 + 4) [(.func (.func F.lock_Taker_got) #[(.pointer x0)] #[])] fun H19 =>
 R (.bool true) H19))) ∧
 True) →
    CA en F.lock_Taker_wait [(.pointer x0)] H R := by
  intro h
  refine wpFn_ok (Z := []) (fn := Go.Proofs.Tryz.f59) ?_ ?_ ?_
  · kernel_rfl
  · kernel_rfl
  · apply turnInto h
    kernel_rfl


/-! lock_Taker_got -/

theorem vc_lock_Taker_got (x0 : Option Addr) (H : Heap) (R : Value → Heap → Prop) :
    (
 R (.bool true) H) →
    CA en F.lock_Taker_got [(.pointer x0)] H R := by
  intro h
  refine wpFn_ok (Z := []) (fn := Go.Proofs.Tryz.f86) ?_ ?_ ?_
  · kernel_rfl
  · kernel_rfl
  · apply turnInto h
    kernel_rfl

end Go.Proofs.YtgpacebjbdhphaaGreat
