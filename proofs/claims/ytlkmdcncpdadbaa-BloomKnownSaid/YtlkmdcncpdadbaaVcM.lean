/-
  What functions of this seat's program need (printed by a program, checked by the kernel).
-/
import Derived.Test.YtlkmdcncpdadbaaNames
import Derived.Test.YtlkmdcncpdadbaaAs41
namespace Go.Proofs.Ytlkmdcncpdadbaa
open Go Go.AS Go.RowKit
set_option linter.unusedVariables false
set_option maxRecDepth 100000

/-! smem_Mem_Bad -/

theorem vc_smem_Mem_Bad (x0 : Option Addr) (H : Heap) (R : Value → Heap → Prop) :
    (
 AS.asAddr (.pointer x0) fun i1 i2 =>
 ∃ n3, H.cell i1 (i2 + 4) = some (.int .i64 n3) ∧
 R (.int .i64 n3) H) →
    CA en F.smem_Mem_Bad [(.pointer x0)] H R := by
  intro h
  refine wpFn_ok (Z := []) (fn := Go.Proofs.Try.f30) ?_ ?_ ?_
  · kernel_rfl
  · kernel_rfl
  · apply turnInto h
    kernel_rfl


/-! smem_New -/

theorem vc_smem_New (x0 : Int) (H : Heap) (R : Value → Heap → Prop) :
    (
 nwH H (.map [] 0) fun i1 H2 =>
 nwH H2 (.cells true 0 [(.map (some i1)), (.int .i64 0), (.int .i64 (if (if 65536 < x0 then 65536 else x0) > 0 then (if 65536 < x0 then 65536 else x0) else 0)), (.int .i64 0), (.int .i64 0)]) fun i3 H4 =>
 R (.pointer (some ⟨i3, 0, none⟩)) H4) →
    CA en F.smem_New [(.int .i64 x0)] H R := by
  intro h
  refine wpFn_ok (Z := []) (fn := Go.Proofs.Try.f32) ?_ ?_ ?_
  · kernel_rfl
  · kernel_rfl
  · apply turnInto h
    kernel_rfl


/-! smem_Mem_Count -/

theorem vc_smem_Mem_Count (x0 : Option Addr) (H : Heap) (R : Value → Heap → Prop) :
    (
 AS.asAddr (.pointer x0) fun i1 i2 =>
 ∃ n3, H.cell i1 (i2 + 3) = some (.int .i64 n3) ∧
 R (.int .i64 n3) H) →
    CA en F.smem_Mem_Count [(.pointer x0)] H R := by
  intro h
  refine wpFn_ok (Z := []) (fn := Go.Proofs.Try.f44) ?_ ?_ ?_
  · kernel_rfl
  · kernel_rfl
  · apply turnInto h
    kernel_rfl


/-! smem_Mem_Make -/

theorem vc_smem_Mem_Make (x0 : Option Addr) (x1 : Int) (H : Heap) (R : Value → Heap → Prop) :
    (
 bif (decide (x1 < 1)) then (
 R (.tuple #[(.int .i64 0), (.int .i64 1)]) H)
 else (
 bif (decide (x1 > 65536)) then (
 R (.tuple #[(.int .i64 0), (.int .i64 1)]) H)
 else (
 AS.asAddr (.pointer x0) fun i1 i2 =>
 ∃ n3, H.cell i1 (i2 + 2) = some (.int .i64 n3) ∧
 bif (decide (x1 > n3)) then (
 R (.tuple #[(.int .i64 0), (.int .i64 5)]) H)
 else (
 AS.asAddr (.pointer x0) fun i4 i5 =>
 ∃ n6, H.cell i4 (i5 + 1) = some (.int .i64 n6) ∧
 AS.asAddr (.pointer x0) fun i7 i8 =>
 stc H i7 (i8 + 1) [(.int .i64 (IntKind.i64.wrap (n6 + 1)))] fun H9 =>
 AS.asAddr (.pointer x0) fun i10 i11 =>
 ∃ n12, H9.cell i10 (i11 + 2) = some (.int .i64 n12) ∧
 AS.asAddr (.pointer x0) fun i13 i14 =>
 stc H9 i13 (i14 + 2) [(.int .i64 (IntKind.i64.wrap (n12 - x1)))] fun H15 =>
 AS.asAddr (.pointer x0) fun i16 i17 =>
 ∃ m18, (H15.bump 11).cell i16 i17 = some (.map m18) ∧
 AS.asAddr (.pointer x0) fun i19 i20 =>
 ∃ n21, (H15.bump 11).cell i19 (i20 + 1) = some (.int .i64 n21) ∧
 okLen 8 x1 x1 ∧
 nwH (H15.bump 11) (.cells true 1 (reps x1.toNat [(.int .u64 0)])) fun i22 H23 =>
 upM H23 (.int .i64) m18 (.int .i64 n21) (.slice (some ⟨i22, 0, none⟩) x1.toNat 0) fun H24 =>
 (
 AS.asAddr (.pointer x0) fun i29 i30 =>
 ∃ n31, H24.cell i29 (i30 + 1) = some (.int .i64 n31) ∧
 R (.tuple #[(.int .i64 n31), (.int .i64 0)]) H24) ∧
 ((∃ n26, (H15.bump 11).cell i19 (i20 + 1) = some (.int .i64 n26) ∧
 n21 = n26) ∧ (∃ n25, H23.cell i19 (i20 + 1) = some (.int .i64 n25) ∧
 n21 = n25) ∧ True) ∧
 ((∃ m28, (H15.bump 11).cell i16 i17 = some (.map m28) ∧
 m18 = m28) ∧ (∃ m27, H23.cell i16 i17 = some (.map m27) ∧
 m18 = m27) ∧ True) ∧
 True)))) →
    CA en F.smem_Mem_Make [(.pointer x0), (.int .i64 x1)] H R := by
  intro h
  refine wpFn_ok (Z := []) (fn := Go.Proofs.Try.f48) ?_ ?_ ?_
  · kernel_rfl
  · kernel_rfl
  · apply turnInto h
    kernel_rfl


/-! smem_Mem_Fetch -/

theorem vc_smem_Mem_Fetch (x0 : Option Addr) (x1 : Int) (x2 : Int) (x3 : Int) (x4 : Int) (x5 : Int) (H : Heap) (R : Value → Heap → Prop) :
    (
 nwH H (.cells true 0 [(.int .i64 x3)]) fun i1 H2 =>
 nwH H2 (.cells true 0 [(.int .u64 x4)]) fun i3 H4 =>
 nwH H4 (.cells true 0 [(.int .u64 x5)]) fun i5 H6 =>
 ∃ n7, H6.cell i1 0 = some (.int .i64 n7) ∧
 bif (n7 == 0) then (
 CA en F.smem_Mem_access [(.pointer x0), (.int .i64 x1), (.int .i64 x2), (.bool true), (.func (.func F.smem_Mem_Fetch_1) #[] #[(.pointer (some ⟨i1, 0, none⟩)), (.pointer (some ⟨i3, 0, none⟩)), (.pointer (some ⟨i5, 0, none⟩))])] H6 fun v8 H9 =>
 ∃ n10, ∃ b11, v8 = (.tuple #[(.int .u64 n10), (.bool b11)]) ∧
 R (.tuple #[(.int .u64 n10), (.bool b11)]) H9)
 else (
 ∃ n12, H6.cell i1 0 = some (.int .i64 n12) ∧
 bif (n12 == 80) then (
 CA en F.smem_Mem_access [(.pointer x0), (.int .i64 x1), (.int .i64 x2), (.bool true), (.func (.func F.smem_Mem_Fetch_1) #[] #[(.pointer (some ⟨i1, 0, none⟩)), (.pointer (some ⟨i3, 0, none⟩)), (.pointer (some ⟨i5, 0, none⟩))])] H6 fun v13 H14 =>
 ∃ n15, ∃ b16, v13 = (.tuple #[(.int .u64 n15), (.bool b16)]) ∧
 R (.tuple #[(.int .u64 n15), (.bool b16)]) H14)
 else (
 ∃ n17, H6.cell i1 0 = some (.int .i64 n17) ∧
 bif (n17 == 64) then (
 CA en F.smem_Mem_access [(.pointer x0), (.int .i64 x1), (.int .i64 x2), (.bool true), (.func (.func F.smem_Mem_Fetch_1) #[] #[(.pointer (some ⟨i1, 0, none⟩)), (.pointer (some ⟨i3, 0, none⟩)), (.pointer (some ⟨i5, 0, none⟩))])] H6 fun v18 H19 =>
 ∃ n20, ∃ b21, v18 = (.tuple #[(.int .u64 n20), (.bool b21)]) ∧
 R (.tuple #[(.int .u64 n20), (.bool b21)]) H19)
 else (
 ∃ n22, H6.cell i1 0 = some (.int .i64 n22) ∧
 CA en F.smem_Mem_access [(.pointer x0), (.int .i64 x1), (.int .i64 x2), (.bool (n22 == 160)), (.func (.func F.smem_Mem_Fetch_1) #[] #[(.pointer (some ⟨i1, 0, none⟩)), (.pointer (some ⟨i3, 0, none⟩)), (.pointer (some ⟨i5, 0, none⟩))])] H6 fun v23 H24 =>
 ∃ n25, ∃ b26, v23 = (.tuple #[(.int .u64 n25), (.bool b26)]) ∧
 R (.tuple #[(.int .u64 n25), (.bool b26)]) H24)))) →
    CA en F.smem_Mem_Fetch [(.pointer x0), (.int .i64 x1), (.int .i64 x2), (.int .i64 x3), (.int .u64 x4), (.int .u64 x5)] H R := by
  intro h
  refine wpFn_ok (Z := []) (fn := Go.Proofs.Try.f64) ?_ ?_ ?_
  · kernel_rfl
  · kernel_rfl
  · apply turnInto h
    kernel_rfl


/-! smem_Mem_Load -/

theorem vc_smem_Mem_Load (x0 : Option Addr) (x1 : Int) (x2 : Int) (H : Heap) (R : Value → Heap → Prop) :
    (
 CA en F.smem_Mem_access [(.pointer x0), (.int .i64 x1), (.int .i64 x2), (.bool true), (.func (.func F.smem_Mem_Load_1) #[] #[])] H fun v1 H2 =>
 ∃ n3, ∃ b4, v1 = (.tuple #[(.int .u64 n3), (.bool b4)]) ∧
 R (.tuple #[(.int .u64 n3), (.bool b4)]) H2) →
    CA en F.smem_Mem_Load [(.pointer x0), (.int .i64 x1), (.int .i64 x2)] H R := by
  intro h
  refine wpFn_ok (Z := []) (fn := Go.Proofs.Try.f66) ?_ ?_ ?_
  · kernel_rfl
  · kernel_rfl
  · apply turnInto h
    kernel_rfl


/-! smem_Mem_access -/

theorem vc_smem_Mem_access (x0 : Option Addr) (x1 : Int) (x2 : Int) (x3 : Bool) (x4 : Value) (H : Heap) (R : Value → Heap → Prop) :
    (
 AS.asAddr (.pointer x0) fun i1 i2 =>
 ∃ n3, H.cell i1 (i2 + 3) = some (.int .i64 n3) ∧
 AS.asAddr (.pointer x0) fun i4 i5 =>
 stc H i4 (i5 + 3) [(.int .i64 (IntKind.i64.wrap (n3 + 1)))] fun H6 =>
 AS.asAddr (.pointer x0) fun i7 i8 =>
 ∃ m9, H6.cell i7 i8 = some (.map m9) ∧
 ∃ r10, AS.mapGet H6 (.int .i64) m9 (.int .i64 x1) = some r10 ∧
 ∃ a11 i12, got r10 (.slice none 0 0) (.slice a11 i12 0) ∧
 bif (!x3) then (
 AS.asAddr (.pointer x0) fun i13 i14 =>
 ∃ n15, H6.cell i13 (i14 + 4) = some (.int .i64 n15) ∧
 AS.asAddr (.pointer x0) fun i16 i17 =>
 stc H6 i16 (i17 + 4) [(.int .i64 (IntKind.i64.wrap (n15 + 1)))] fun H18 =>
 R (.tuple #[(.int .u64 0), (.bool false)]) H18)
 else (
 bif (decide (x2 < 0)) then (
 AS.asAddr (.pointer x0) fun i19 i20 =>
 ∃ n21, H6.cell i19 (i20 + 4) = some (.int .i64 n21) ∧
 AS.asAddr (.pointer x0) fun i22 i23 =>
 stc H6 i22 (i23 + 4) [(.int .i64 (IntKind.i64.wrap (n21 + 1)))] fun H24 =>
 R (.tuple #[(.int .u64 0), (.bool false)]) H24)
 else (
 bif (decide (x2 ≥ ((i12 : Nat) : Int))) then (
 AS.asAddr (.pointer x0) fun i25 i26 =>
 ∃ n27, H6.cell i25 (i26 + 4) = some (.int .i64 n27) ∧
 AS.asAddr (.pointer x0) fun i28 i29 =>
 stc H6 i28 (i29 + 4) [(.int .i64 (IntKind.i64.wrap (n27 + 1)))] fun H30 =>
 R (.tuple #[(.int .u64 0), (.bool false)]) H30)
 else (
 inB x2 i12 ∧
 asRow a11 fun i31 i32 =>
 ∃ n33, H6.cell i31 (i32 + (x2.toNat * 1)) = some (.int .u64 n33) ∧
 AS.asFn x4 fun f34 l35 l36 =>
 (∃ fn, en.fn f34 = some fn) ∧
 CA en f34 (l35 ++ [(.int .u64 n33)] ++ l36) H6 fun v37 H38 =>
 ∃ n39, v37 = (.int .u64 n39) ∧
 inB x2 i12 ∧
 asRow a11 fun i40 i41 =>
 stc H38 i40 (i41 + (x2.toNat * 1)) [(.int .u64 n39)] fun H42 =>
 R (.tuple #[(.int .u64 n33), (.bool true)]) H42)))) →
    CA en F.smem_Mem_access [(.pointer x0), (.int .i64 x1), (.int .i64 x2), (.bool x3), x4] H R := by
  intro h
  refine wpFn_ok (Z := []) (fn := Go.Proofs.Try.f73) ?_ ?_ ?_
  · kernel_rfl
  · kernel_rfl
  · apply turnInto h
    kernel_rfl


/-! smem_Mem_Fetch_1 -/

theorem vc_smem_Mem_Fetch_1 (x0 : Int) (c0 : Option Addr) (c1 : Option Addr) (c2 : Option Addr) (H : Heap) (R : Value → Heap → Prop) :
    (
 AS.asAddr (.pointer c0) fun i1 i2 =>
 ∃ n3, H.cell i1 i2 = some (.int .i64 n3) ∧
 AS.asAddr (.pointer c1) fun i4 i5 =>
 ∃ n6, H.cell i4 i5 = some (.int .u64 n6) ∧
 AS.asAddr (.pointer c2) fun i7 i8 =>
 ∃ n9, H.cell i7 i8 = some (.int .u64 n9) ∧
 AS.asAddr (.pointer c1) fun i10 i11 =>
 ∃ n12, H.cell i10 i11 = some (.int .u64 n12) ∧
 CA en F.word_Alu [(.int .i64 n3), (.bool true), (.int .u64 (IntKind.u64.wrap ((BitVec.ofInt 64 x0 &&& (BitVec.ofInt 64 n6)).toNat : Int))), (.int .u64 (IntKind.u64.wrap ((BitVec.ofInt 64 n9 &&& (BitVec.ofInt 64 n12)).toNat : Int)))] H fun v13 H14 =>
 ∃ n15, ∃ b16, v13 = (.tuple #[(.int .u64 n15), (.bool b16)]) ∧
 AS.asAddr (.pointer c1) fun i17 i18 =>
 ∃ n19, H14.cell i17 i18 = some (.int .u64 n19) ∧
 CA en F.smem_under [(.int .u64 x0), (.int .u64 n19), (.int .u64 n15)] H14 fun v20 H21 =>
 ∃ n22, v20 = (.int .u64 n22) ∧
 R (.int .u64 n22) H21) →
    CA en F.smem_Mem_Fetch_1 [(.int .u64 x0), (.pointer c0), (.pointer c1), (.pointer c2)] H R := by
  intro h
  refine wpFn_ok (Z := []) (fn := Go.Proofs.Try.f74) ?_ ?_ ?_
  · kernel_rfl
  · kernel_rfl
  · apply turnInto h
    kernel_rfl


/-! smem_under -/

theorem vc_smem_under (x0 : Int) (x1 : Int) (x2 : Int) (H : Heap) (R : Value → Heap → Prop) :
    (
 R (.int .u64 (IntKind.u64.wrap ((BitVec.ofInt 64 (IntKind.u64.wrap ((BitVec.ofInt 64 x0 &&& ~~~(BitVec.ofInt 64 x1)).toNat : Int)) ||| (BitVec.ofInt 64 (IntKind.u64.wrap ((BitVec.ofInt 64 x2 &&& (BitVec.ofInt 64 x1)).toNat : Int)))).toNat : Int))) H) →
    CA en F.smem_under [(.int .u64 x0), (.int .u64 x1), (.int .u64 x2)] H R := by
  intro h
  refine wpFn_ok (Z := []) (fn := Go.Proofs.Try.f76) ?_ ?_ ?_
  · kernel_rfl
  · kernel_rfl
  · apply turnInto h
    kernel_rfl


/-! smem_Mem_Load_1 -/

theorem vc_smem_Mem_Load_1 (x0 : Int) (H : Heap) (R : Value → Heap → Prop) :
    (
 R (.int .u64 x0) H) →
    CA en F.smem_Mem_Load_1 [(.int .u64 x0)] H R := by
  intro h
  refine wpFn_ok (Z := []) (fn := Go.Proofs.Try.f77) ?_ ?_ ?_
  · kernel_rfl
  · kernel_rfl
  · apply turnInto h
    kernel_rfl


/-! word_Alu -/

theorem vc_word_Alu (x0 : Int) (x1 : Bool) (x2 : Int) (x3 : Int) (H : Heap) (R : Value → Heap → Prop) :
    (
 bif (x0 == 192) then (
 bif x1 then (
 nz 64 ∧
 nn (Int.tmod x3 64) ∧
 R (.tuple #[(.int .u64 (IntKind.u64.wrap (Int.fdiv (IntKind.i64.wrap x2) (2 ^ (min (Int.tmod x3 64).toNat 64))))), (.bool true)]) H)
 else (
 bif (x0 == 192) then (
 nz 32 ∧
 nn (Int.tmod x3 32) ∧
 R (.tuple #[(.int .u64 (IntKind.u64.wrap (IntKind.u32.wrap (Int.fdiv (IntKind.i32.wrap x2) (2 ^ (min (Int.tmod x3 32).toNat 32)))))), (.bool true)]) H)
 else (
 bif x1 then (
 CA en F.word_alu_uint64 [(.int .i64 x0), (.int .u64 64), (.int .u64 x2), (.int .u64 x3)] H fun v1 H2 =>
 ∃ n3, ∃ b4, v1 = (.tuple #[(.int .u64 n3), (.bool b4)]) ∧
 R (.tuple #[(.int .u64 n3), (.bool b4)]) H2)
 else (
 CA en F.word_alu_uint32 [(.int .i64 x0), (.int .u64 32), (.int .u32 (IntKind.u32.wrap x2)), (.int .u32 (IntKind.u32.wrap x3))] H fun v5 H6 =>
 ∃ n7, ∃ b8, v5 = (.tuple #[(.int .u32 n7), (.bool b8)]) ∧
 R (.tuple #[(.int .u64 (IntKind.u64.wrap n7)), (.bool b8)]) H6))))
 else (
 bif (x0 == 192) then (
 nz 32 ∧
 nn (Int.tmod x3 32) ∧
 R (.tuple #[(.int .u64 (IntKind.u64.wrap (IntKind.u32.wrap (Int.fdiv (IntKind.i32.wrap x2) (2 ^ (min (Int.tmod x3 32).toNat 32)))))), (.bool true)]) H)
 else (
 bif x1 then (
 CA en F.word_alu_uint64 [(.int .i64 x0), (.int .u64 64), (.int .u64 x2), (.int .u64 x3)] H fun v9 H10 =>
 ∃ n11, ∃ b12, v9 = (.tuple #[(.int .u64 n11), (.bool b12)]) ∧
 R (.tuple #[(.int .u64 n11), (.bool b12)]) H10)
 else (
 CA en F.word_alu_uint32 [(.int .i64 x0), (.int .u64 32), (.int .u32 (IntKind.u32.wrap x2)), (.int .u32 (IntKind.u32.wrap x3))] H fun v13 H14 =>
 ∃ n15, ∃ b16, v13 = (.tuple #[(.int .u32 n15), (.bool b16)]) ∧
 R (.tuple #[(.int .u64 (IntKind.u64.wrap n15)), (.bool b16)]) H14)))) →
    CA en F.word_Alu [(.int .i64 x0), (.bool x1), (.int .u64 x2), (.int .u64 x3)] H R := by
  intro h
  refine wpFn_ok (Z := []) (fn := Go.Proofs.Try.f75) ?_ ?_ ?_
  · kernel_rfl
  · kernel_rfl
  · apply turnInto h
    kernel_rfl


/-! word_alu_uint64 -/

theorem vc_word_alu_uint64 (x0 : Int) (x1 : Int) (x2 : Int) (x3 : Int) (H : Heap) (R : Value → Heap → Prop) :
    (
 nz x1 ∧
 bif (x0 == 0) then (
 R (.tuple #[(.int .u64 (IntKind.u64.wrap (x2 + x3))), (.bool true)]) H)
 else (
 bif (x0 == 16) then (
 R (.tuple #[(.int .u64 (IntKind.u64.wrap (x2 - x3))), (.bool true)]) H)
 else (
 bif (x0 == 32) then (
 R (.tuple #[(.int .u64 (IntKind.u64.wrap (x2 * x3))), (.bool true)]) H)
 else (
 bif (x0 == 48) then (
 CA en F.word_divide_uint64 [(.int .u64 x2), (.int .u64 x3)] H fun v1 H2 =>
 ∃ n3, ∃ n4, v1 = (.tuple #[(.int .u64 n3), (.int .u64 n4)]) ∧
 R (.tuple #[(.int .u64 n3), (.bool true)]) H2)
 else (
 bif (x0 == 144) then (
 CA en F.word_divide_uint64 [(.int .u64 x2), (.int .u64 x3)] H fun v5 H6 =>
 ∃ n7, ∃ n8, v5 = (.tuple #[(.int .u64 n7), (.int .u64 n8)]) ∧
 R (.tuple #[(.int .u64 n8), (.bool true)]) H6)
 else (
 bif (x0 == 64) then (
 R (.tuple #[(.int .u64 (IntKind.u64.wrap ((BitVec.ofInt 64 x2 ||| (BitVec.ofInt 64 x3)).toNat : Int))), (.bool true)]) H)
 else (
 bif (x0 == 80) then (
 R (.tuple #[(.int .u64 (IntKind.u64.wrap ((BitVec.ofInt 64 x2 &&& (BitVec.ofInt 64 x3)).toNat : Int))), (.bool true)]) H)
 else (
 bif (x0 == 160) then (
 R (.tuple #[(.int .u64 (IntKind.u64.wrap ((BitVec.ofInt 64 x2 ^^^ (BitVec.ofInt 64 x3)).toNat : Int))), (.bool true)]) H)
 else (
 bif (x0 == 96) then (
 nn (Int.tmod x3 x1) ∧
 R (.tuple #[(.int .u64 (IntKind.u64.wrap (x2 * 2 ^ (min (Int.tmod x3 x1).toNat 64)))), (.bool true)]) H)
 else (
 bif (x0 == 112) then (
 nn (Int.tmod x3 x1) ∧
 R (.tuple #[(.int .u64 (Int.fdiv x2 (2 ^ (min (Int.tmod x3 x1).toNat 64)))), (.bool true)]) H)
 else (
 bif (x0 == 128) then (
 R (.tuple #[(.int .u64 (IntKind.u64.wrap (0 - x2))), (.bool true)]) H)
 else (
 bif (x0 == 176) then (
 R (.tuple #[(.int .u64 x3), (.bool true)]) H)
 else (
 R (.tuple #[(.int .u64 0), (.bool false)]) H))))))))))))) →
    CA en F.word_alu_uint64 [(.int .i64 x0), (.int .u64 x1), (.int .u64 x2), (.int .u64 x3)] H R := by
  intro h
  refine wpFn_ok (Z := []) (fn := Go.Proofs.Try.f79) ?_ ?_ ?_
  · kernel_rfl
  · kernel_rfl
  · apply turnInto h
    kernel_rfl

end Go.Proofs.Ytlkmdcncpdadbaa
