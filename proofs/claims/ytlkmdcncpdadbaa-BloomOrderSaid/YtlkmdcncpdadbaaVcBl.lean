/-
  What functions of this seat's program need (printed by a program, checked by the kernel).
-/
import Derived.Test.YtlkmdcncpdadbaaNames
import Derived.Test.YtlkmdcncpdadbaaAs41
namespace Go.Proofs.Ytlkmdcncpdadbaa
open Go Go.AS Go.RowKit
set_option linter.unusedVariables false
set_option maxRecDepth 100000

/-! bloom_New -/

theorem vc_bloom_New (x0 : Option Addr) (x1 : Option Addr) (x2_0 : Int) (x2_1 : Int) (x2_2 : Int) (x2_3 : Int) (x2_4 : Int) (x3 : Int) (H : Heap) (R : Value → Heap → Prop) :
    (
 nwH H (.cells true 0 [(.int .i64 x2_0), (.int .i64 x2_1), (.int .i64 x2_2), (.int .i64 x2_3), (.int .i64 x2_4)]) fun i1 H2 =>
 ∃ n3, ∃ n4, ∃ n5, ∃ n6, ∃ n7, H2.cellsAt i1 0 5 = some [(.int .i64 n3), (.int .i64 n4), (.int .i64 n5), (.int .i64 n6), (.int .i64 n7)] ∧
 nwH H2 (.cells true 5 [(.int .i64 n3), (.int .i64 n4), (.int .i64 n5), (.int .i64 n6), (.int .i64 n7)]) fun i8 H9 =>
 CA en F.decl_Check [(.slice (some ⟨i8, 0, none⟩) 1 0)] H9 fun v10 H11 =>
 ∃ n12, v10 = (.int .i64 n12) ∧
 bif (n12 != 0) then (
 R (.tuple #[(.pointer none), (.int .i64 1)]) H11)
 else (
 ∃ n13, H11.cell i1 0 = some (.int .i64 n13) ∧
 bif (n13 != 8) then (
 R (.tuple #[(.pointer none), (.int .i64 1)]) H11)
 else (
 ∃ n14, H11.cell i1 3 = some (.int .i64 n14) ∧
 CA en F.smem_Mem_Make [(.pointer x0), (.int .i64 n14)] H11 fun v15 H16 =>
 ∃ n17, ∃ n18, v15 = (.tuple #[(.int .i64 n17), (.int .i64 n18)]) ∧
 bif (n18 != 0) then (
 R (.tuple #[(.pointer none), (.int .i64 n18)]) H16)
 else (
 ∃ n19, ∃ n20, ∃ n21, ∃ n22, ∃ n23, H16.cellsAt i1 0 5 = some [(.int .i64 n19), (.int .i64 n20), (.int .i64 n21), (.int .i64 n22), (.int .i64 n23)] ∧
 nwH H16 (.cells true 0 [(.pointer x0), (.int .i64 n19), (.int .i64 n20), (.int .i64 n21), (.int .i64 n22), (.int .i64 n23), (.int .i64 n17)]) fun i24 H25 =>
 R (.tuple #[(.pointer (some ⟨i24, 0, none⟩)), (.int .i64 0)]) H25)))) →
    CA en F.bloom_New [(.pointer x0), (.pointer x1), (.agg #[(.int .i64 x2_0), (.int .i64 x2_1), (.int .i64 x2_2), (.int .i64 x2_3), (.int .i64 x2_4)]), (.int .i64 x3)] H R := by
  intro h
  refine wpFn_ok (Z := []) (fn := Go.Proofs.Try.f31) ?_ ?_ ?_
  · kernel_rfl
  · kernel_rfl
  · apply turnInto h
    kernel_rfl


/-! bloom_Map_Begin -/

theorem vc_bloom_Map_Begin (x0 : Option Addr) (x1_0 : Int) (x1_1 : Int) (x1_2 : Option Addr) (x1_2l : Nat) (x1_3 : Int) (x1_4 : Int) (H : Heap) (R : Value → Heap → Prop) :
    (
 nwH H (.cells true 0 [(.pointer x0)]) fun i1 H2 =>
 nwH H2 (.cells true 0 [(.int .i64 x1_0), (.int .u64 x1_1), (.slice x1_2 x1_2l 0), (.int .i64 x1_3), (.int .i64 x1_4)]) fun i3 H4 =>
 ∃ a5 i6, (((H4.bump 17).set (H4.next + 13) (.cells true 0 [(.int .i64 0)])).set (H4.next + 14) (.cells true 0 [(.int .u64 0)])).cell i3 2 = some (.slice a5 i6 0) ∧
 inB 0 i6 ∧
 asRow a5 fun i7 i8 =>
 ∃ n9, (((H4.bump 17).set (H4.next + 13) (.cells true 0 [(.int .i64 0)])).set (H4.next + 14) (.cells true 0 [(.int .u64 0)])).cell i7 i8 = some (.int .u64 n9) ∧
 ∃ a10, (((H4.bump 17).set (H4.next + 13) (.cells true 0 [(.int .i64 0)])).set (H4.next + 14) (.cells true 0 [(.int .u64 0)])).cell i1 0 = some (.pointer a10) ∧
 AS.asAddr (.pointer a10) fun i11 i12 =>
 ∃ n13, (((H4.bump 17).set (H4.next + 13) (.cells true 0 [(.int .i64 0)])).set (H4.next + 14) (.cells true 0 [(.int .u64 0)])).cell i11 ((i12 + 1) + 3) = some (.int .i64 n13) ∧
 CA en F.decl_Bloom [(.int .u64 n9), (.int .i64 n13)] (((H4.bump 17).set (H4.next + 13) (.cells true 0 [(.int .i64 0)])).set (H4.next + 14) (.cells true 0 [(.int .u64 0)])) fun v14 H15 =>
 ∃ n16, ∃ n17, v14 = (.tuple #[(.int .i64 n16), (.int .u64 n17)]) ∧
 stc H15 (H4.next + 13) 0 [(.int .i64 n16)] fun H18 =>
 stc H18 (H4.next + 14) 0 [(.int .u64 n17)] fun H19 =>
 (
 ∃ n24, H19.cell i3 0 = some (.int .i64 n24) ∧
 bif (n24 == 6) then (
 nwH H19 (.cells true 0 [(.func (.func F.bloom_Map_Begin_1) #[] #[(.pointer (some ⟨i1, 0, none⟩)), (.pointer (some ⟨(H4.next + 13), 0, none⟩)), (.pointer (some ⟨(H4.next + 14), 0, none⟩))]), (.int .i64 0)]) fun i25 H26 =>
 R (.pointer (some ⟨i25, 0, none⟩)) H26)
 else (
 nwH H19 (.cells true 0 [(.func (.func F.bloom_Map_Begin_2) #[] #[(.pointer (some ⟨i1, 0, none⟩)), (.pointer (some ⟨(H4.next + 13), 0, none⟩)), (.pointer (some ⟨(H4.next + 14), 0, none⟩))]), (.int .i64 0)]) fun i27 H28 =>
 R (.pointer (some ⟨i27, 0, none⟩)) H28)) ∧
 ((∃ c21, (((H4.bump 17).set (H4.next + 13) (.cells true 0 [(.int .i64 0)])).set (H4.next + 14) (.cells true 0 [(.int .u64 0)])).get (H4.next + 14) = some (.cells true 0 c21) ∧ sameN.sameL 8 [(.int .u64 0)] c21 = true) ∧ (∃ c20, H15.get (H4.next + 14) = some (.cells true 0 c20) ∧ sameN.sameL 8 [(.int .u64 0)] c20 = true) ∧ True) ∧
 ((∃ c23, (((H4.bump 17).set (H4.next + 13) (.cells true 0 [(.int .i64 0)])).set (H4.next + 14) (.cells true 0 [(.int .u64 0)])).get (H4.next + 13) = some (.cells true 0 c23) ∧ sameN.sameL 8 [(.int .i64 0)] c23 = true) ∧ (∃ c22, H15.get (H4.next + 13) = some (.cells true 0 c22) ∧ sameN.sameL 8 [(.int .i64 0)] c22 = true) ∧ True) ∧
 True) →
    CA en F.bloom_Map_Begin [(.pointer x0), (.agg #[(.int .i64 x1_0), (.int .u64 x1_1), (.slice x1_2 x1_2l 0), (.int .i64 x1_3), (.int .i64 x1_4)])] H R := by
  intro h
  refine wpFn_ok (Z := []) (fn := Go.Proofs.Try.f45) ?_ ?_ ?_
  · kernel_rfl
  · kernel_rfl
  · apply turnInto h
    kernel_rfl


/-! bloom_Run_Step -/

theorem vc_bloom_Run_Step (x0 : Option Addr) (H : Heap) (R : Value → Heap → Prop) :
    (
 AS.asAddr (.pointer x0) fun i1 i2 =>
 ∃ v3, H.cell i1 i2 = some v3 ∧
 asFnNil v3 fun b4 =>
 bif b4 then (
 R (.tuple #[(.bool false), (.bool true)]) H)
 else (
 AS.asAddr (.pointer x0) fun i5 i6 =>
 ∃ v7, H.cell i5 i6 = some v7 ∧
 AS.asFn v7 fun f8 l9 l10 =>
 (∃ fn, en.fn f8 = some fn) ∧
 CA en f8 (l9 ++ [] ++ l10) H fun v11 H12 =>
 ∃ n13, v11 = (.int .i64 n13) ∧
 AS.asAddr (.pointer x0) fun i14 i15 =>
 stc H12 i14 (i15 + 1) [(.int .i64 n13)] fun H16 =>
 AS.asAddr (.pointer x0) fun i17 i18 =>
 stc H16 i17 i18 [.nilFunc] fun H19 =>
 R (.tuple #[(.bool true), (.bool true)]) H19)) →
    CA en F.bloom_Run_Step [(.pointer x0)] H R := by
  intro h
  refine wpFn_ok (Z := []) (fn := Go.Proofs.Try.f46) ?_ ?_ ?_
  · kernel_rfl
  · kernel_rfl
  · apply turnInto h
    kernel_rfl


/-! bloom_Run_Result -/

theorem vc_bloom_Run_Result (x0 : Option Addr) (H : Heap) (R : Value → Heap → Prop) :
    (
 nwH H (.cells true 0 [(.int .i64 0), (.slice none 0 0), (.int .u64 0), (.int .i64 0)]) fun i1 H2 =>
 AS.asAddr (.pointer x0) fun i3 i4 =>
 ∃ n5, H2.cell i3 (i4 + 1) = some (.int .i64 n5) ∧
 stc H2 i1 0 [(.int .i64 n5), (.slice none 0 0), (.int .u64 0), (.int .i64 0)] fun H6 =>
 ∃ n7, ∃ a8 i9, ∃ n10, ∃ n11, H6.cellsAt i1 0 4 = some [(.int .i64 n7), (.slice a8 i9 0), (.int .u64 n10), (.int .i64 n11)] ∧
 R (.agg #[(.int .i64 n7), (.slice a8 i9 0), (.int .u64 n10), (.int .i64 n11)]) H6) →
    CA en F.bloom_Run_Result [(.pointer x0)] H R := by
  intro h
  refine wpFn_ok (Z := []) (fn := Go.Proofs.Try.f47) ?_ ?_ ?_
  · kernel_rfl
  · kernel_rfl
  · apply turnInto h
    kernel_rfl


/-! bloom_Map_Begin_1 -/

theorem vc_bloom_Map_Begin_1 (c0 : Option Addr) (c1 : Option Addr) (c2 : Option Addr) (H : Heap) (R : Value → Heap → Prop) :
    (
 AS.asAddr (.pointer c0) fun i1 i2 =>
 ∃ a3, (H.bump 12).cell i1 i2 = some (.pointer a3) ∧
 AS.asAddr (.pointer a3) fun i4 i5 =>
 ∃ a6, (H.bump 12).cell i4 i5 = some (.pointer a6) ∧
 AS.asAddr (.pointer c0) fun i7 i8 =>
 ∃ a9, (H.bump 12).cell i7 i8 = some (.pointer a9) ∧
 AS.asAddr (.pointer a9) fun i10 i11 =>
 ∃ n12, (H.bump 12).cell i10 (i11 + 6) = some (.int .i64 n12) ∧
 AS.asAddr (.pointer c1) fun i13 i14 =>
 ∃ n15, (H.bump 12).cell i13 i14 = some (.int .i64 n15) ∧
 AS.asAddr (.pointer c2) fun i16 i17 =>
 ∃ n18, (H.bump 12).cell i16 i17 = some (.int .u64 n18) ∧
 AS.asAddr (.pointer c2) fun i19 i20 =>
 ∃ n21, (H.bump 12).cell i19 i20 = some (.int .u64 n21) ∧
 CA en F.smem_Mem_Fetch [(.pointer a6), (.int .i64 n12), (.int .i64 n15), (.int .i64 64), (.int .u64 n18), (.int .u64 n21)] (H.bump 12) fun v22 H23 =>
 ∃ n24, ∃ b25, v22 = (.tuple #[(.int .u64 n24), (.bool b25)]) ∧
 (
 R (.int .i64 0) H23) ∧
 True) →
    CA en F.bloom_Map_Begin_1 [(.pointer c0), (.pointer c1), (.pointer c2)] H R := by
  intro h
  refine wpFn_ok (Z := []) (fn := Go.Proofs.Try.f63) ?_ ?_ ?_
  · kernel_rfl
  · kernel_rfl
  · apply turnInto h
    kernel_rfl


/-! bloom_Map_Begin_2 -/

theorem vc_bloom_Map_Begin_2 (c0 : Option Addr) (c1 : Option Addr) (c2 : Option Addr) (H : Heap) (R : Value → Heap → Prop) :
    (
 AS.asAddr (.pointer c0) fun i1 i2 =>
 ∃ a3, (H.bump 15).cell i1 i2 = some (.pointer a3) ∧
 AS.asAddr (.pointer a3) fun i4 i5 =>
 ∃ a6, (H.bump 15).cell i4 i5 = some (.pointer a6) ∧
 AS.asAddr (.pointer c0) fun i7 i8 =>
 ∃ a9, (H.bump 15).cell i7 i8 = some (.pointer a9) ∧
 AS.asAddr (.pointer a9) fun i10 i11 =>
 ∃ n12, (H.bump 15).cell i10 (i11 + 6) = some (.int .i64 n12) ∧
 AS.asAddr (.pointer c1) fun i13 i14 =>
 ∃ n15, (H.bump 15).cell i13 i14 = some (.int .i64 n15) ∧
 CA en F.smem_Mem_Load [(.pointer a6), (.int .i64 n12), (.int .i64 n15)] (H.bump 15) fun v16 H17 =>
 ∃ n18, ∃ b19, v16 = (.tuple #[(.int .u64 n18), (.bool b19)]) ∧
 (
 AS.asAddr (.pointer c2) fun i20 i21 =>
 ∃ n22, H17.cell i20 i21 = some (.int .u64 n22) ∧
 AS.asAddr (.pointer c2) fun i23 i24 =>
 ∃ n25, H17.cell i23 i24 = some (.int .u64 n25) ∧
 bif ((IntKind.u64.wrap ((BitVec.ofInt 64 n18 &&& (BitVec.ofInt 64 n22)).toNat : Int)) != n25) then (
 R (.int .i64 2) H17)
 else (
 R (.int .i64 0) H17)) ∧
 True) →
    CA en F.bloom_Map_Begin_2 [(.pointer c0), (.pointer c1), (.pointer c2)] H R := by
  intro h
  refine wpFn_ok (Z := []) (fn := Go.Proofs.Try.f65) ?_ ?_ ?_
  · kernel_rfl
  · kernel_rfl
  · apply turnInto h
    kernel_rfl


/-! crossbarlaw18_made -/

theorem vc_crossbarlaw18_made (x0 : Int) (H : Heap) (R : Value → Heap → Prop) :
    (
 CA en F.smem_New [(.int .i64 64)] H fun v1 H2 =>
 ∃ a3, v1 = (.pointer a3) ∧
 bif a3.isNone then (
 R (.tuple #[(.pointer none), (.pointer none)]) H2)
 else (
 CA en F.bloom_New [(.pointer a3), (.pointer none), (.agg #[(.int .i64 8), (.int .i64 1), (.int .i64 1), (.int .i64 x0), (.int .i64 0)]), (.int .i64 1)] H2 fun v4 H5 =>
 ∃ a6, ∃ n7, v4 = (.tuple #[(.pointer a6), (.int .i64 n7)]) ∧
 bif (n7 != 0) then (
 R (.tuple #[(.pointer none), (.pointer none)]) H5)
 else (
 R (.tuple #[(.pointer a3), (.pointer a6)]) H5))) →
    CA en F.crossbarlaw18_made [(.int .i64 x0)] H R := by
  intro h
  refine wpFn_ok (Z := []) (fn := Go.Proofs.Try.f28) ?_ ?_ ?_
  · kernel_rfl
  · kernel_rfl
  · apply turnInto h
    kernel_rfl


/-! crossbarlaw18_once -/

theorem vc_crossbarlaw18_once (x0 : Option Addr) (x1 : Option Addr) (x2 : Int) (x3 : Int) (H : Heap) (R : Value → Heap → Prop) :
    (
 CA en F.smem_Mem_Count [(.pointer x0)] H fun v1 H2 =>
 ∃ n3, v1 = (.int .i64 n3) ∧
 nwH H2 (.cells true 1 [(.int .u64 x3)]) fun i4 H5 =>
 CA en F.bloom_Map_Begin [(.pointer x1), (.agg #[(.int .i64 x2), (.int .u64 0), (.slice (some ⟨i4, 0, none⟩) 1 0), (.int .i64 0), (.int .i64 0)])] H5 fun v6 H7 =>
 ∃ a8, v6 = (.pointer a8) ∧
 bif a8.isNone then (
 R (.tuple #[(.int .i64 0), (.bool false)]) H7)
 else (
 CA en F.smem_Mem_Count [(.pointer x0)] H7 fun v9 H10 =>
 ∃ n11, v9 = (.int .i64 n11) ∧
 bif (n11 != n3) then (
 R (.tuple #[(.int .i64 0), (.bool false)]) H10)
 else (
 CA en F.bloom_Run_Step [(.pointer a8)] H10 fun v12 H13 =>
 ∃ b14, ∃ b15, v12 = (.tuple #[(.bool b14), (.bool b15)]) ∧
 CA en F.bloom_Run_Step [(.pointer a8)] H13 fun v16 H17 =>
 ∃ b18, ∃ b19, v16 = (.tuple #[(.bool b18), (.bool b19)]) ∧
 CA en F.bloom_Run_Result [(.pointer a8)] H17 fun v20 H21 =>
 ∃ n22, ∃ a23 i24, ∃ n25, ∃ n26, v20 = (.agg #[(.int .i64 n22), (.slice a23 i24 0), (.int .u64 n25), (.int .i64 n26)]) ∧
 nwH H21 (.cells true 0 [(.int .i64 0), (.slice none 0 0), (.int .u64 0), (.int .i64 0)]) fun i27 H28 =>
 stc H28 i27 0 [(.int .i64 n22), (.slice a23 i24 0), (.int .u64 n25), (.int .i64 n26)] fun H29 =>
 ∃ n30, (H29.bump 38).cell i27 0 = some (.int .i64 n30) ∧
 bif b14 then (
 bif b15 then (
 bif (!b18) then (
 bif b19 then (
 CA en F.smem_Mem_Count [(.pointer x0)] (H29.bump 38) fun v31 H32 =>
 ∃ n33, v31 = (.int .i64 n33) ∧
 bif (n33 == (IntKind.i64.wrap (n3 + 1))) then (
 ∃ a34 i35, H32.cell i27 1 = some (.slice a34 i35 0) ∧
 bif (((i35 : Nat) : Int) == 0) then (
 ∃ n36, H32.cell i27 2 = some (.int .u64 n36) ∧
 bif (n36 == 0) then (
 ∃ n37, H32.cell i27 3 = some (.int .i64 n37) ∧
 (
 R (.tuple #[(.int .i64 n30), (.bool (n37 == 0))]) H32) ∧
 (((IntKind.i64.wrap (n3 + 1)) = (IntKind.i64.wrap (n3 + 1))) ∧ ((IntKind.i64.wrap (n3 + 1)) = (IntKind.i64.wrap (n3 + 1))) ∧ True) ∧
 ((∃ n39, (H29.bump 38).cell i27 0 = some (.int .i64 n39) ∧
 n30 = n39) ∧ (∃ n38, H32.cell i27 0 = some (.int .i64 n38) ∧
 n30 = n38) ∧ True) ∧
 True)
 else (
 (
 R (.tuple #[(.int .i64 n30), (.bool false)]) H32) ∧
 (((IntKind.i64.wrap (n3 + 1)) = (IntKind.i64.wrap (n3 + 1))) ∧ ((IntKind.i64.wrap (n3 + 1)) = (IntKind.i64.wrap (n3 + 1))) ∧ True) ∧
 ((∃ n41, (H29.bump 38).cell i27 0 = some (.int .i64 n41) ∧
 n30 = n41) ∧ (∃ n40, H32.cell i27 0 = some (.int .i64 n40) ∧
 n30 = n40) ∧ True) ∧
 True))
 else (
 (
 R (.tuple #[(.int .i64 n30), (.bool false)]) H32) ∧
 (((IntKind.i64.wrap (n3 + 1)) = (IntKind.i64.wrap (n3 + 1))) ∧ ((IntKind.i64.wrap (n3 + 1)) = (IntKind.i64.wrap (n3 + 1))) ∧ True) ∧
 ((∃ n43, (H29.bump 38).cell i27 0 = some (.int .i64 n43) ∧
 n30 = n43) ∧ (∃ n42, H32.cell i27 0 = some (.int .i64 n42) ∧
 n30 = n42) ∧ True) ∧
 True))
 else (
 (
 R (.tuple #[(.int .i64 n30), (.bool false)]) H32) ∧
 (((IntKind.i64.wrap (n3 + 1)) = (IntKind.i64.wrap (n3 + 1))) ∧ ((IntKind.i64.wrap (n3 + 1)) = (IntKind.i64.wrap (n3 + 1))) ∧ True) ∧
 ((∃ n45, (H29.bump 38).cell i27 0 = some (.int .i64 n45) ∧
 n30 = n45) ∧ (∃ n44, H32.cell i27 0 = some (.int .i64 n44) ∧
 n30 = n44) ∧ True) ∧
 True))
 else (
 (
 R (.tuple #[(.int .i64 n30), (.bool false)]) (H29.bump 38)) ∧
 ((∃ n46, (H29.bump 38).cell i27 0 = some (.int .i64 n46) ∧
 n30 = n46) ∧ True) ∧
 True))
 else (
 (
 R (.tuple #[(.int .i64 n30), (.bool false)]) (H29.bump 38)) ∧
 ((∃ n47, (H29.bump 38).cell i27 0 = some (.int .i64 n47) ∧
 n30 = n47) ∧ True) ∧
 True))
 else (
 (
 R (.tuple #[(.int .i64 n30), (.bool false)]) (H29.bump 38)) ∧
 ((∃ n48, (H29.bump 38).cell i27 0 = some (.int .i64 n48) ∧
 n30 = n48) ∧ True) ∧
 True))
 else (
 (
 R (.tuple #[(.int .i64 n30), (.bool false)]) (H29.bump 38)) ∧
 ((∃ n49, (H29.bump 38).cell i27 0 = some (.int .i64 n49) ∧
 n30 = n49) ∧ True) ∧
 True)))) →
    CA en F.crossbarlaw18_once [(.pointer x0), (.pointer x1), (.int .i64 x2), (.int .u64 x3)] H R := by
  intro h
  refine wpFn_ok (Z := []) (fn := Go.Proofs.Try.f29) ?_ ?_ ?_
  · kernel_rfl
  · kernel_rfl
  · apply turnInto h
    kernel_rfl


/-! crossbarlaw18_BloomFinds -/
noncomputable def L_crossbarlaw18_BloomFinds_0 : Code := loopAt Go.Proofs.Try.f8 0
noncomputable def L_crossbarlaw18_BloomFinds_1 : Code := loopAt Go.Proofs.Try.f8 1
noncomputable def L_crossbarlaw18_BloomFinds_2 : Code := loopAt Go.Proofs.Try.f8 2

theorem vc_crossbarlaw18_BloomFinds (x0 : Int) (x1 : Option Addr) (x1l : Nat) (x2 : Option Addr) (x2l : Nat) (H : Heap) (R : Value → Heap → Prop) :
    (
 bif (decide (((x1l : Nat) : Int) > 200)) then (
 CA en F.crossbarlaw18_known [] H fun v1 H2 =>
 ∃ b3, v1 = (.bool b3) ∧
 R (.bool b3) H2)
 else (
 bif (decide (((x2l : Nat) : Int) > 20)) then (
 CA en F.crossbarlaw18_known [] H fun v4 H5 =>
 ∃ b6, v4 = (.bool b6) ∧
 R (.bool b6) H5)
 else (
 nz 6 ∧
 nn (Int.tmod x0 6) ∧
 CA en F.crossbarlaw18_made [(.int .i64 (IntKind.i64.wrap (1 * 2 ^ (min (Int.tmod x0 6).toNat 64))))] H fun v7 H8 =>
 ∃ a9, ∃ a10, v7 = (.tuple #[(.pointer a9), (.pointer a10)]) ∧
 bif a9.isNone then (
 R (.bool false) H8)
 else (
 bif a10.isNone then (
 R (.bool false) H8)
 else (
 okLen 1 ((x2l : Nat) : Int) ((x2l : Nat) : Int) ∧
 nwH H8 (.cells true 1 (reps ((x2l : Nat) : Int).toNat [(.bool false)])) fun i11 H12 =>
 LA en L_crossbarlaw18_BloomFinds_0 [(.int .u8 x0), (.slice x1 x1l 0), (.slice x2 x2l 0), undef, undef, undef, (.bool false), (.pointer a9), (.pointer a10), (.slice (some ⟨i11, 0, none⟩) ((x2l : Nat) : Int).toNat 0), (.int .i64 0), undef, undef, undef, undef, undef, undef, (.slice x1 x1l 0), (.int .i64 ((x1l : Nat) : Int)), (.bool (decide (((x1l : Nat) : Int) > 200))), (.bool false), (.slice x2 x2l 0), (.int .i64 ((x2l : Nat) : Int)), (.bool (decide (((x2l : Nat) : Int) > 20))), (.bool false), undef, (.tuple #[(.pointer a9), (.pointer a10)]), (.int .u8 x0), (.int .u8 (Int.tmod x0 6)), (.int .i64 (IntKind.i64.wrap (1 * 2 ^ (min (Int.tmod x0 6).toNat 64)))), (.tuple #[(.pointer a9), (.pointer a10)]), (.pointer a9), (.pointer a10), (.pointer a9), (.bool a9.isNone), (.bool false), (.pointer a10), (.bool a10.isNone), (.bool false), (.slice x2 x2l 0), (.int .i64 ((x2l : Nat) : Int)), (.slice (some ⟨i11, 0, none⟩) ((x2l : Nat) : Int).toNat 0), undef, undef, undef, undef, undef, undef, undef, undef, undef, undef, undef, undef, undef, undef, undef, undef, undef, undef, undef, undef, undef, undef, undef, undef, undef, undef, undef, undef, undef, undef, undef, undef, undef, undef, undef, undef, undef, undef, undef, undef, undef, undef, undef, undef, undef, undef, undef, undef, undef, undef, undef, undef, undef, undef, undef, undef, undef, undef, undef, undef, undef, undef, undef, undef, undef, undef, undef, undef, undef, undef, undef, undef, undef, undef, undef, undef, undef, undef, undef, undef, undef, undef, undef, undef, undef, undef, undef, undef, undef, undef, undef, undef, undef, undef, undef, undef, undef, undef] H12 [(X.exit 0, fun (x13 : Fr) (H14 : Heap) =>
 AS.asBool (x13.getD 6 undef) fun b15 =>
 LA en L_crossbarlaw18_BloomFinds_2 [(.int .u8 x0), (.slice x1 x1l 0), (.slice x2 x2l 0), undef, undef, undef, (.bool b15), (.pointer a9), (.pointer a10), (.slice (some ⟨i11, 0, none⟩) ((x2l : Nat) : Int).toNat 0), (x13.getD 10 undef), (x13.getD 11 undef), (x13.getD 12 undef), (x13.getD 13 undef), (.int .i64 0), undef, undef, (.slice x1 x1l 0), (.int .i64 ((x1l : Nat) : Int)), (.bool (decide (((x1l : Nat) : Int) > 200))), (.bool false), (.slice x2 x2l 0), (.int .i64 ((x2l : Nat) : Int)), (.bool (decide (((x2l : Nat) : Int) > 20))), (.bool false), undef, (.tuple #[(.pointer a9), (.pointer a10)]), (.int .u8 x0), (.int .u8 (Int.tmod x0 6)), (.int .i64 (IntKind.i64.wrap (1 * 2 ^ (min (Int.tmod x0 6).toNat 64)))), (.tuple #[(.pointer a9), (.pointer a10)]), (.pointer a9), (.pointer a10), (.pointer a9), (.bool a9.isNone), (.bool false), (.pointer a10), (.bool a10.isNone), (.bool false), (.slice x2 x2l 0), (.int .i64 ((x2l : Nat) : Int)), (.slice (some ⟨i11, 0, none⟩) ((x2l : Nat) : Int).toNat 0), (x13.getD 42 undef), (x13.getD 43 undef), (x13.getD 44 undef), (x13.getD 45 undef), (x13.getD 46 undef), (x13.getD 47 undef), (x13.getD 48 undef), (x13.getD 49 undef), (x13.getD 50 undef), (x13.getD 51 undef), (x13.getD 52 undef), (x13.getD 53 undef), (x13.getD 54 undef), (x13.getD 55 undef), (x13.getD 56 undef), (x13.getD 57 undef), (x13.getD 58 undef), (x13.getD 59 undef), (x13.getD 60 undef), (x13.getD 61 undef), (x13.getD 62 undef), (x13.getD 63 undef), (x13.getD 64 undef), (x13.getD 65 undef), (x13.getD 66 undef), (x13.getD 67 undef), (x13.getD 68 undef), (x13.getD 69 undef), (x13.getD 70 undef), (x13.getD 71 undef), (x13.getD 72 undef), (x13.getD 73 undef), (x13.getD 74 undef), (x13.getD 75 undef), (x13.getD 76 undef), (x13.getD 77 undef), (x13.getD 78 undef), (x13.getD 79 undef), (x13.getD 80 undef), (x13.getD 81 undef), (x13.getD 82 undef), (x13.getD 83 undef), (x13.getD 84 undef), (x13.getD 85 undef), (x13.getD 86 undef), (x13.getD 87 undef), (x13.getD 88 undef), (x13.getD 89 undef), (x13.getD 90 undef), (x13.getD 91 undef), (x13.getD 92 undef), (x13.getD 93 undef), (x13.getD 94 undef), (x13.getD 95 undef), (x13.getD 96 undef), (x13.getD 97 undef), (x13.getD 98 undef), (x13.getD 99 undef), (x13.getD 100 undef), (x13.getD 101 undef), (x13.getD 102 undef), (x13.getD 103 undef), (x13.getD 104 undef), (x13.getD 105 undef), (x13.getD 106 undef), (x13.getD 107 undef), (x13.getD 108 undef), (x13.getD 109 undef), (x13.getD 110 undef), (x13.getD 111 undef), undef, undef, undef, undef, undef, undef, undef, undef, undef, undef, undef, undef, undef, undef, undef, undef, undef, undef, undef, undef, undef, undef, undef, undef, undef, undef, undef, undef] H14 [(X.exit 4, fun (x16 : Fr) (H17 : Heap) =>
 AS.asBool (x16.getD 6 undef) fun b18 =>
 CA en F.smem_Mem_Bad [(.pointer a9)] H17 fun v19 H20 =>
 ∃ n21, v19 = (.int .i64 n21) ∧
 bif (n21 == 0) then (
 CA en F.crossbarlaw18_known [] H20 fun v22 H23 =>
 ∃ b24, v22 = (.bool b24) ∧
 R (.bool b24) H23)
 else (
 R (.bool false) H20)),
 (X.ret, fun (x25 : Fr) (H26 : Heap) =>
 AS.asBool (x25.getD 6 undef) fun b27 =>
 R (.bool b27) H26)]),
 (X.ret, fun (x28 : Fr) (H29 : Heap) =>
 AS.asBool (x28.getD 6 undef) fun b30 =>
 R (.bool b30) H29),
 (X.ret, fun (x31 : Fr) (H32 : Heap) =>
 AS.asBool (x31.getD 6 undef) fun b33 =>
 R (.bool b33) H32)]))))) →
    CA en F.crossbarlaw18_BloomFinds [(.int .u8 x0), (.slice x1 x1l 0), (.slice x2 x2l 0)] H R := by
  intro h
  refine wpFn_ok (Z := [[(6, (.bool false))], [(6, (.bool false))], [(6, (.bool false))]]) (fn := Go.Proofs.Try.f8) ?_ ?_ ?_
  · kernel_rfl
  · kernel_rfl
  · apply turnInto h
    kernel_rfl

theorem use_crossbarlaw18_BloomFinds_0 {t0 : Int} {t1 : Option Addr} {t1l : Nat} {t2 : Option Addr} {t2l : Nat} {t7 : Option Addr} {t8 : Option Addr} {t9 : Nat} {t9l : Nat} {t17 : Option Addr} {t17l : Nat} {t18 : Int} {t19 : Bool} {t21 : Option Addr} {t21l : Nat} {t22 : Int} {t23 : Bool} {t26_0 : Option Addr} {t26_1 : Option Addr} {t27 : Int} {t28 : Int} {t29 : Int} {t30_0 : Option Addr} {t30_1 : Option Addr} {t31 : Option Addr} {t32 : Option Addr} {t33 : Option Addr} {t34 : Bool} {t36 : Option Addr} {t37 : Bool} {t39 : Option Addr} {t39l : Nat} {t40 : Int} {t41 : Nat} {t41l : Nat} {K0 : Fr → Heap → Prop} {K1 : Fr → Heap → Prop} {K2 : Fr → Heap → Prop} {t6 : Bool} {t10 : Int} {t11 : Value} {t12 : Value} {t13 : Value} {t42 : Value} {t43 : Value} {t44 : Value} {t45 : Value} {t46 : Value} {t47 : Value} {t48 : Value} {t49 : Value} {t50 : Value} {t51 : Value} {t52 : Value} {t53 : Value} {t54 : Value} {t55 : Value} {t56 : Value} {t57 : Value} {t58 : Value} {t59 : Value} {t60 : Value} {t61 : Value} {t62 : Value} {t63 : Value} {t64 : Value} {t65 : Value} {t66 : Value} {t67 : Value} {t68 : Value} {t69 : Value} {t70 : Value} {t71 : Value} {t72 : Value} {t73 : Value} {t74 : Value} {t75 : Value} {t76 : Value} {t77 : Value} {t78 : Value} {t79 : Value} {t80 : Value} {t81 : Value} {t82 : Value} {t83 : Value} {t84 : Value} {t85 : Value} {t86 : Value} {t87 : Value} {t88 : Value} {t89 : Value} {t90 : Value} {t91 : Value} {t92 : Value} {t93 : Value} {t94 : Value} {t95 : Value} {t96 : Value} {t97 : Value} {t98 : Value} {t99 : Value} {t100 : Value} {t101 : Value} {t102 : Value} {t103 : Value} {t104 : Value} {t105 : Value} {t106 : Value} {t107 : Value} {t108 : Value} {t109 : Value} {t110 : Value} {t111 : Value} {H : Heap} (I : Nat → Bool → Int → Heap → Prop) (n : Nat) (h0 : I n t6 t10 H)
    (hstep : ∀ (n : Nat) (t6 : Bool) (t10 : Int) (ys : Fr) (H : Heap), I n t6 t10 H →
    (
 bif (decide (t10 < ((t1l : Nat) : Int))) then (
 inB t10 t1l ∧
 asRow t1 fun i1 i2 =>
 ∃ n3, H.cell i1 (i2 + (t10.toNat * 1)) = some (.int .u64 n3) ∧
 CA en F.crossbarlaw18_once [(.pointer t7), (.pointer t8), (.int .i64 6), (.int .u64 n3)] H fun v4 H5 =>
 ∃ n6, ∃ b7, v4 = (.tuple #[(.int .i64 n6), (.bool b7)]) ∧
 bif (n6 != 0) then (
 K1 [(.int .u8 t0), (.slice t1 t1l 0), (.slice t2 t2l 0), undef, undef, undef, (.bool false), (.pointer t7), (.pointer t8), (.slice (some ⟨t9, 0, none⟩) t9l 0), (.int .i64 t10), (.int .i64 n6), (.bool b7), (ys.getD 13 undef), undef, undef, undef, (.slice t17 t17l 0), (.int .i64 t18), (.bool t19), (.bool false), (.slice t21 t21l 0), (.int .i64 t22), (.bool t23), (.bool false), undef, (.tuple #[(.pointer t26_0), (.pointer t26_1)]), (.int .u8 t27), (.int .u8 t28), (.int .i64 t29), (.tuple #[(.pointer t30_0), (.pointer t30_1)]), (.pointer t31), (.pointer t32), (.pointer t33), (.bool t34), (.bool false), (.pointer t36), (.bool t37), (.bool false), (.slice t39 t39l 0), (.int .i64 t40), (.slice (some ⟨t41, 0, none⟩) t41l 0), (.int .i64 t10), (.slice t1 t1l 0), (.int .i64 ((t1l : Nat) : Int)), (.bool true), (ys.getD 46 undef), (ys.getD 47 undef), (.tuple #[(.int .i64 n6), (.bool b7)]), (.pointer t7), (.pointer t8), (.slice t1 t1l 0), (.int .i64 t10), (.pointer (some ⟨i1, (i2 + (t10.toNat * 1)), none⟩)), (.int .u64 n3), (.tuple #[(.int .i64 n6), (.bool b7)]), (.int .i64 n6), (.bool b7), (.int .i64 n6), (.bool (n6 != 0)), (.bool true), undef, undef, (.bool true), (ys.getD 64 undef), (ys.getD 65 undef), (ys.getD 66 undef), (ys.getD 67 undef), (ys.getD 68 undef), (ys.getD 69 undef), (ys.getD 70 undef), (ys.getD 71 undef), (ys.getD 72 undef), (ys.getD 73 undef), (ys.getD 74 undef), (ys.getD 75 undef), (ys.getD 76 undef), (ys.getD 77 undef), (ys.getD 78 undef), (ys.getD 79 undef), (ys.getD 80 undef), (ys.getD 81 undef), (ys.getD 82 undef), (ys.getD 83 undef), (ys.getD 84 undef), (ys.getD 85 undef), (ys.getD 86 undef), (ys.getD 87 undef), (ys.getD 88 undef), (ys.getD 89 undef), (ys.getD 90 undef), (ys.getD 91 undef), (ys.getD 92 undef), (ys.getD 93 undef), (ys.getD 94 undef), (ys.getD 95 undef), (ys.getD 96 undef), (ys.getD 97 undef), (ys.getD 98 undef), (ys.getD 99 undef), (ys.getD 100 undef), (ys.getD 101 undef), (ys.getD 102 undef), (ys.getD 103 undef), (ys.getD 104 undef), (ys.getD 105 undef), (ys.getD 106 undef), (ys.getD 107 undef), (ys.getD 108 undef), (ys.getD 109 undef), (ys.getD 110 undef), (ys.getD 111 undef), undef, undef, undef, undef, undef, undef, undef, undef, undef, undef, undef, undef, undef, undef, undef, undef, undef, undef, undef, undef, undef, undef, undef, undef, undef, undef, undef, undef] H5)
 else (
 bif (!b7) then (
 K1 [(.int .u8 t0), (.slice t1 t1l 0), (.slice t2 t2l 0), undef, undef, undef, (.bool false), (.pointer t7), (.pointer t8), (.slice (some ⟨t9, 0, none⟩) t9l 0), (.int .i64 t10), (.int .i64 n6), (.bool b7), (ys.getD 13 undef), undef, undef, undef, (.slice t17 t17l 0), (.int .i64 t18), (.bool t19), (.bool false), (.slice t21 t21l 0), (.int .i64 t22), (.bool t23), (.bool false), undef, (.tuple #[(.pointer t26_0), (.pointer t26_1)]), (.int .u8 t27), (.int .u8 t28), (.int .i64 t29), (.tuple #[(.pointer t30_0), (.pointer t30_1)]), (.pointer t31), (.pointer t32), (.pointer t33), (.bool t34), (.bool false), (.pointer t36), (.bool t37), (.bool false), (.slice t39 t39l 0), (.int .i64 t40), (.slice (some ⟨t41, 0, none⟩) t41l 0), (.int .i64 t10), (.slice t1 t1l 0), (.int .i64 ((t1l : Nat) : Int)), (.bool true), (ys.getD 46 undef), (ys.getD 47 undef), (.tuple #[(.int .i64 n6), (.bool b7)]), (.pointer t7), (.pointer t8), (.slice t1 t1l 0), (.int .i64 t10), (.pointer (some ⟨i1, (i2 + (t10.toNat * 1)), none⟩)), (.int .u64 n3), (.tuple #[(.int .i64 n6), (.bool b7)]), (.int .i64 n6), (.bool b7), (.int .i64 n6), (.bool (n6 != 0)), (.bool false), (.bool b7), (.bool (!b7)), (.bool true), (ys.getD 64 undef), (ys.getD 65 undef), (ys.getD 66 undef), (ys.getD 67 undef), (ys.getD 68 undef), (ys.getD 69 undef), (ys.getD 70 undef), (ys.getD 71 undef), (ys.getD 72 undef), (ys.getD 73 undef), (ys.getD 74 undef), (ys.getD 75 undef), (ys.getD 76 undef), (ys.getD 77 undef), (ys.getD 78 undef), (ys.getD 79 undef), (ys.getD 80 undef), (ys.getD 81 undef), (ys.getD 82 undef), (ys.getD 83 undef), (ys.getD 84 undef), (ys.getD 85 undef), (ys.getD 86 undef), (ys.getD 87 undef), (ys.getD 88 undef), (ys.getD 89 undef), (ys.getD 90 undef), (ys.getD 91 undef), (ys.getD 92 undef), (ys.getD 93 undef), (ys.getD 94 undef), (ys.getD 95 undef), (ys.getD 96 undef), (ys.getD 97 undef), (ys.getD 98 undef), (ys.getD 99 undef), (ys.getD 100 undef), (ys.getD 101 undef), (ys.getD 102 undef), (ys.getD 103 undef), (ys.getD 104 undef), (ys.getD 105 undef), (ys.getD 106 undef), (ys.getD 107 undef), (ys.getD 108 undef), (ys.getD 109 undef), (ys.getD 110 undef), (ys.getD 111 undef), undef, undef, undef, undef, undef, undef, undef, undef, undef, undef, undef, undef, undef, undef, undef, undef, undef, undef, undef, undef, undef, undef, undef, undef, undef, undef, undef, undef] H5)
 else (
 LA en L_crossbarlaw18_BloomFinds_1 [(.int .u8 t0), (.slice t1 t1l 0), (.slice t2 t2l 0), undef, undef, undef, (.bool t6), (.pointer t7), (.pointer t8), (.slice (some ⟨t9, 0, none⟩) t9l 0), (.int .i64 t10), (.int .i64 n6), (.bool b7), (.int .i64 0), undef, undef, undef, (.slice t17 t17l 0), (.int .i64 t18), (.bool t19), (.bool false), (.slice t21 t21l 0), (.int .i64 t22), (.bool t23), (.bool false), undef, (.tuple #[(.pointer t26_0), (.pointer t26_1)]), (.int .u8 t27), (.int .u8 t28), (.int .i64 t29), (.tuple #[(.pointer t30_0), (.pointer t30_1)]), (.pointer t31), (.pointer t32), (.pointer t33), (.bool t34), (.bool false), (.pointer t36), (.bool t37), (.bool false), (.slice t39 t39l 0), (.int .i64 t40), (.slice (some ⟨t41, 0, none⟩) t41l 0), (.int .i64 t10), (.slice t1 t1l 0), (.int .i64 ((t1l : Nat) : Int)), (.bool true), (ys.getD 46 undef), (ys.getD 47 undef), (.tuple #[(.int .i64 n6), (.bool b7)]), (.pointer t7), (.pointer t8), (.slice t1 t1l 0), (.int .i64 t10), (.pointer (some ⟨i1, (i2 + (t10.toNat * 1)), none⟩)), (.int .u64 n3), (.tuple #[(.int .i64 n6), (.bool b7)]), (.int .i64 n6), (.bool b7), (.int .i64 n6), (.bool (n6 != 0)), (.bool false), (.bool b7), (.bool (!b7)), (.bool false), (ys.getD 64 undef), (ys.getD 65 undef), (ys.getD 66 undef), (ys.getD 67 undef), (ys.getD 68 undef), (ys.getD 69 undef), (ys.getD 70 undef), (ys.getD 71 undef), (ys.getD 72 undef), (ys.getD 73 undef), (ys.getD 74 undef), (ys.getD 75 undef), (ys.getD 76 undef), (ys.getD 77 undef), (ys.getD 78 undef), (ys.getD 79 undef), (ys.getD 80 undef), (ys.getD 81 undef), (ys.getD 82 undef), (ys.getD 83 undef), (ys.getD 84 undef), (ys.getD 85 undef), (ys.getD 86 undef), (ys.getD 87 undef), (ys.getD 88 undef), (ys.getD 89 undef), (ys.getD 90 undef), (ys.getD 91 undef), (ys.getD 92 undef), (ys.getD 93 undef), (ys.getD 94 undef), (ys.getD 95 undef), (ys.getD 96 undef), (ys.getD 97 undef), (ys.getD 98 undef), (ys.getD 99 undef), (ys.getD 100 undef), (ys.getD 101 undef), (ys.getD 102 undef), (ys.getD 103 undef), (ys.getD 104 undef), (ys.getD 105 undef), (ys.getD 106 undef), (ys.getD 107 undef), (ys.getD 108 undef), (ys.getD 109 undef), (ys.getD 110 undef), (ys.getD 111 undef), undef, undef, undef, undef, undef, undef, undef, undef, undef, undef, undef, undef, undef, undef, undef, undef, undef, undef, undef, undef, undef, undef, undef, undef, undef, undef, undef, undef] H5 [(X.exit 2, fun (x8 : Fr) (H9 : Heap) =>
 AS.asBool (x8.getD 6 undef) fun b10 =>
 ∃ k11, k11 < n ∧
 I k11 b10 (IntKind.i64.wrap (t10 + 1)) H9),
 (X.ret, fun (x12 : Fr) (H13 : Heap) =>
 AS.asBool (x12.getD 6 undef) fun b14 =>
 K1 [(.int .u8 t0), (.slice t1 t1l 0), (.slice t2 t2l 0), undef, undef, undef, (.bool b14), (.pointer t7), (.pointer t8), (.slice (some ⟨t9, 0, none⟩) t9l 0), (.int .i64 t10), (x12.getD 11 undef), (x12.getD 12 undef), (x12.getD 13 undef), undef, undef, undef, (.slice t17 t17l 0), (.int .i64 t18), (.bool t19), (.bool false), (.slice t21 t21l 0), (.int .i64 t22), (.bool t23), (.bool false), undef, (.tuple #[(.pointer t26_0), (.pointer t26_1)]), (.int .u8 t27), (.int .u8 t28), (.int .i64 t29), (.tuple #[(.pointer t30_0), (.pointer t30_1)]), (.pointer t31), (.pointer t32), (.pointer t33), (.bool t34), (.bool false), (.pointer t36), (.bool t37), (.bool false), (.slice t39 t39l 0), (.int .i64 t40), (.slice (some ⟨t41, 0, none⟩) t41l 0), (.int .i64 t10), (.slice t1 t1l 0), (.int .i64 ((t1l : Nat) : Int)), (.bool true), (ys.getD 46 undef), (ys.getD 47 undef), (.tuple #[(.int .i64 n6), (.bool b7)]), (.pointer t7), (.pointer t8), (.slice t1 t1l 0), (.int .i64 t10), (.pointer (some ⟨i1, (i2 + (t10.toNat * 1)), none⟩)), (.int .u64 n3), (.tuple #[(.int .i64 n6), (.bool b7)]), (.int .i64 n6), (.bool b7), (.int .i64 n6), (.bool (n6 != 0)), (.bool false), (.bool b7), (.bool (!b7)), (.bool false), (x12.getD 64 undef), (x12.getD 65 undef), (x12.getD 66 undef), (x12.getD 67 undef), (x12.getD 68 undef), (x12.getD 69 undef), (x12.getD 70 undef), (x12.getD 71 undef), (x12.getD 72 undef), (x12.getD 73 undef), (x12.getD 74 undef), (x12.getD 75 undef), (x12.getD 76 undef), (x12.getD 77 undef), (x12.getD 78 undef), (x12.getD 79 undef), (x12.getD 80 undef), (x12.getD 81 undef), (x12.getD 82 undef), (x12.getD 83 undef), (x12.getD 84 undef), (x12.getD 85 undef), (x12.getD 86 undef), (x12.getD 87 undef), (x12.getD 88 undef), (x12.getD 89 undef), (x12.getD 90 undef), (x12.getD 91 undef), (x12.getD 92 undef), (x12.getD 93 undef), (x12.getD 94 undef), (x12.getD 95 undef), (x12.getD 96 undef), (x12.getD 97 undef), (x12.getD 98 undef), (x12.getD 99 undef), (x12.getD 100 undef), (x12.getD 101 undef), (x12.getD 102 undef), (x12.getD 103 undef), (x12.getD 104 undef), (x12.getD 105 undef), (x12.getD 106 undef), (x12.getD 107 undef), (x12.getD 108 undef), (x12.getD 109 undef), (x12.getD 110 undef), (x12.getD 111 undef), undef, undef, undef, undef, undef, undef, undef, undef, undef, undef, undef, undef, undef, undef, undef, undef, undef, undef, undef, undef, undef, undef, undef, undef, undef, undef, undef, undef] H13)])))
 else (
 K0 [(.int .u8 t0), (.slice t1 t1l 0), (.slice t2 t2l 0), undef, undef, undef, (.bool t6), (.pointer t7), (.pointer t8), (.slice (some ⟨t9, 0, none⟩) t9l 0), (.int .i64 t10), (ys.getD 11 undef), (ys.getD 12 undef), (ys.getD 13 undef), undef, undef, undef, (.slice t17 t17l 0), (.int .i64 t18), (.bool t19), (.bool false), (.slice t21 t21l 0), (.int .i64 t22), (.bool t23), (.bool false), undef, (.tuple #[(.pointer t26_0), (.pointer t26_1)]), (.int .u8 t27), (.int .u8 t28), (.int .i64 t29), (.tuple #[(.pointer t30_0), (.pointer t30_1)]), (.pointer t31), (.pointer t32), (.pointer t33), (.bool t34), (.bool false), (.pointer t36), (.bool t37), (.bool false), (.slice t39 t39l 0), (.int .i64 t40), (.slice (some ⟨t41, 0, none⟩) t41l 0), (.int .i64 t10), (.slice t1 t1l 0), (.int .i64 ((t1l : Nat) : Int)), (.bool false), (ys.getD 46 undef), (ys.getD 47 undef), (ys.getD 48 undef), (ys.getD 49 undef), (ys.getD 50 undef), (ys.getD 51 undef), (ys.getD 52 undef), (ys.getD 53 undef), (ys.getD 54 undef), (ys.getD 55 undef), (ys.getD 56 undef), (ys.getD 57 undef), (ys.getD 58 undef), (ys.getD 59 undef), (ys.getD 60 undef), (ys.getD 61 undef), (ys.getD 62 undef), (ys.getD 63 undef), (ys.getD 64 undef), (ys.getD 65 undef), (ys.getD 66 undef), (ys.getD 67 undef), (ys.getD 68 undef), (ys.getD 69 undef), (ys.getD 70 undef), (ys.getD 71 undef), (ys.getD 72 undef), (ys.getD 73 undef), (ys.getD 74 undef), (ys.getD 75 undef), (ys.getD 76 undef), (ys.getD 77 undef), (ys.getD 78 undef), (ys.getD 79 undef), (ys.getD 80 undef), (ys.getD 81 undef), (ys.getD 82 undef), (ys.getD 83 undef), (ys.getD 84 undef), (ys.getD 85 undef), (ys.getD 86 undef), (ys.getD 87 undef), (ys.getD 88 undef), (ys.getD 89 undef), (ys.getD 90 undef), (ys.getD 91 undef), (ys.getD 92 undef), (ys.getD 93 undef), (ys.getD 94 undef), (ys.getD 95 undef), (ys.getD 96 undef), (ys.getD 97 undef), (ys.getD 98 undef), (ys.getD 99 undef), (ys.getD 100 undef), (ys.getD 101 undef), (ys.getD 102 undef), (ys.getD 103 undef), (ys.getD 104 undef), (ys.getD 105 undef), (ys.getD 106 undef), (ys.getD 107 undef), (ys.getD 108 undef), (ys.getD 109 undef), (ys.getD 110 undef), (ys.getD 111 undef), undef, undef, undef, undef, undef, undef, undef, undef, undef, undef, undef, undef, undef, undef, undef, undef, undef, undef, undef, undef, undef, undef, undef, undef, undef, undef, undef, undef] H))) :
    LA en L_crossbarlaw18_BloomFinds_0 [(.int .u8 t0), (.slice t1 t1l 0), (.slice t2 t2l 0), undef, undef, undef, (.bool t6), (.pointer t7), (.pointer t8), (.slice (some ⟨t9, 0, none⟩) t9l 0), (.int .i64 t10), t11, t12, t13, undef, undef, undef, (.slice t17 t17l 0), (.int .i64 t18), (.bool t19), (.bool false), (.slice t21 t21l 0), (.int .i64 t22), (.bool t23), (.bool false), undef, (.tuple #[(.pointer t26_0), (.pointer t26_1)]), (.int .u8 t27), (.int .u8 t28), (.int .i64 t29), (.tuple #[(.pointer t30_0), (.pointer t30_1)]), (.pointer t31), (.pointer t32), (.pointer t33), (.bool t34), (.bool false), (.pointer t36), (.bool t37), (.bool false), (.slice t39 t39l 0), (.int .i64 t40), (.slice (some ⟨t41, 0, none⟩) t41l 0), t42, t43, t44, t45, t46, t47, t48, t49, t50, t51, t52, t53, t54, t55, t56, t57, t58, t59, t60, t61, t62, t63, t64, t65, t66, t67, t68, t69, t70, t71, t72, t73, t74, t75, t76, t77, t78, t79, t80, t81, t82, t83, t84, t85, t86, t87, t88, t89, t90, t91, t92, t93, t94, t95, t96, t97, t98, t99, t100, t101, t102, t103, t104, t105, t106, t107, t108, t109, t110, t111, undef, undef, undef, undef, undef, undef, undef, undef, undef, undef, undef, undef, undef, undef, undef, undef, undef, undef, undef, undef, undef, undef, undef, undef, undef, undef, undef, undef] H [(X.exit 0, K0), (X.ret, K1), (X.ret, K2)] := by
  refine LA_rule (Z := [[(6, (.bool false))]]) (fun m xs H' => AS.asBool (xs.getD 6 undef) fun t6 => AS.asInt .i64 (xs.getD 10 undef) fun t10 => I m t6 t10 H') ?_ n H ?_
  · intro n H
    suffices hs : ∀ s42 : Value, ∀ s43 : Value, ∀ s44 : Value, ∀ s45 : Value, ∀ s49 : Value, ∀ s50 : Value, ∀ s51 : Value, ∀ s52 : Value, ∀ s53 : Value, ∀ s54 : Value, ∀ s55 : Value, ∀ s48 : Value, ∀ s56 : Value, ∀ s57 : Value, ∀ s11 : Value, ∀ s12 : Value, ∀ s58 : Value, ∀ s59 : Value, ∀ s60 : Value, ∀ s61 : Value, ∀ s62 : Value, ∀ s63 : Value, ∀ s6 : Value, ∀ s13 : Value, ∀ s64 : Value, ∀ s65 : Value, ∀ s66 : Value, ∀ s67 : Value, ∀ s71 : Value, ∀ s72 : Value, ∀ s73 : Value, ∀ s74 : Value, ∀ s75 : Value, ∀ s76 : Value, ∀ s77 : Value, ∀ s70 : Value, ∀ s78 : Value, ∀ s79 : Value, ∀ s80 : Value, ∀ s81 : Value, ∀ s82 : Value, ∀ s83 : Value, ∀ s84 : Value, ∀ s85 : Value, ∀ s86 : Value, ∀ s87 : Value, ∀ s88 : Value, ∀ s89 : Value, ∀ s90 : Value, ∀ s91 : Value, ∀ s92 : Value, ∀ s93 : Value, ∀ s94 : Value, ∀ s95 : Value, ∀ s96 : Value, ∀ s97 : Value, ∀ s98 : Value, ∀ s99 : Value, ∀ s100 : Value, ∀ s101 : Value, ∀ s102 : Value, ∀ s103 : Value, ∀ s104 : Value, ∀ s105 : Value, ∀ s106 : Value, ∀ s107 : Value, ∀ s108 : Value, ∀ s109 : Value, ∀ s110 : Value, ∀ s111 : Value, ∀ s68 : Value, ∀ s69 : Value, ∀ s46 : Value, ∀ s47 : Value, ∀ s10 : Value, ((AS.asBool s6 fun t6 => AS.asInt .i64 s10 fun t10 => I n t6 t10 H) → wpCode en L_crossbarlaw18_BloomFinds_0 [[(6, (.bool false))]] [(.int .u8 t0), (.slice t1 t1l 0), (.slice t2 t2l 0), undef, undef, undef, s6, (.pointer t7), (.pointer t8), (.slice (some ⟨t9, 0, none⟩) t9l 0), s10, s11, s12, s13, undef, undef, undef, (.slice t17 t17l 0), (.int .i64 t18), (.bool t19), (.bool false), (.slice t21 t21l 0), (.int .i64 t22), (.bool t23), (.bool false), undef, (.tuple #[(.pointer t26_0), (.pointer t26_1)]), (.int .u8 t27), (.int .u8 t28), (.int .i64 t29), (.tuple #[(.pointer t30_0), (.pointer t30_1)]), (.pointer t31), (.pointer t32), (.pointer t33), (.bool t34), (.bool false), (.pointer t36), (.bool t37), (.bool false), (.slice t39 t39l 0), (.int .i64 t40), (.slice (some ⟨t41, 0, none⟩) t41l 0), s42, s43, s44, s45, s46, s47, s48, s49, s50, s51, s52, s53, s54, s55, s56, s57, s58, s59, s60, s61, s62, s63, s64, s65, s66, s67, s68, s69, s70, s71, s72, s73, s74, s75, s76, s77, s78, s79, s80, s81, s82, s83, s84, s85, s86, s87, s88, s89, s90, s91, s92, s93, s94, s95, s96, s97, s98, s99, s100, s101, s102, s103, s104, s105, s106, s107, s108, s109, s110, s111, undef, undef, undef, undef, undef, undef, undef, undef, undef, undef, undef, undef, undef, undef, undef, undef, undef, undef, undef, undef, undef, undef, undef, undef, undef, undef, undef, undef] H (loopQ (fun m xs H' => AS.asBool (xs.getD 6 undef) fun t6 => AS.asInt .i64 (xs.getD 10 undef) fun t10 => I m t6 t10 H') n [(X.exit 0, K0), (X.ret, K1), (X.ret, K2)])) by
      apply turnInto hs
      kernel_rfl
    intro s42 s43 s44 s45 s49 s50 s51 s52 s53 s54 s55 s48 s56 s57 s11 s12 s58 s59 s60 s61 s62 s63 s6 s13 s64 s65 s66 s67 s71 s72 s73 s74 s75 s76 s77 s70 s78 s79 s80 s81 s82 s83 s84 s85 s86 s87 s88 s89 s90 s91 s92 s93 s94 s95 s96 s97 s98 s99 s100 s101 s102 s103 s104 s105 s106 s107 s108 s109 s110 s111 s68 s69 s46 s47 s10 hP
    replace hP := asBool_elim hP
    obtain ⟨t6, rfl, hP⟩ := hP
    replace hP := asInt_elim hP
    obtain ⟨t10, rfl, hP⟩ := hP
    apply turnInto (hstep n t6 t10 [(.int .u8 t0), (.slice t1 t1l 0), (.slice t2 t2l 0), undef, undef, undef, (.bool t6), (.pointer t7), (.pointer t8), (.slice (some ⟨t9, 0, none⟩) t9l 0), (.int .i64 t10), s11, s12, s13, undef, undef, undef, (.slice t17 t17l 0), (.int .i64 t18), (.bool t19), (.bool false), (.slice t21 t21l 0), (.int .i64 t22), (.bool t23), (.bool false), undef, (.tuple #[(.pointer t26_0), (.pointer t26_1)]), (.int .u8 t27), (.int .u8 t28), (.int .i64 t29), (.tuple #[(.pointer t30_0), (.pointer t30_1)]), (.pointer t31), (.pointer t32), (.pointer t33), (.bool t34), (.bool false), (.pointer t36), (.bool t37), (.bool false), (.slice t39 t39l 0), (.int .i64 t40), (.slice (some ⟨t41, 0, none⟩) t41l 0), s42, s43, s44, s45, s46, s47, s48, s49, s50, s51, s52, s53, s54, s55, s56, s57, s58, s59, s60, s61, s62, s63, s64, s65, s66, s67, s68, s69, s70, s71, s72, s73, s74, s75, s76, s77, s78, s79, s80, s81, s82, s83, s84, s85, s86, s87, s88, s89, s90, s91, s92, s93, s94, s95, s96, s97, s98, s99, s100, s101, s102, s103, s104, s105, s106, s107, s108, s109, s110, s111, undef, undef, undef, undef, undef, undef, undef, undef, undef, undef, undef, undef, undef, undef, undef, undef, undef, undef, undef, undef, undef, undef, undef, undef, undef, undef, undef, undef] H hP)
    kernel_rfl
  · apply turnInto h0
    kernel_rfl

theorem use_crossbarlaw18_BloomFinds_2 {t0 : Int} {t1 : Option Addr} {t1l : Nat} {t2 : Option Addr} {t2l : Nat} {t7 : Option Addr} {t8 : Option Addr} {t9 : Nat} {t9l : Nat} {t10 : Value} {t11 : Value} {t12 : Value} {t13 : Value} {t17 : Option Addr} {t17l : Nat} {t18 : Int} {t19 : Bool} {t21 : Option Addr} {t21l : Nat} {t22 : Int} {t23 : Bool} {t26_0 : Option Addr} {t26_1 : Option Addr} {t27 : Int} {t28 : Int} {t29 : Int} {t30_0 : Option Addr} {t30_1 : Option Addr} {t31 : Option Addr} {t32 : Option Addr} {t33 : Option Addr} {t34 : Bool} {t36 : Option Addr} {t37 : Bool} {t39 : Option Addr} {t39l : Nat} {t40 : Int} {t41 : Nat} {t41l : Nat} {t42 : Value} {t43 : Value} {t44 : Value} {t45 : Value} {t46 : Value} {t47 : Value} {t48 : Value} {t49 : Value} {t50 : Value} {t51 : Value} {t52 : Value} {t53 : Value} {t54 : Value} {t55 : Value} {t56 : Value} {t57 : Value} {t58 : Value} {t59 : Value} {t60 : Value} {t61 : Value} {t62 : Value} {t63 : Value} {t64 : Value} {t65 : Value} {t66 : Value} {t67 : Value} {t68 : Value} {t69 : Value} {t70 : Value} {t71 : Value} {t72 : Value} {t73 : Value} {t74 : Value} {t75 : Value} {t76 : Value} {t77 : Value} {t78 : Value} {t79 : Value} {t80 : Value} {t81 : Value} {t82 : Value} {t83 : Value} {t84 : Value} {t85 : Value} {t86 : Value} {t87 : Value} {t88 : Value} {t89 : Value} {t90 : Value} {t91 : Value} {t92 : Value} {t93 : Value} {t94 : Value} {t95 : Value} {t96 : Value} {t97 : Value} {t98 : Value} {t99 : Value} {t100 : Value} {t101 : Value} {t102 : Value} {t103 : Value} {t104 : Value} {t105 : Value} {t106 : Value} {t107 : Value} {t108 : Value} {t109 : Value} {t110 : Value} {t111 : Value} {K0 : Fr → Heap → Prop} {K1 : Fr → Heap → Prop} {t6 : Bool} {t14 : Int} {t15 : Value} {t16 : Value} {t112 : Value} {t113 : Value} {t114 : Value} {t115 : Value} {t116 : Value} {t117 : Value} {t118 : Value} {t119 : Value} {t120 : Value} {t121 : Value} {t122 : Value} {t123 : Value} {t124 : Value} {t125 : Value} {t126 : Value} {t127 : Value} {t128 : Value} {t129 : Value} {t130 : Value} {t131 : Value} {t132 : Value} {t133 : Value} {H : Heap} (I : Nat → Bool → Int → Heap → Prop) (n : Nat) (h0 : I n t6 t14 H)
    (hstep : ∀ (n : Nat) (t6 : Bool) (t14 : Int) (ys : Fr) (H : Heap), I n t6 t14 H →
    (
 bif (decide (t14 < ((t1l : Nat) : Int))) then (
 inB t14 t1l ∧
 asRow t1 fun i1 i2 =>
 ∃ n3, H.cell i1 (i2 + (t14.toNat * 1)) = some (.int .u64 n3) ∧
 CA en F.crossbarlaw18_once [(.pointer t7), (.pointer t8), (.int .i64 8), (.int .u64 n3)] H fun v4 H5 =>
 ∃ n6, ∃ b7, v4 = (.tuple #[(.int .i64 n6), (.bool b7)]) ∧
 bif (n6 != 0) then (
 K1 [(.int .u8 t0), (.slice t1 t1l 0), (.slice t2 t2l 0), undef, undef, undef, (.bool false), (.pointer t7), (.pointer t8), (.slice (some ⟨t9, 0, none⟩) t9l 0), t10, t11, t12, t13, (.int .i64 t14), (.int .i64 n6), (.bool b7), (.slice t17 t17l 0), (.int .i64 t18), (.bool t19), (.bool false), (.slice t21 t21l 0), (.int .i64 t22), (.bool t23), (.bool false), undef, (.tuple #[(.pointer t26_0), (.pointer t26_1)]), (.int .u8 t27), (.int .u8 t28), (.int .i64 t29), (.tuple #[(.pointer t30_0), (.pointer t30_1)]), (.pointer t31), (.pointer t32), (.pointer t33), (.bool t34), (.bool false), (.pointer t36), (.bool t37), (.bool false), (.slice t39 t39l 0), (.int .i64 t40), (.slice (some ⟨t41, 0, none⟩) t41l 0), t42, t43, t44, t45, t46, t47, t48, t49, t50, t51, t52, t53, t54, t55, t56, t57, t58, t59, t60, t61, t62, t63, t64, t65, t66, t67, t68, t69, t70, t71, t72, t73, t74, t75, t76, t77, t78, t79, t80, t81, t82, t83, t84, t85, t86, t87, t88, t89, t90, t91, t92, t93, t94, t95, t96, t97, t98, t99, t100, t101, t102, t103, t104, t105, t106, t107, t108, t109, t110, t111, (.int .i64 t14), (.slice t1 t1l 0), (.int .i64 ((t1l : Nat) : Int)), (.bool true), (ys.getD 116 undef), (ys.getD 117 undef), (.tuple #[(.int .i64 n6), (.bool b7)]), (.pointer t7), (.pointer t8), (.slice t1 t1l 0), (.int .i64 t14), (.pointer (some ⟨i1, (i2 + (t14.toNat * 1)), none⟩)), (.int .u64 n3), (.tuple #[(.int .i64 n6), (.bool b7)]), (.int .i64 n6), (.bool b7), (.int .i64 n6), (.bool (n6 != 0)), (.bool true), undef, undef, (.bool true), undef, undef, undef, undef, undef, undef] H5)
 else (
 bif (!b7) then (
 K1 [(.int .u8 t0), (.slice t1 t1l 0), (.slice t2 t2l 0), undef, undef, undef, (.bool false), (.pointer t7), (.pointer t8), (.slice (some ⟨t9, 0, none⟩) t9l 0), t10, t11, t12, t13, (.int .i64 t14), (.int .i64 n6), (.bool b7), (.slice t17 t17l 0), (.int .i64 t18), (.bool t19), (.bool false), (.slice t21 t21l 0), (.int .i64 t22), (.bool t23), (.bool false), undef, (.tuple #[(.pointer t26_0), (.pointer t26_1)]), (.int .u8 t27), (.int .u8 t28), (.int .i64 t29), (.tuple #[(.pointer t30_0), (.pointer t30_1)]), (.pointer t31), (.pointer t32), (.pointer t33), (.bool t34), (.bool false), (.pointer t36), (.bool t37), (.bool false), (.slice t39 t39l 0), (.int .i64 t40), (.slice (some ⟨t41, 0, none⟩) t41l 0), t42, t43, t44, t45, t46, t47, t48, t49, t50, t51, t52, t53, t54, t55, t56, t57, t58, t59, t60, t61, t62, t63, t64, t65, t66, t67, t68, t69, t70, t71, t72, t73, t74, t75, t76, t77, t78, t79, t80, t81, t82, t83, t84, t85, t86, t87, t88, t89, t90, t91, t92, t93, t94, t95, t96, t97, t98, t99, t100, t101, t102, t103, t104, t105, t106, t107, t108, t109, t110, t111, (.int .i64 t14), (.slice t1 t1l 0), (.int .i64 ((t1l : Nat) : Int)), (.bool true), (ys.getD 116 undef), (ys.getD 117 undef), (.tuple #[(.int .i64 n6), (.bool b7)]), (.pointer t7), (.pointer t8), (.slice t1 t1l 0), (.int .i64 t14), (.pointer (some ⟨i1, (i2 + (t14.toNat * 1)), none⟩)), (.int .u64 n3), (.tuple #[(.int .i64 n6), (.bool b7)]), (.int .i64 n6), (.bool b7), (.int .i64 n6), (.bool (n6 != 0)), (.bool false), (.bool b7), (.bool (!b7)), (.bool true), undef, undef, undef, undef, undef, undef] H5)
 else (
 ∃ k8, k8 < n ∧
 I k8 t6 (IntKind.i64.wrap (t14 + 1)) H5)))
 else (
 K0 [(.int .u8 t0), (.slice t1 t1l 0), (.slice t2 t2l 0), undef, undef, undef, (.bool t6), (.pointer t7), (.pointer t8), (.slice (some ⟨t9, 0, none⟩) t9l 0), t10, t11, t12, t13, (.int .i64 t14), (ys.getD 15 undef), (ys.getD 16 undef), (.slice t17 t17l 0), (.int .i64 t18), (.bool t19), (.bool false), (.slice t21 t21l 0), (.int .i64 t22), (.bool t23), (.bool false), undef, (.tuple #[(.pointer t26_0), (.pointer t26_1)]), (.int .u8 t27), (.int .u8 t28), (.int .i64 t29), (.tuple #[(.pointer t30_0), (.pointer t30_1)]), (.pointer t31), (.pointer t32), (.pointer t33), (.bool t34), (.bool false), (.pointer t36), (.bool t37), (.bool false), (.slice t39 t39l 0), (.int .i64 t40), (.slice (some ⟨t41, 0, none⟩) t41l 0), t42, t43, t44, t45, t46, t47, t48, t49, t50, t51, t52, t53, t54, t55, t56, t57, t58, t59, t60, t61, t62, t63, t64, t65, t66, t67, t68, t69, t70, t71, t72, t73, t74, t75, t76, t77, t78, t79, t80, t81, t82, t83, t84, t85, t86, t87, t88, t89, t90, t91, t92, t93, t94, t95, t96, t97, t98, t99, t100, t101, t102, t103, t104, t105, t106, t107, t108, t109, t110, t111, (.int .i64 t14), (.slice t1 t1l 0), (.int .i64 ((t1l : Nat) : Int)), (.bool false), (ys.getD 116 undef), (ys.getD 117 undef), (ys.getD 118 undef), (ys.getD 119 undef), (ys.getD 120 undef), (ys.getD 121 undef), (ys.getD 122 undef), (ys.getD 123 undef), (ys.getD 124 undef), (ys.getD 125 undef), (ys.getD 126 undef), (ys.getD 127 undef), (ys.getD 128 undef), (ys.getD 129 undef), (ys.getD 130 undef), (ys.getD 131 undef), (ys.getD 132 undef), (ys.getD 133 undef), undef, undef, undef, undef, undef, undef] H))) :
    LA en L_crossbarlaw18_BloomFinds_2 [(.int .u8 t0), (.slice t1 t1l 0), (.slice t2 t2l 0), undef, undef, undef, (.bool t6), (.pointer t7), (.pointer t8), (.slice (some ⟨t9, 0, none⟩) t9l 0), t10, t11, t12, t13, (.int .i64 t14), t15, t16, (.slice t17 t17l 0), (.int .i64 t18), (.bool t19), (.bool false), (.slice t21 t21l 0), (.int .i64 t22), (.bool t23), (.bool false), undef, (.tuple #[(.pointer t26_0), (.pointer t26_1)]), (.int .u8 t27), (.int .u8 t28), (.int .i64 t29), (.tuple #[(.pointer t30_0), (.pointer t30_1)]), (.pointer t31), (.pointer t32), (.pointer t33), (.bool t34), (.bool false), (.pointer t36), (.bool t37), (.bool false), (.slice t39 t39l 0), (.int .i64 t40), (.slice (some ⟨t41, 0, none⟩) t41l 0), t42, t43, t44, t45, t46, t47, t48, t49, t50, t51, t52, t53, t54, t55, t56, t57, t58, t59, t60, t61, t62, t63, t64, t65, t66, t67, t68, t69, t70, t71, t72, t73, t74, t75, t76, t77, t78, t79, t80, t81, t82, t83, t84, t85, t86, t87, t88, t89, t90, t91, t92, t93, t94, t95, t96, t97, t98, t99, t100, t101, t102, t103, t104, t105, t106, t107, t108, t109, t110, t111, t112, t113, t114, t115, t116, t117, t118, t119, t120, t121, t122, t123, t124, t125, t126, t127, t128, t129, t130, t131, t132, t133, undef, undef, undef, undef, undef, undef] H [(X.exit 4, K0), (X.ret, K1)] := by
  refine LA_rule (Z := []) (fun m xs H' => AS.asBool (xs.getD 6 undef) fun t6 => AS.asInt .i64 (xs.getD 14 undef) fun t14 => I m t6 t14 H') ?_ n H ?_
  · intro n H
    suffices hs : ∀ s112 : Value, ∀ s113 : Value, ∀ s114 : Value, ∀ s115 : Value, ∀ s119 : Value, ∀ s120 : Value, ∀ s121 : Value, ∀ s122 : Value, ∀ s123 : Value, ∀ s124 : Value, ∀ s125 : Value, ∀ s118 : Value, ∀ s126 : Value, ∀ s127 : Value, ∀ s15 : Value, ∀ s16 : Value, ∀ s128 : Value, ∀ s129 : Value, ∀ s130 : Value, ∀ s131 : Value, ∀ s132 : Value, ∀ s133 : Value, ∀ s6 : Value, ∀ s116 : Value, ∀ s117 : Value, ∀ s14 : Value, ((AS.asBool s6 fun t6 => AS.asInt .i64 s14 fun t14 => I n t6 t14 H) → wpCode en L_crossbarlaw18_BloomFinds_2 [] [(.int .u8 t0), (.slice t1 t1l 0), (.slice t2 t2l 0), undef, undef, undef, s6, (.pointer t7), (.pointer t8), (.slice (some ⟨t9, 0, none⟩) t9l 0), t10, t11, t12, t13, s14, s15, s16, (.slice t17 t17l 0), (.int .i64 t18), (.bool t19), (.bool false), (.slice t21 t21l 0), (.int .i64 t22), (.bool t23), (.bool false), undef, (.tuple #[(.pointer t26_0), (.pointer t26_1)]), (.int .u8 t27), (.int .u8 t28), (.int .i64 t29), (.tuple #[(.pointer t30_0), (.pointer t30_1)]), (.pointer t31), (.pointer t32), (.pointer t33), (.bool t34), (.bool false), (.pointer t36), (.bool t37), (.bool false), (.slice t39 t39l 0), (.int .i64 t40), (.slice (some ⟨t41, 0, none⟩) t41l 0), t42, t43, t44, t45, t46, t47, t48, t49, t50, t51, t52, t53, t54, t55, t56, t57, t58, t59, t60, t61, t62, t63, t64, t65, t66, t67, t68, t69, t70, t71, t72, t73, t74, t75, t76, t77, t78, t79, t80, t81, t82, t83, t84, t85, t86, t87, t88, t89, t90, t91, t92, t93, t94, t95, t96, t97, t98, t99, t100, t101, t102, t103, t104, t105, t106, t107, t108, t109, t110, t111, s112, s113, s114, s115, s116, s117, s118, s119, s120, s121, s122, s123, s124, s125, s126, s127, s128, s129, s130, s131, s132, s133, undef, undef, undef, undef, undef, undef] H (loopQ (fun m xs H' => AS.asBool (xs.getD 6 undef) fun t6 => AS.asInt .i64 (xs.getD 14 undef) fun t14 => I m t6 t14 H') n [(X.exit 4, K0), (X.ret, K1)])) by
      apply turnInto hs
      kernel_rfl
    intro s112 s113 s114 s115 s119 s120 s121 s122 s123 s124 s125 s118 s126 s127 s15 s16 s128 s129 s130 s131 s132 s133 s6 s116 s117 s14 hP
    replace hP := asBool_elim hP
    obtain ⟨t6, rfl, hP⟩ := hP
    replace hP := asInt_elim hP
    obtain ⟨t14, rfl, hP⟩ := hP
    apply turnInto (hstep n t6 t14 [(.int .u8 t0), (.slice t1 t1l 0), (.slice t2 t2l 0), undef, undef, undef, (.bool t6), (.pointer t7), (.pointer t8), (.slice (some ⟨t9, 0, none⟩) t9l 0), t10, t11, t12, t13, (.int .i64 t14), s15, s16, (.slice t17 t17l 0), (.int .i64 t18), (.bool t19), (.bool false), (.slice t21 t21l 0), (.int .i64 t22), (.bool t23), (.bool false), undef, (.tuple #[(.pointer t26_0), (.pointer t26_1)]), (.int .u8 t27), (.int .u8 t28), (.int .i64 t29), (.tuple #[(.pointer t30_0), (.pointer t30_1)]), (.pointer t31), (.pointer t32), (.pointer t33), (.bool t34), (.bool false), (.pointer t36), (.bool t37), (.bool false), (.slice t39 t39l 0), (.int .i64 t40), (.slice (some ⟨t41, 0, none⟩) t41l 0), t42, t43, t44, t45, t46, t47, t48, t49, t50, t51, t52, t53, t54, t55, t56, t57, t58, t59, t60, t61, t62, t63, t64, t65, t66, t67, t68, t69, t70, t71, t72, t73, t74, t75, t76, t77, t78, t79, t80, t81, t82, t83, t84, t85, t86, t87, t88, t89, t90, t91, t92, t93, t94, t95, t96, t97, t98, t99, t100, t101, t102, t103, t104, t105, t106, t107, t108, t109, t110, t111, s112, s113, s114, s115, s116, s117, s118, s119, s120, s121, s122, s123, s124, s125, s126, s127, s128, s129, s130, s131, s132, s133, undef, undef, undef, undef, undef, undef] H hP)
    kernel_rfl
  · apply turnInto h0
    kernel_rfl

theorem use_crossbarlaw18_BloomFinds_1 {t0 : Int} {t1 : Option Addr} {t1l : Nat} {t2 : Option Addr} {t2l : Nat} {t7 : Option Addr} {t8 : Option Addr} {t9 : Nat} {t9l : Nat} {t10 : Int} {t17 : Option Addr} {t17l : Nat} {t18 : Int} {t19 : Bool} {t21 : Option Addr} {t21l : Nat} {t22 : Int} {t23 : Bool} {t26_0 : Option Addr} {t26_1 : Option Addr} {t27 : Int} {t28 : Int} {t29 : Int} {t30_0 : Option Addr} {t30_1 : Option Addr} {t31 : Option Addr} {t32 : Option Addr} {t33 : Option Addr} {t34 : Bool} {t36 : Option Addr} {t37 : Bool} {t39 : Option Addr} {t39l : Nat} {t40 : Int} {t41 : Nat} {t41l : Nat} {t42 : Int} {t43 : Option Addr} {t43l : Nat} {t44 : Int} {t46 : Value} {t47 : Value} {t48_0 : Int} {t48_1 : Bool} {t49 : Option Addr} {t50 : Option Addr} {t51 : Option Addr} {t51l : Nat} {t52 : Int} {t53 : Nat} {t53o : Nat} {t54 : Int} {t55_0 : Int} {t55_1 : Bool} {t56 : Int} {t57 : Bool} {t58 : Int} {t59 : Bool} {t61 : Bool} {t62 : Bool} {K0 : Fr → Heap → Prop} {K1 : Fr → Heap → Prop} {t6 : Bool} {t13 : Int} {t11 : Value} {t12 : Value} {t64 : Value} {t65 : Value} {t66 : Value} {t67 : Value} {t68 : Value} {t69 : Value} {t70 : Value} {t71 : Value} {t72 : Value} {t73 : Value} {t74 : Value} {t75 : Value} {t76 : Value} {t77 : Value} {t78 : Value} {t79 : Value} {t80 : Value} {t81 : Value} {t82 : Value} {t83 : Value} {t84 : Value} {t85 : Value} {t86 : Value} {t87 : Value} {t88 : Value} {t89 : Value} {t90 : Value} {t91 : Value} {t92 : Value} {t93 : Value} {t94 : Value} {t95 : Value} {t96 : Value} {t97 : Value} {t98 : Value} {t99 : Value} {t100 : Value} {t101 : Value} {t102 : Value} {t103 : Value} {t104 : Value} {t105 : Value} {t106 : Value} {t107 : Value} {t108 : Value} {t109 : Value} {t110 : Value} {t111 : Value} {H : Heap} (I : Nat → Bool → Int → Heap → Prop) (n : Nat) (h0 : I n t6 t13 H)
    (hstep : ∀ (n : Nat) (t6 : Bool) (t13 : Int) (ys : Fr) (H : Heap), I n t6 t13 H →
    (
 bif (decide (t13 < ((t2l : Nat) : Int))) then (
 inB t13 t2l ∧
 asRow t2 fun i1 i2 =>
 ∃ n3, H.cell i1 (i2 + (t13.toNat * 1)) = some (.int .u64 n3) ∧
 CA en F.crossbarlaw18_once [(.pointer t7), (.pointer t8), (.int .i64 8), (.int .u64 n3)] H fun v4 H5 =>
 ∃ n6, ∃ b7, v4 = (.tuple #[(.int .i64 n6), (.bool b7)]) ∧
 bif (!b7) then (
 (
 K1 [(.int .u8 t0), (.slice t1 t1l 0), (.slice t2 t2l 0), undef, undef, undef, (.bool false), (.pointer t7), (.pointer t8), (.slice (some ⟨t9, 0, none⟩) t9l 0), (.int .i64 t10), (.int .i64 n6), (.bool b7), (.int .i64 t13), undef, undef, undef, (.slice t17 t17l 0), (.int .i64 t18), (.bool t19), (.bool false), (.slice t21 t21l 0), (.int .i64 t22), (.bool t23), (.bool false), undef, (.tuple #[(.pointer t26_0), (.pointer t26_1)]), (.int .u8 t27), (.int .u8 t28), (.int .i64 t29), (.tuple #[(.pointer t30_0), (.pointer t30_1)]), (.pointer t31), (.pointer t32), (.pointer t33), (.bool t34), (.bool false), (.pointer t36), (.bool t37), (.bool false), (.slice t39 t39l 0), (.int .i64 t40), (.slice (some ⟨t41, 0, none⟩) t41l 0), (.int .i64 t42), (.slice t43 t43l 0), (.int .i64 t44), (.bool true), t46, t47, (.tuple #[(.int .i64 t48_0), (.bool t48_1)]), (.pointer t49), (.pointer t50), (.slice t51 t51l 0), (.int .i64 t52), (.pointer (some ⟨t53, t53o, none⟩)), (.int .u64 t54), (.tuple #[(.int .i64 t55_0), (.bool t55_1)]), (.int .i64 t56), (.bool t57), (.int .i64 t58), (.bool t59), (.bool false), (.bool t61), (.bool t62), (.bool false), (.int .i64 t13), (.slice t2 t2l 0), (.int .i64 ((t2l : Nat) : Int)), (.bool true), (ys.getD 68 undef), (ys.getD 69 undef), (.tuple #[(.int .i64 n6), (.bool b7)]), (.pointer t7), (.pointer t8), (.slice t2 t2l 0), (.int .i64 t13), (.pointer (some ⟨i1, (i2 + (t13.toNat * 1)), none⟩)), (.int .u64 n3), (.tuple #[(.int .i64 n6), (.bool b7)]), (.int .i64 n6), (.bool b7), (.bool b7), (.bool (!b7)), (.bool true), undef, undef, undef, undef, undef, undef, undef, undef, (.bool true), (.bool true), undef, undef, undef, undef, undef, undef, undef, undef, undef, undef, undef, undef, undef, (.bool true), (ys.getD 107 undef), (ys.getD 108 undef), (ys.getD 109 undef), (ys.getD 110 undef), (ys.getD 111 undef), undef, undef, undef, undef, undef, undef, undef, undef, undef, undef, undef, undef, undef, undef, undef, undef, undef, undef, undef, undef, undef, undef, undef, undef, undef, undef, undef, undef] (H5.bump 27)) ∧
 True)
 else (
 inB t13 t9l ∧
 ∃ b8, (H5.bump 27).cell t9 (0 + (t13.toNat * 1)) = some (.bool b8) ∧
 bif b8 then (
 bif (n6 != 0) then (
 (
 K1 [(.int .u8 t0), (.slice t1 t1l 0), (.slice t2 t2l 0), undef, undef, undef, (.bool false), (.pointer t7), (.pointer t8), (.slice (some ⟨t9, 0, none⟩) t9l 0), (.int .i64 t10), (.int .i64 n6), (.bool b7), (.int .i64 t13), undef, undef, undef, (.slice t17 t17l 0), (.int .i64 t18), (.bool t19), (.bool false), (.slice t21 t21l 0), (.int .i64 t22), (.bool t23), (.bool false), undef, (.tuple #[(.pointer t26_0), (.pointer t26_1)]), (.int .u8 t27), (.int .u8 t28), (.int .i64 t29), (.tuple #[(.pointer t30_0), (.pointer t30_1)]), (.pointer t31), (.pointer t32), (.pointer t33), (.bool t34), (.bool false), (.pointer t36), (.bool t37), (.bool false), (.slice t39 t39l 0), (.int .i64 t40), (.slice (some ⟨t41, 0, none⟩) t41l 0), (.int .i64 t42), (.slice t43 t43l 0), (.int .i64 t44), (.bool true), t46, t47, (.tuple #[(.int .i64 t48_0), (.bool t48_1)]), (.pointer t49), (.pointer t50), (.slice t51 t51l 0), (.int .i64 t52), (.pointer (some ⟨t53, t53o, none⟩)), (.int .u64 t54), (.tuple #[(.int .i64 t55_0), (.bool t55_1)]), (.int .i64 t56), (.bool t57), (.int .i64 t58), (.bool t59), (.bool false), (.bool t61), (.bool t62), (.bool false), (.int .i64 t13), (.slice t2 t2l 0), (.int .i64 ((t2l : Nat) : Int)), (.bool true), (ys.getD 68 undef), (ys.getD 69 undef), (.tuple #[(.int .i64 n6), (.bool b7)]), (.pointer t7), (.pointer t8), (.slice t2 t2l 0), (.int .i64 t13), (.pointer (some ⟨i1, (i2 + (t13.toNat * 1)), none⟩)), (.int .u64 n3), (.tuple #[(.int .i64 n6), (.bool b7)]), (.int .i64 n6), (.bool b7), (.bool b7), (.bool (!b7)), (.bool false), (.slice (some ⟨t9, 0, none⟩) t9l 0), (.int .i64 t13), (.pointer (some ⟨t9, (0 + (t13.toNat * 1)), none⟩)), (.bool b8), (.bool true), (.int .i64 n6), (.bool (n6 != 0)), (.bool (n6 != 0)), (.bool (n6 != 0)), (.bool true), undef, undef, undef, undef, undef, undef, undef, undef, undef, undef, undef, undef, undef, (.bool true), (ys.getD 107 undef), (ys.getD 108 undef), (ys.getD 109 undef), (ys.getD 110 undef), (ys.getD 111 undef), undef, undef, undef, undef, undef, undef, undef, undef, undef, undef, undef, undef, undef, undef, undef, undef, undef, undef, undef, undef, undef, undef, undef, undef, undef, undef, undef, undef] (H5.bump 27)) ∧
 True)
 else (
 inB t13 t2l ∧
 asRow t2 fun i9 i10 =>
 ∃ n11, (H5.bump 27).cell i9 (i10 + (t13.toNat * 1)) = some (.int .u64 n11) ∧
 inB t10 t1l ∧
 asRow t1 fun i12 i13 =>
 ∃ n14, (H5.bump 27).cell i12 (i13 + (t10.toNat * 1)) = some (.int .u64 n14) ∧
 bif (n11 == n14) then (
 (
 bif (n6 != 0) then (
 K1 [(.int .u8 t0), (.slice t1 t1l 0), (.slice t2 t2l 0), undef, undef, undef, (.bool false), (.pointer t7), (.pointer t8), (.slice (some ⟨t9, 0, none⟩) t9l 0), (.int .i64 t10), (.int .i64 n6), (.bool b7), (.int .i64 t13), undef, undef, undef, (.slice t17 t17l 0), (.int .i64 t18), (.bool t19), (.bool false), (.slice t21 t21l 0), (.int .i64 t22), (.bool t23), (.bool false), undef, (.tuple #[(.pointer t26_0), (.pointer t26_1)]), (.int .u8 t27), (.int .u8 t28), (.int .i64 t29), (.tuple #[(.pointer t30_0), (.pointer t30_1)]), (.pointer t31), (.pointer t32), (.pointer t33), (.bool t34), (.bool false), (.pointer t36), (.bool t37), (.bool false), (.slice t39 t39l 0), (.int .i64 t40), (.slice (some ⟨t41, 0, none⟩) t41l 0), (.int .i64 t42), (.slice t43 t43l 0), (.int .i64 t44), (.bool true), t46, t47, (.tuple #[(.int .i64 t48_0), (.bool t48_1)]), (.pointer t49), (.pointer t50), (.slice t51 t51l 0), (.int .i64 t52), (.pointer (some ⟨t53, t53o, none⟩)), (.int .u64 t54), (.tuple #[(.int .i64 t55_0), (.bool t55_1)]), (.int .i64 t56), (.bool t57), (.int .i64 t58), (.bool t59), (.bool false), (.bool t61), (.bool t62), (.bool false), (.int .i64 t13), (.slice t2 t2l 0), (.int .i64 ((t2l : Nat) : Int)), (.bool true), (ys.getD 68 undef), (ys.getD 69 undef), (.tuple #[(.int .i64 n6), (.bool b7)]), (.pointer t7), (.pointer t8), (.slice t2 t2l 0), (.int .i64 t13), (.pointer (some ⟨i1, (i2 + (t13.toNat * 1)), none⟩)), (.int .u64 n3), (.tuple #[(.int .i64 n6), (.bool b7)]), (.int .i64 n6), (.bool b7), (.bool b7), (.bool (!b7)), (.bool false), (.slice (some ⟨t9, 0, none⟩) t9l 0), (.int .i64 t13), (.pointer (some ⟨t9, (0 + (t13.toNat * 1)), none⟩)), (.bool b8), (.bool true), (.int .i64 n6), (.bool (n6 != 0)), (.bool (n6 != 0)), (.bool (n6 != 0)), (.bool false), (.slice t2 t2l 0), (.int .i64 t13), (.pointer (some ⟨i9, (i10 + (t13.toNat * 1)), none⟩)), (.int .u64 n11), (.slice t1 t1l 0), (.int .i64 t10), (.pointer (some ⟨i12, (i13 + (t10.toNat * 1)), none⟩)), (.int .u64 n14), (.bool (n11 == n14)), (.bool true), (.int .i64 n6), (.bool (n6 != 0)), (.bool (n6 != 0)), (.bool true), (ys.getD 107 undef), (ys.getD 108 undef), (ys.getD 109 undef), (ys.getD 110 undef), (ys.getD 111 undef), undef, undef, undef, undef, undef, undef, undef, undef, undef, undef, undef, undef, undef, undef, undef, undef, undef, undef, undef, undef, undef, undef, undef, undef, undef, undef, undef, undef] (H5.bump 27))
 else (
 inB t13 t9l ∧
 stc (H5.bump 27) t9 (0 + (t13.toNat * 1)) [(.bool (n6 == 0))] fun H15 =>
 ∃ k16, k16 < n ∧
 I k16 t6 (IntKind.i64.wrap (t13 + 1)) H15)) ∧
 True)
 else (
 (
 inB t13 t9l ∧
 stc (H5.bump 27) t9 (0 + (t13.toNat * 1)) [(.bool (n6 == 0))] fun H17 =>
 ∃ k18, k18 < n ∧
 I k18 t6 (IntKind.i64.wrap (t13 + 1)) H17) ∧
 True)))
 else (
 inB t13 t2l ∧
 asRow t2 fun i19 i20 =>
 ∃ n21, (H5.bump 27).cell i19 (i20 + (t13.toNat * 1)) = some (.int .u64 n21) ∧
 inB t10 t1l ∧
 asRow t1 fun i22 i23 =>
 ∃ n24, (H5.bump 27).cell i22 (i23 + (t10.toNat * 1)) = some (.int .u64 n24) ∧
 bif (n21 == n24) then (
 (
 bif (n6 != 0) then (
 K1 [(.int .u8 t0), (.slice t1 t1l 0), (.slice t2 t2l 0), undef, undef, undef, (.bool false), (.pointer t7), (.pointer t8), (.slice (some ⟨t9, 0, none⟩) t9l 0), (.int .i64 t10), (.int .i64 n6), (.bool b7), (.int .i64 t13), undef, undef, undef, (.slice t17 t17l 0), (.int .i64 t18), (.bool t19), (.bool false), (.slice t21 t21l 0), (.int .i64 t22), (.bool t23), (.bool false), undef, (.tuple #[(.pointer t26_0), (.pointer t26_1)]), (.int .u8 t27), (.int .u8 t28), (.int .i64 t29), (.tuple #[(.pointer t30_0), (.pointer t30_1)]), (.pointer t31), (.pointer t32), (.pointer t33), (.bool t34), (.bool false), (.pointer t36), (.bool t37), (.bool false), (.slice t39 t39l 0), (.int .i64 t40), (.slice (some ⟨t41, 0, none⟩) t41l 0), (.int .i64 t42), (.slice t43 t43l 0), (.int .i64 t44), (.bool true), t46, t47, (.tuple #[(.int .i64 t48_0), (.bool t48_1)]), (.pointer t49), (.pointer t50), (.slice t51 t51l 0), (.int .i64 t52), (.pointer (some ⟨t53, t53o, none⟩)), (.int .u64 t54), (.tuple #[(.int .i64 t55_0), (.bool t55_1)]), (.int .i64 t56), (.bool t57), (.int .i64 t58), (.bool t59), (.bool false), (.bool t61), (.bool t62), (.bool false), (.int .i64 t13), (.slice t2 t2l 0), (.int .i64 ((t2l : Nat) : Int)), (.bool true), (ys.getD 68 undef), (ys.getD 69 undef), (.tuple #[(.int .i64 n6), (.bool b7)]), (.pointer t7), (.pointer t8), (.slice t2 t2l 0), (.int .i64 t13), (.pointer (some ⟨i1, (i2 + (t13.toNat * 1)), none⟩)), (.int .u64 n3), (.tuple #[(.int .i64 n6), (.bool b7)]), (.int .i64 n6), (.bool b7), (.bool b7), (.bool (!b7)), (.bool false), (.slice (some ⟨t9, 0, none⟩) t9l 0), (.int .i64 t13), (.pointer (some ⟨t9, (0 + (t13.toNat * 1)), none⟩)), (.bool b8), (.bool false), undef, undef, (.bool false), (.bool false), (.bool false), (.slice t2 t2l 0), (.int .i64 t13), (.pointer (some ⟨i19, (i20 + (t13.toNat * 1)), none⟩)), (.int .u64 n21), (.slice t1 t1l 0), (.int .i64 t10), (.pointer (some ⟨i22, (i23 + (t10.toNat * 1)), none⟩)), (.int .u64 n24), (.bool (n21 == n24)), (.bool true), (.int .i64 n6), (.bool (n6 != 0)), (.bool (n6 != 0)), (.bool true), (ys.getD 107 undef), (ys.getD 108 undef), (ys.getD 109 undef), (ys.getD 110 undef), (ys.getD 111 undef), undef, undef, undef, undef, undef, undef, undef, undef, undef, undef, undef, undef, undef, undef, undef, undef, undef, undef, undef, undef, undef, undef, undef, undef, undef, undef, undef, undef] (H5.bump 27))
 else (
 inB t13 t9l ∧
 stc (H5.bump 27) t9 (0 + (t13.toNat * 1)) [(.bool (n6 == 0))] fun H25 =>
 ∃ k26, k26 < n ∧
 I k26 t6 (IntKind.i64.wrap (t13 + 1)) H25)) ∧
 True)
 else (
 (
 inB t13 t9l ∧
 stc (H5.bump 27) t9 (0 + (t13.toNat * 1)) [(.bool (n6 == 0))] fun H27 =>
 ∃ k28, k28 < n ∧
 I k28 t6 (IntKind.i64.wrap (t13 + 1)) H27) ∧
 True))))
 else (
 K0 [(.int .u8 t0), (.slice t1 t1l 0), (.slice t2 t2l 0), undef, undef, undef, (.bool t6), (.pointer t7), (.pointer t8), (.slice (some ⟨t9, 0, none⟩) t9l 0), (.int .i64 t10), (ys.getD 11 undef), (ys.getD 12 undef), (.int .i64 t13), undef, undef, undef, (.slice t17 t17l 0), (.int .i64 t18), (.bool t19), (.bool false), (.slice t21 t21l 0), (.int .i64 t22), (.bool t23), (.bool false), undef, (.tuple #[(.pointer t26_0), (.pointer t26_1)]), (.int .u8 t27), (.int .u8 t28), (.int .i64 t29), (.tuple #[(.pointer t30_0), (.pointer t30_1)]), (.pointer t31), (.pointer t32), (.pointer t33), (.bool t34), (.bool false), (.pointer t36), (.bool t37), (.bool false), (.slice t39 t39l 0), (.int .i64 t40), (.slice (some ⟨t41, 0, none⟩) t41l 0), (.int .i64 t42), (.slice t43 t43l 0), (.int .i64 t44), (.bool true), t46, t47, (.tuple #[(.int .i64 t48_0), (.bool t48_1)]), (.pointer t49), (.pointer t50), (.slice t51 t51l 0), (.int .i64 t52), (.pointer (some ⟨t53, t53o, none⟩)), (.int .u64 t54), (.tuple #[(.int .i64 t55_0), (.bool t55_1)]), (.int .i64 t56), (.bool t57), (.int .i64 t58), (.bool t59), (.bool false), (.bool t61), (.bool t62), (.bool false), (.int .i64 t13), (.slice t2 t2l 0), (.int .i64 ((t2l : Nat) : Int)), (.bool false), (ys.getD 68 undef), (ys.getD 69 undef), (ys.getD 70 undef), (ys.getD 71 undef), (ys.getD 72 undef), (ys.getD 73 undef), (ys.getD 74 undef), (ys.getD 75 undef), (ys.getD 76 undef), (ys.getD 77 undef), (ys.getD 78 undef), (ys.getD 79 undef), (ys.getD 80 undef), (ys.getD 81 undef), (ys.getD 82 undef), (ys.getD 83 undef), (ys.getD 84 undef), (ys.getD 85 undef), (ys.getD 86 undef), (ys.getD 87 undef), (ys.getD 88 undef), (ys.getD 89 undef), (ys.getD 90 undef), (ys.getD 91 undef), (ys.getD 92 undef), (ys.getD 93 undef), (ys.getD 94 undef), (ys.getD 95 undef), (ys.getD 96 undef), (ys.getD 97 undef), (ys.getD 98 undef), (ys.getD 99 undef), (ys.getD 100 undef), (ys.getD 101 undef), (ys.getD 102 undef), (ys.getD 103 undef), (ys.getD 104 undef), (ys.getD 105 undef), (ys.getD 106 undef), (ys.getD 107 undef), (ys.getD 108 undef), (ys.getD 109 undef), (ys.getD 110 undef), (ys.getD 111 undef), undef, undef, undef, undef, undef, undef, undef, undef, undef, undef, undef, undef, undef, undef, undef, undef, undef, undef, undef, undef, undef, undef, undef, undef, undef, undef, undef, undef] H))) :
    LA en L_crossbarlaw18_BloomFinds_1 [(.int .u8 t0), (.slice t1 t1l 0), (.slice t2 t2l 0), undef, undef, undef, (.bool t6), (.pointer t7), (.pointer t8), (.slice (some ⟨t9, 0, none⟩) t9l 0), (.int .i64 t10), t11, t12, (.int .i64 t13), undef, undef, undef, (.slice t17 t17l 0), (.int .i64 t18), (.bool t19), (.bool false), (.slice t21 t21l 0), (.int .i64 t22), (.bool t23), (.bool false), undef, (.tuple #[(.pointer t26_0), (.pointer t26_1)]), (.int .u8 t27), (.int .u8 t28), (.int .i64 t29), (.tuple #[(.pointer t30_0), (.pointer t30_1)]), (.pointer t31), (.pointer t32), (.pointer t33), (.bool t34), (.bool false), (.pointer t36), (.bool t37), (.bool false), (.slice t39 t39l 0), (.int .i64 t40), (.slice (some ⟨t41, 0, none⟩) t41l 0), (.int .i64 t42), (.slice t43 t43l 0), (.int .i64 t44), (.bool true), t46, t47, (.tuple #[(.int .i64 t48_0), (.bool t48_1)]), (.pointer t49), (.pointer t50), (.slice t51 t51l 0), (.int .i64 t52), (.pointer (some ⟨t53, t53o, none⟩)), (.int .u64 t54), (.tuple #[(.int .i64 t55_0), (.bool t55_1)]), (.int .i64 t56), (.bool t57), (.int .i64 t58), (.bool t59), (.bool false), (.bool t61), (.bool t62), (.bool false), t64, t65, t66, t67, t68, t69, t70, t71, t72, t73, t74, t75, t76, t77, t78, t79, t80, t81, t82, t83, t84, t85, t86, t87, t88, t89, t90, t91, t92, t93, t94, t95, t96, t97, t98, t99, t100, t101, t102, t103, t104, t105, t106, t107, t108, t109, t110, t111, undef, undef, undef, undef, undef, undef, undef, undef, undef, undef, undef, undef, undef, undef, undef, undef, undef, undef, undef, undef, undef, undef, undef, undef, undef, undef, undef, undef] H [(X.exit 2, K0), (X.ret, K1)] := by
  refine LA_rule (Z := []) (fun m xs H' => AS.asBool (xs.getD 6 undef) fun t6 => AS.asInt .i64 (xs.getD 13 undef) fun t13 => I m t6 t13 H') ?_ n H ?_
  · intro n H
    suffices hs : ∀ s64 : Value, ∀ s65 : Value, ∀ s66 : Value, ∀ s67 : Value, ∀ s71 : Value, ∀ s72 : Value, ∀ s73 : Value, ∀ s74 : Value, ∀ s75 : Value, ∀ s76 : Value, ∀ s77 : Value, ∀ s70 : Value, ∀ s78 : Value, ∀ s79 : Value, ∀ s11 : Value, ∀ s12 : Value, ∀ s80 : Value, ∀ s81 : Value, ∀ s82 : Value, ∀ s83 : Value, ∀ s84 : Value, ∀ s85 : Value, ∀ s86 : Value, ∀ s87 : Value, ∀ s88 : Value, ∀ s89 : Value, ∀ s90 : Value, ∀ s91 : Value, ∀ s92 : Value, ∀ s93 : Value, ∀ s94 : Value, ∀ s95 : Value, ∀ s96 : Value, ∀ s97 : Value, ∀ s98 : Value, ∀ s99 : Value, ∀ s100 : Value, ∀ s101 : Value, ∀ s102 : Value, ∀ s103 : Value, ∀ s104 : Value, ∀ s105 : Value, ∀ s106 : Value, ∀ s6 : Value, ∀ s107 : Value, ∀ s108 : Value, ∀ s109 : Value, ∀ s110 : Value, ∀ s111 : Value, ∀ s68 : Value, ∀ s69 : Value, ∀ s13 : Value, ((AS.asBool s6 fun t6 => AS.asInt .i64 s13 fun t13 => I n t6 t13 H) → wpCode en L_crossbarlaw18_BloomFinds_1 [] [(.int .u8 t0), (.slice t1 t1l 0), (.slice t2 t2l 0), undef, undef, undef, s6, (.pointer t7), (.pointer t8), (.slice (some ⟨t9, 0, none⟩) t9l 0), (.int .i64 t10), s11, s12, s13, undef, undef, undef, (.slice t17 t17l 0), (.int .i64 t18), (.bool t19), (.bool false), (.slice t21 t21l 0), (.int .i64 t22), (.bool t23), (.bool false), undef, (.tuple #[(.pointer t26_0), (.pointer t26_1)]), (.int .u8 t27), (.int .u8 t28), (.int .i64 t29), (.tuple #[(.pointer t30_0), (.pointer t30_1)]), (.pointer t31), (.pointer t32), (.pointer t33), (.bool t34), (.bool false), (.pointer t36), (.bool t37), (.bool false), (.slice t39 t39l 0), (.int .i64 t40), (.slice (some ⟨t41, 0, none⟩) t41l 0), (.int .i64 t42), (.slice t43 t43l 0), (.int .i64 t44), (.bool true), t46, t47, (.tuple #[(.int .i64 t48_0), (.bool t48_1)]), (.pointer t49), (.pointer t50), (.slice t51 t51l 0), (.int .i64 t52), (.pointer (some ⟨t53, t53o, none⟩)), (.int .u64 t54), (.tuple #[(.int .i64 t55_0), (.bool t55_1)]), (.int .i64 t56), (.bool t57), (.int .i64 t58), (.bool t59), (.bool false), (.bool t61), (.bool t62), (.bool false), s64, s65, s66, s67, s68, s69, s70, s71, s72, s73, s74, s75, s76, s77, s78, s79, s80, s81, s82, s83, s84, s85, s86, s87, s88, s89, s90, s91, s92, s93, s94, s95, s96, s97, s98, s99, s100, s101, s102, s103, s104, s105, s106, s107, s108, s109, s110, s111, undef, undef, undef, undef, undef, undef, undef, undef, undef, undef, undef, undef, undef, undef, undef, undef, undef, undef, undef, undef, undef, undef, undef, undef, undef, undef, undef, undef] H (loopQ (fun m xs H' => AS.asBool (xs.getD 6 undef) fun t6 => AS.asInt .i64 (xs.getD 13 undef) fun t13 => I m t6 t13 H') n [(X.exit 2, K0), (X.ret, K1)])) by
      apply turnInto hs
      kernel_rfl
    intro s64 s65 s66 s67 s71 s72 s73 s74 s75 s76 s77 s70 s78 s79 s11 s12 s80 s81 s82 s83 s84 s85 s86 s87 s88 s89 s90 s91 s92 s93 s94 s95 s96 s97 s98 s99 s100 s101 s102 s103 s104 s105 s106 s6 s107 s108 s109 s110 s111 s68 s69 s13 hP
    replace hP := asBool_elim hP
    obtain ⟨t6, rfl, hP⟩ := hP
    replace hP := asInt_elim hP
    obtain ⟨t13, rfl, hP⟩ := hP
    apply turnInto (hstep n t6 t13 [(.int .u8 t0), (.slice t1 t1l 0), (.slice t2 t2l 0), undef, undef, undef, (.bool t6), (.pointer t7), (.pointer t8), (.slice (some ⟨t9, 0, none⟩) t9l 0), (.int .i64 t10), s11, s12, (.int .i64 t13), undef, undef, undef, (.slice t17 t17l 0), (.int .i64 t18), (.bool t19), (.bool false), (.slice t21 t21l 0), (.int .i64 t22), (.bool t23), (.bool false), undef, (.tuple #[(.pointer t26_0), (.pointer t26_1)]), (.int .u8 t27), (.int .u8 t28), (.int .i64 t29), (.tuple #[(.pointer t30_0), (.pointer t30_1)]), (.pointer t31), (.pointer t32), (.pointer t33), (.bool t34), (.bool false), (.pointer t36), (.bool t37), (.bool false), (.slice t39 t39l 0), (.int .i64 t40), (.slice (some ⟨t41, 0, none⟩) t41l 0), (.int .i64 t42), (.slice t43 t43l 0), (.int .i64 t44), (.bool true), t46, t47, (.tuple #[(.int .i64 t48_0), (.bool t48_1)]), (.pointer t49), (.pointer t50), (.slice t51 t51l 0), (.int .i64 t52), (.pointer (some ⟨t53, t53o, none⟩)), (.int .u64 t54), (.tuple #[(.int .i64 t55_0), (.bool t55_1)]), (.int .i64 t56), (.bool t57), (.int .i64 t58), (.bool t59), (.bool false), (.bool t61), (.bool t62), (.bool false), s64, s65, s66, s67, s68, s69, s70, s71, s72, s73, s74, s75, s76, s77, s78, s79, s80, s81, s82, s83, s84, s85, s86, s87, s88, s89, s90, s91, s92, s93, s94, s95, s96, s97, s98, s99, s100, s101, s102, s103, s104, s105, s106, s107, s108, s109, s110, s111, undef, undef, undef, undef, undef, undef, undef, undef, undef, undef, undef, undef, undef, undef, undef, undef, undef, undef, undef, undef, undef, undef, undef, undef, undef, undef, undef, undef] H hP)
    kernel_rfl
  · apply turnInto h0
    kernel_rfl


/-! crossbarlaw18_BloomKnown -/
noncomputable def L_crossbarlaw18_BloomKnown_0 : Code := loopAt Go.Proofs.Try.f9 0
noncomputable def L_crossbarlaw18_BloomKnown_1 : Code := loopAt Go.Proofs.Try.f9 1

/-! crossbarlaw18_BloomOrder -/
noncomputable def L_crossbarlaw18_BloomOrder_0 : Code := loopAt Go.Proofs.Try.f10 0
noncomputable def L_crossbarlaw18_BloomOrder_1 : Code := loopAt Go.Proofs.Try.f10 1
noncomputable def L_crossbarlaw18_BloomOrder_2 : Code := loopAt Go.Proofs.Try.f10 2

theorem vc_crossbarlaw18_BloomOrder (x0 : Int) (x1 : Option Addr) (x1l : Nat) (x2 : Option Addr) (x2l : Nat) (H : Heap) (R : Value → Heap → Prop) :
    (
 bif (decide (((x1l : Nat) : Int) > 100)) then (
 CA en F.crossbarlaw18_known [] H fun v1 H2 =>
 ∃ b3, v1 = (.bool b3) ∧
 R (.bool b3) H2)
 else (
 bif (decide (((x2l : Nat) : Int) > 40)) then (
 CA en F.crossbarlaw18_known [] H fun v4 H5 =>
 ∃ b6, v4 = (.bool b6) ∧
 R (.bool b6) H5)
 else (
 nz 6 ∧
 nn (Int.tmod x0 6) ∧
 CA en F.crossbarlaw18_made [(.int .i64 (IntKind.i64.wrap (1 * 2 ^ (min (Int.tmod x0 6).toNat 64))))] H fun v7 H8 =>
 ∃ a9, ∃ a10, v7 = (.tuple #[(.pointer a9), (.pointer a10)]) ∧
 nz 6 ∧
 nn (Int.tmod x0 6) ∧
 CA en F.crossbarlaw18_made [(.int .i64 (IntKind.i64.wrap (1 * 2 ^ (min (Int.tmod x0 6).toNat 64))))] H8 fun v11 H12 =>
 ∃ a13, ∃ a14, v11 = (.tuple #[(.pointer a13), (.pointer a14)]) ∧
 bif a9.isNone then (
 R (.bool false) H12)
 else (
 bif a10.isNone then (
 R (.bool false) H12)
 else (
 bif a13.isNone then (
 R (.bool false) H12)
 else (
 bif a14.isNone then (
 R (.bool false) H12)
 else (
 LA en L_crossbarlaw18_BloomOrder_0 [(.int .u8 x0), (.slice x1 x1l 0), (.slice x2 x2l 0), undef, undef, undef, (.bool false), (.pointer a9), (.pointer a10), (.pointer a13), (.pointer a14), (.int .i64 0), undef, undef, undef, undef, undef, undef, undef, undef, undef, undef, (.slice x1 x1l 0), (.int .i64 ((x1l : Nat) : Int)), (.bool (decide (((x1l : Nat) : Int) > 100))), (.bool false), (.slice x2 x2l 0), (.int .i64 ((x2l : Nat) : Int)), (.bool (decide (((x2l : Nat) : Int) > 40))), (.bool false), undef, (.tuple #[(.pointer a9), (.pointer a10)]), (.int .u8 x0), (.int .u8 (Int.tmod x0 6)), (.int .i64 (IntKind.i64.wrap (1 * 2 ^ (min (Int.tmod x0 6).toNat 64)))), (.tuple #[(.pointer a9), (.pointer a10)]), (.pointer a9), (.pointer a10), (.tuple #[(.pointer a13), (.pointer a14)]), (.int .u8 x0), (.int .u8 (Int.tmod x0 6)), (.int .i64 (IntKind.i64.wrap (1 * 2 ^ (min (Int.tmod x0 6).toNat 64)))), (.tuple #[(.pointer a13), (.pointer a14)]), (.pointer a13), (.pointer a14), (.pointer a9), (.bool a9.isNone), (.bool false), (.pointer a10), (.bool a10.isNone), (.bool a10.isNone), (.bool false), (.pointer a13), (.bool a13.isNone), (.bool a13.isNone), (.bool false), (.pointer a14), (.bool a14.isNone), (.bool false), undef, undef, undef, undef, undef, undef, undef, undef, undef, undef, undef, undef, undef, undef, undef, undef, undef, undef, undef, undef, undef, undef, undef, undef, undef, undef, undef, undef, undef, undef, undef, undef, undef, undef, undef, undef, undef, undef, undef, undef, undef, undef, undef, undef, undef, undef, undef, undef, undef, undef, undef, undef, undef, undef, undef, undef, undef, undef, undef, undef, undef, undef, undef, undef, undef, undef, undef, undef, undef, undef, undef, undef, undef, undef, undef, undef, undef, undef, undef, undef, undef, undef, undef, undef, undef, undef, undef, undef, undef, undef, undef, undef, undef, undef, undef, undef, undef, undef, undef, undef] H12 [(X.exit 0, fun (x15 : Fr) (H16 : Heap) =>
 AS.asBool (x15.getD 6 undef) fun b17 =>
 LA en L_crossbarlaw18_BloomOrder_1 [(.int .u8 x0), (.slice x1 x1l 0), (.slice x2 x2l 0), undef, undef, undef, (.bool b17), (.pointer a9), (.pointer a10), (.pointer a13), (.pointer a14), (x15.getD 11 undef), (x15.getD 12 undef), (x15.getD 13 undef), (x15.getD 14 undef), (x15.getD 15 undef), (.int .i64 0), undef, undef, undef, undef, undef, (.slice x1 x1l 0), (.int .i64 ((x1l : Nat) : Int)), (.bool (decide (((x1l : Nat) : Int) > 100))), (.bool false), (.slice x2 x2l 0), (.int .i64 ((x2l : Nat) : Int)), (.bool (decide (((x2l : Nat) : Int) > 40))), (.bool false), undef, (.tuple #[(.pointer a9), (.pointer a10)]), (.int .u8 x0), (.int .u8 (Int.tmod x0 6)), (.int .i64 (IntKind.i64.wrap (1 * 2 ^ (min (Int.tmod x0 6).toNat 64)))), (.tuple #[(.pointer a9), (.pointer a10)]), (.pointer a9), (.pointer a10), (.tuple #[(.pointer a13), (.pointer a14)]), (.int .u8 x0), (.int .u8 (Int.tmod x0 6)), (.int .i64 (IntKind.i64.wrap (1 * 2 ^ (min (Int.tmod x0 6).toNat 64)))), (.tuple #[(.pointer a13), (.pointer a14)]), (.pointer a13), (.pointer a14), (.pointer a9), (.bool a9.isNone), (.bool false), (.pointer a10), (.bool a10.isNone), (.bool a10.isNone), (.bool false), (.pointer a13), (.bool a13.isNone), (.bool a13.isNone), (.bool false), (.pointer a14), (.bool a14.isNone), (.bool false), (x15.getD 59 undef), (x15.getD 60 undef), (x15.getD 61 undef), (x15.getD 62 undef), (x15.getD 63 undef), (x15.getD 64 undef), (x15.getD 65 undef), (x15.getD 66 undef), (x15.getD 67 undef), (x15.getD 68 undef), (x15.getD 69 undef), (x15.getD 70 undef), (x15.getD 71 undef), (x15.getD 72 undef), (x15.getD 73 undef), (x15.getD 74 undef), (x15.getD 75 undef), (x15.getD 76 undef), (x15.getD 77 undef), (x15.getD 78 undef), (x15.getD 79 undef), (x15.getD 80 undef), (x15.getD 81 undef), (x15.getD 82 undef), (x15.getD 83 undef), (x15.getD 84 undef), (x15.getD 85 undef), (x15.getD 86 undef), (x15.getD 87 undef), (x15.getD 88 undef), (x15.getD 89 undef), (x15.getD 90 undef), (x15.getD 91 undef), (x15.getD 92 undef), (x15.getD 93 undef), (x15.getD 94 undef), (x15.getD 95 undef), (x15.getD 96 undef), (x15.getD 97 undef), (x15.getD 98 undef), (x15.getD 99 undef), (x15.getD 100 undef), (x15.getD 101 undef), (x15.getD 102 undef), undef, undef, undef, undef, undef, undef, undef, undef, undef, undef, undef, undef, undef, undef, undef, undef, undef, undef, undef, undef, undef, undef, undef, undef, undef, undef, undef, undef, undef, undef, undef, undef, undef, undef, undef, undef, undef, undef, undef, undef, undef, undef, undef, undef, undef, undef, undef, undef, undef, undef, undef, undef, undef, undef, undef, undef] H16 [(X.exit 2, fun (x18 : Fr) (H19 : Heap) =>
 LA en L_crossbarlaw18_BloomOrder_2 [(.int .u8 x0), (.slice x1 x1l 0), (.slice x2 x2l 0), undef, undef, undef, (.bool b17), (.pointer a9), (.pointer a10), (.pointer a13), (.pointer a14), (x15.getD 11 undef), (x15.getD 12 undef), (x15.getD 13 undef), (x15.getD 14 undef), (x15.getD 15 undef), (x18.getD 16 undef), (.int .i64 0), undef, undef, undef, undef, (.slice x1 x1l 0), (.int .i64 ((x1l : Nat) : Int)), (.bool (decide (((x1l : Nat) : Int) > 100))), (.bool false), (.slice x2 x2l 0), (.int .i64 ((x2l : Nat) : Int)), (.bool (decide (((x2l : Nat) : Int) > 40))), (.bool false), undef, (.tuple #[(.pointer a9), (.pointer a10)]), (.int .u8 x0), (.int .u8 (Int.tmod x0 6)), (.int .i64 (IntKind.i64.wrap (1 * 2 ^ (min (Int.tmod x0 6).toNat 64)))), (.tuple #[(.pointer a9), (.pointer a10)]), (.pointer a9), (.pointer a10), (.tuple #[(.pointer a13), (.pointer a14)]), (.int .u8 x0), (.int .u8 (Int.tmod x0 6)), (.int .i64 (IntKind.i64.wrap (1 * 2 ^ (min (Int.tmod x0 6).toNat 64)))), (.tuple #[(.pointer a13), (.pointer a14)]), (.pointer a13), (.pointer a14), (.pointer a9), (.bool a9.isNone), (.bool false), (.pointer a10), (.bool a10.isNone), (.bool a10.isNone), (.bool false), (.pointer a13), (.bool a13.isNone), (.bool a13.isNone), (.bool false), (.pointer a14), (.bool a14.isNone), (.bool false), (x15.getD 59 undef), (x15.getD 60 undef), (x15.getD 61 undef), (x15.getD 62 undef), (x15.getD 63 undef), (x15.getD 64 undef), (x15.getD 65 undef), (x15.getD 66 undef), (x15.getD 67 undef), (x15.getD 68 undef), (x15.getD 69 undef), (x15.getD 70 undef), (x15.getD 71 undef), (x15.getD 72 undef), (x15.getD 73 undef), (x15.getD 74 undef), (x15.getD 75 undef), (x15.getD 76 undef), (x15.getD 77 undef), (x15.getD 78 undef), (x15.getD 79 undef), (x15.getD 80 undef), (x15.getD 81 undef), (x15.getD 82 undef), (x15.getD 83 undef), (x15.getD 84 undef), (x15.getD 85 undef), (x15.getD 86 undef), (x15.getD 87 undef), (x15.getD 88 undef), (x15.getD 89 undef), (x15.getD 90 undef), (x15.getD 91 undef), (x15.getD 92 undef), (x15.getD 93 undef), (x15.getD 94 undef), (x15.getD 95 undef), (x15.getD 96 undef), (x15.getD 97 undef), (x15.getD 98 undef), (x15.getD 99 undef), (x15.getD 100 undef), (x15.getD 101 undef), (x15.getD 102 undef), (x18.getD 103 undef), (x18.getD 104 undef), (x18.getD 105 undef), (x18.getD 106 undef), (x18.getD 107 undef), (x18.getD 108 undef), (x18.getD 109 undef), (x18.getD 110 undef), (x18.getD 111 undef), (x18.getD 112 undef), (x18.getD 113 undef), (x18.getD 114 undef), (x18.getD 115 undef), undef, undef, undef, undef, undef, undef, undef, undef, undef, undef, undef, undef, undef, undef, undef, undef, undef, undef, undef, undef, undef, undef, undef, undef, undef, undef, undef, undef, undef, undef, undef, undef, undef, undef, undef, undef, undef, undef, undef, undef, undef, undef, undef] H19 [(X.exit 4, fun (x20 : Fr) (H21 : Heap) =>
 AS.asBool (x20.getD 6 undef) fun b22 =>
 CA en F.smem_Mem_Bad [(.pointer a9)] H21 fun v23 H24 =>
 ∃ n25, v23 = (.int .i64 n25) ∧
 bif (n25 == 0) then (
 CA en F.crossbarlaw18_known [] H24 fun v26 H27 =>
 ∃ b28, v26 = (.bool b28) ∧
 R (.bool b28) H27)
 else (
 R (.bool false) H24)),
 (X.ret, fun (x29 : Fr) (H30 : Heap) =>
 AS.asBool (x29.getD 6 undef) fun b31 =>
 R (.bool b31) H30)])]),
 (X.ret, fun (x32 : Fr) (H33 : Heap) =>
 AS.asBool (x32.getD 6 undef) fun b34 =>
 R (.bool b34) H33)]))))))) →
    CA en F.crossbarlaw18_BloomOrder [(.int .u8 x0), (.slice x1 x1l 0), (.slice x2 x2l 0)] H R := by
  intro h
  refine wpFn_ok (Z := [[(6, (.bool false))], [], [(6, (.bool false))]]) (fn := Go.Proofs.Try.f10) ?_ ?_ ?_
  · kernel_rfl
  · kernel_rfl
  · apply turnInto h
    kernel_rfl

theorem use_crossbarlaw18_BloomOrder_0 {t0 : Int} {t1 : Option Addr} {t1l : Nat} {t2 : Option Addr} {t2l : Nat} {t7 : Option Addr} {t8 : Option Addr} {t9 : Option Addr} {t10 : Option Addr} {t22 : Option Addr} {t22l : Nat} {t23 : Int} {t24 : Bool} {t26 : Option Addr} {t26l : Nat} {t27 : Int} {t28 : Bool} {t31_0 : Option Addr} {t31_1 : Option Addr} {t32 : Int} {t33 : Int} {t34 : Int} {t35_0 : Option Addr} {t35_1 : Option Addr} {t36 : Option Addr} {t37 : Option Addr} {t38_0 : Option Addr} {t38_1 : Option Addr} {t39 : Int} {t40 : Int} {t41 : Int} {t42_0 : Option Addr} {t42_1 : Option Addr} {t43 : Option Addr} {t44 : Option Addr} {t45 : Option Addr} {t46 : Bool} {t48 : Option Addr} {t49 : Bool} {t50 : Bool} {t52 : Option Addr} {t53 : Bool} {t54 : Bool} {t56 : Option Addr} {t57 : Bool} {K0 : Fr → Heap → Prop} {K1 : Fr → Heap → Prop} {t6 : Bool} {t11 : Int} {t12 : Value} {t13 : Value} {t14 : Value} {t15 : Value} {t59 : Value} {t60 : Value} {t61 : Value} {t62 : Value} {t63 : Value} {t64 : Value} {t65 : Value} {t66 : Value} {t67 : Value} {t68 : Value} {t69 : Value} {t70 : Value} {t71 : Value} {t72 : Value} {t73 : Value} {t74 : Value} {t75 : Value} {t76 : Value} {t77 : Value} {t78 : Value} {t79 : Value} {t80 : Value} {t81 : Value} {t82 : Value} {t83 : Value} {t84 : Value} {t85 : Value} {t86 : Value} {t87 : Value} {t88 : Value} {t89 : Value} {t90 : Value} {t91 : Value} {t92 : Value} {t93 : Value} {t94 : Value} {t95 : Value} {t96 : Value} {t97 : Value} {t98 : Value} {t99 : Value} {t100 : Value} {t101 : Value} {t102 : Value} {H : Heap} (I : Nat → Bool → Int → Heap → Prop) (n : Nat) (h0 : I n t6 t11 H)
    (hstep : ∀ (n : Nat) (t6 : Bool) (t11 : Int) (ys : Fr) (H : Heap), I n t6 t11 H →
    (
 bif (decide (t11 < ((t1l : Nat) : Int))) then (
 inB t11 t1l ∧
 asRow t1 fun i1 i2 =>
 ∃ n3, H.cell i1 (i2 + (t11.toNat * 1)) = some (.int .u64 n3) ∧
 CA en F.crossbarlaw18_once [(.pointer t7), (.pointer t8), (.int .i64 6), (.int .u64 n3)] H fun v4 H5 =>
 ∃ n6, ∃ b7, v4 = (.tuple #[(.int .i64 n6), (.bool b7)]) ∧
 inB (IntKind.i64.wrap ((IntKind.i64.wrap (((t1l : Nat) : Int) - 1)) - t11)) t1l ∧
 asRow t1 fun i8 i9 =>
 ∃ n10, H5.cell i8 (i9 + ((IntKind.i64.wrap ((IntKind.i64.wrap (((t1l : Nat) : Int) - 1)) - t11)).toNat * 1)) = some (.int .u64 n10) ∧
 CA en F.crossbarlaw18_once [(.pointer t9), (.pointer t10), (.int .i64 6), (.int .u64 n10)] H5 fun v11 H12 =>
 ∃ n13, ∃ b14, v11 = (.tuple #[(.int .i64 n13), (.bool b14)]) ∧
 bif (!b7) then (
 K1 [(.int .u8 t0), (.slice t1 t1l 0), (.slice t2 t2l 0), undef, undef, undef, (.bool false), (.pointer t7), (.pointer t8), (.pointer t9), (.pointer t10), (.int .i64 t11), (.int .i64 n6), (.bool b7), (.int .i64 n13), (.bool b14), undef, undef, undef, undef, undef, undef, (.slice t22 t22l 0), (.int .i64 t23), (.bool t24), (.bool false), (.slice t26 t26l 0), (.int .i64 t27), (.bool t28), (.bool false), undef, (.tuple #[(.pointer t31_0), (.pointer t31_1)]), (.int .u8 t32), (.int .u8 t33), (.int .i64 t34), (.tuple #[(.pointer t35_0), (.pointer t35_1)]), (.pointer t36), (.pointer t37), (.tuple #[(.pointer t38_0), (.pointer t38_1)]), (.int .u8 t39), (.int .u8 t40), (.int .i64 t41), (.tuple #[(.pointer t42_0), (.pointer t42_1)]), (.pointer t43), (.pointer t44), (.pointer t45), (.bool t46), (.bool false), (.pointer t48), (.bool t49), (.bool t50), (.bool false), (.pointer t52), (.bool t53), (.bool t54), (.bool false), (.pointer t56), (.bool t57), (.bool false), (.int .i64 t11), (.slice t1 t1l 0), (.int .i64 ((t1l : Nat) : Int)), (.bool true), (ys.getD 63 undef), (ys.getD 64 undef), (.tuple #[(.int .i64 n6), (.bool b7)]), (.pointer t7), (.pointer t8), (.slice t1 t1l 0), (.int .i64 t11), (.pointer (some ⟨i1, (i2 + (t11.toNat * 1)), none⟩)), (.int .u64 n3), (.tuple #[(.int .i64 n6), (.bool b7)]), (.int .i64 n6), (.bool b7), (.tuple #[(.int .i64 n13), (.bool b14)]), (.pointer t9), (.pointer t10), (.slice t1 t1l 0), (.slice t1 t1l 0), (.int .i64 ((t1l : Nat) : Int)), (.int .i64 (IntKind.i64.wrap (((t1l : Nat) : Int) - 1))), (.int .i64 t11), (.int .i64 (IntKind.i64.wrap ((IntKind.i64.wrap (((t1l : Nat) : Int) - 1)) - t11))), (.pointer (some ⟨i8, (i9 + ((IntKind.i64.wrap ((IntKind.i64.wrap (((t1l : Nat) : Int) - 1)) - t11)).toNat * 1)), none⟩)), (.int .u64 n10), (.tuple #[(.int .i64 n13), (.bool b14)]), (.int .i64 n13), (.bool b14), (.bool b7), (.bool (!b7)), (.bool true), undef, undef, (.bool true), (.bool true), undef, undef, (.bool true), (.bool true), undef, undef, (.bool true), undef, undef, undef, undef, undef, undef, undef, undef, undef, undef, undef, undef, undef, undef, undef, undef, undef, undef, undef, undef, undef, undef, undef, undef, undef, undef, undef, undef, undef, undef, undef, undef, undef, undef, undef, undef, undef, undef, undef, undef, undef, undef, undef, undef, undef, undef, undef, undef, undef, undef, undef, undef, undef, undef, undef, undef] H12)
 else (
 bif (!b14) then (
 K1 [(.int .u8 t0), (.slice t1 t1l 0), (.slice t2 t2l 0), undef, undef, undef, (.bool false), (.pointer t7), (.pointer t8), (.pointer t9), (.pointer t10), (.int .i64 t11), (.int .i64 n6), (.bool b7), (.int .i64 n13), (.bool b14), undef, undef, undef, undef, undef, undef, (.slice t22 t22l 0), (.int .i64 t23), (.bool t24), (.bool false), (.slice t26 t26l 0), (.int .i64 t27), (.bool t28), (.bool false), undef, (.tuple #[(.pointer t31_0), (.pointer t31_1)]), (.int .u8 t32), (.int .u8 t33), (.int .i64 t34), (.tuple #[(.pointer t35_0), (.pointer t35_1)]), (.pointer t36), (.pointer t37), (.tuple #[(.pointer t38_0), (.pointer t38_1)]), (.int .u8 t39), (.int .u8 t40), (.int .i64 t41), (.tuple #[(.pointer t42_0), (.pointer t42_1)]), (.pointer t43), (.pointer t44), (.pointer t45), (.bool t46), (.bool false), (.pointer t48), (.bool t49), (.bool t50), (.bool false), (.pointer t52), (.bool t53), (.bool t54), (.bool false), (.pointer t56), (.bool t57), (.bool false), (.int .i64 t11), (.slice t1 t1l 0), (.int .i64 ((t1l : Nat) : Int)), (.bool true), (ys.getD 63 undef), (ys.getD 64 undef), (.tuple #[(.int .i64 n6), (.bool b7)]), (.pointer t7), (.pointer t8), (.slice t1 t1l 0), (.int .i64 t11), (.pointer (some ⟨i1, (i2 + (t11.toNat * 1)), none⟩)), (.int .u64 n3), (.tuple #[(.int .i64 n6), (.bool b7)]), (.int .i64 n6), (.bool b7), (.tuple #[(.int .i64 n13), (.bool b14)]), (.pointer t9), (.pointer t10), (.slice t1 t1l 0), (.slice t1 t1l 0), (.int .i64 ((t1l : Nat) : Int)), (.int .i64 (IntKind.i64.wrap (((t1l : Nat) : Int) - 1))), (.int .i64 t11), (.int .i64 (IntKind.i64.wrap ((IntKind.i64.wrap (((t1l : Nat) : Int) - 1)) - t11))), (.pointer (some ⟨i8, (i9 + ((IntKind.i64.wrap ((IntKind.i64.wrap (((t1l : Nat) : Int) - 1)) - t11)).toNat * 1)), none⟩)), (.int .u64 n10), (.tuple #[(.int .i64 n13), (.bool b14)]), (.int .i64 n13), (.bool b14), (.bool b7), (.bool (!b7)), (.bool false), (.bool b14), (.bool (!b14)), (.bool (!b14)), (.bool true), undef, undef, (.bool true), (.bool true), undef, undef, (.bool true), undef, undef, undef, undef, undef, undef, undef, undef, undef, undef, undef, undef, undef, undef, undef, undef, undef, undef, undef, undef, undef, undef, undef, undef, undef, undef, undef, undef, undef, undef, undef, undef, undef, undef, undef, undef, undef, undef, undef, undef, undef, undef, undef, undef, undef, undef, undef, undef, undef, undef, undef, undef, undef, undef, undef, undef] H12)
 else (
 bif (n6 != 0) then (
 K1 [(.int .u8 t0), (.slice t1 t1l 0), (.slice t2 t2l 0), undef, undef, undef, (.bool false), (.pointer t7), (.pointer t8), (.pointer t9), (.pointer t10), (.int .i64 t11), (.int .i64 n6), (.bool b7), (.int .i64 n13), (.bool b14), undef, undef, undef, undef, undef, undef, (.slice t22 t22l 0), (.int .i64 t23), (.bool t24), (.bool false), (.slice t26 t26l 0), (.int .i64 t27), (.bool t28), (.bool false), undef, (.tuple #[(.pointer t31_0), (.pointer t31_1)]), (.int .u8 t32), (.int .u8 t33), (.int .i64 t34), (.tuple #[(.pointer t35_0), (.pointer t35_1)]), (.pointer t36), (.pointer t37), (.tuple #[(.pointer t38_0), (.pointer t38_1)]), (.int .u8 t39), (.int .u8 t40), (.int .i64 t41), (.tuple #[(.pointer t42_0), (.pointer t42_1)]), (.pointer t43), (.pointer t44), (.pointer t45), (.bool t46), (.bool false), (.pointer t48), (.bool t49), (.bool t50), (.bool false), (.pointer t52), (.bool t53), (.bool t54), (.bool false), (.pointer t56), (.bool t57), (.bool false), (.int .i64 t11), (.slice t1 t1l 0), (.int .i64 ((t1l : Nat) : Int)), (.bool true), (ys.getD 63 undef), (ys.getD 64 undef), (.tuple #[(.int .i64 n6), (.bool b7)]), (.pointer t7), (.pointer t8), (.slice t1 t1l 0), (.int .i64 t11), (.pointer (some ⟨i1, (i2 + (t11.toNat * 1)), none⟩)), (.int .u64 n3), (.tuple #[(.int .i64 n6), (.bool b7)]), (.int .i64 n6), (.bool b7), (.tuple #[(.int .i64 n13), (.bool b14)]), (.pointer t9), (.pointer t10), (.slice t1 t1l 0), (.slice t1 t1l 0), (.int .i64 ((t1l : Nat) : Int)), (.int .i64 (IntKind.i64.wrap (((t1l : Nat) : Int) - 1))), (.int .i64 t11), (.int .i64 (IntKind.i64.wrap ((IntKind.i64.wrap (((t1l : Nat) : Int) - 1)) - t11))), (.pointer (some ⟨i8, (i9 + ((IntKind.i64.wrap ((IntKind.i64.wrap (((t1l : Nat) : Int) - 1)) - t11)).toNat * 1)), none⟩)), (.int .u64 n10), (.tuple #[(.int .i64 n13), (.bool b14)]), (.int .i64 n13), (.bool b14), (.bool b7), (.bool (!b7)), (.bool false), (.bool b14), (.bool (!b14)), (.bool (!b14)), (.bool false), (.int .i64 n6), (.bool (n6 != 0)), (.bool (n6 != 0)), (.bool true), undef, undef, (.bool true), undef, undef, undef, undef, undef, undef, undef, undef, undef, undef, undef, undef, undef, undef, undef, undef, undef, undef, undef, undef, undef, undef, undef, undef, undef, undef, undef, undef, undef, undef, undef, undef, undef, undef, undef, undef, undef, undef, undef, undef, undef, undef, undef, undef, undef, undef, undef, undef, undef, undef, undef, undef, undef, undef, undef, undef] H12)
 else (
 bif (n13 != 0) then (
 K1 [(.int .u8 t0), (.slice t1 t1l 0), (.slice t2 t2l 0), undef, undef, undef, (.bool false), (.pointer t7), (.pointer t8), (.pointer t9), (.pointer t10), (.int .i64 t11), (.int .i64 n6), (.bool b7), (.int .i64 n13), (.bool b14), undef, undef, undef, undef, undef, undef, (.slice t22 t22l 0), (.int .i64 t23), (.bool t24), (.bool false), (.slice t26 t26l 0), (.int .i64 t27), (.bool t28), (.bool false), undef, (.tuple #[(.pointer t31_0), (.pointer t31_1)]), (.int .u8 t32), (.int .u8 t33), (.int .i64 t34), (.tuple #[(.pointer t35_0), (.pointer t35_1)]), (.pointer t36), (.pointer t37), (.tuple #[(.pointer t38_0), (.pointer t38_1)]), (.int .u8 t39), (.int .u8 t40), (.int .i64 t41), (.tuple #[(.pointer t42_0), (.pointer t42_1)]), (.pointer t43), (.pointer t44), (.pointer t45), (.bool t46), (.bool false), (.pointer t48), (.bool t49), (.bool t50), (.bool false), (.pointer t52), (.bool t53), (.bool t54), (.bool false), (.pointer t56), (.bool t57), (.bool false), (.int .i64 t11), (.slice t1 t1l 0), (.int .i64 ((t1l : Nat) : Int)), (.bool true), (ys.getD 63 undef), (ys.getD 64 undef), (.tuple #[(.int .i64 n6), (.bool b7)]), (.pointer t7), (.pointer t8), (.slice t1 t1l 0), (.int .i64 t11), (.pointer (some ⟨i1, (i2 + (t11.toNat * 1)), none⟩)), (.int .u64 n3), (.tuple #[(.int .i64 n6), (.bool b7)]), (.int .i64 n6), (.bool b7), (.tuple #[(.int .i64 n13), (.bool b14)]), (.pointer t9), (.pointer t10), (.slice t1 t1l 0), (.slice t1 t1l 0), (.int .i64 ((t1l : Nat) : Int)), (.int .i64 (IntKind.i64.wrap (((t1l : Nat) : Int) - 1))), (.int .i64 t11), (.int .i64 (IntKind.i64.wrap ((IntKind.i64.wrap (((t1l : Nat) : Int) - 1)) - t11))), (.pointer (some ⟨i8, (i9 + ((IntKind.i64.wrap ((IntKind.i64.wrap (((t1l : Nat) : Int) - 1)) - t11)).toNat * 1)), none⟩)), (.int .u64 n10), (.tuple #[(.int .i64 n13), (.bool b14)]), (.int .i64 n13), (.bool b14), (.bool b7), (.bool (!b7)), (.bool false), (.bool b14), (.bool (!b14)), (.bool (!b14)), (.bool false), (.int .i64 n6), (.bool (n6 != 0)), (.bool (n6 != 0)), (.bool false), (.int .i64 n13), (.bool (n13 != 0)), (.bool true), undef, undef, undef, undef, undef, undef, undef, undef, undef, undef, undef, undef, undef, undef, undef, undef, undef, undef, undef, undef, undef, undef, undef, undef, undef, undef, undef, undef, undef, undef, undef, undef, undef, undef, undef, undef, undef, undef, undef, undef, undef, undef, undef, undef, undef, undef, undef, undef, undef, undef, undef, undef, undef, undef, undef, undef] H12)
 else (
 ∃ k15, k15 < n ∧
 I k15 t6 (IntKind.i64.wrap (t11 + 1)) H12)))))
 else (
 K0 [(.int .u8 t0), (.slice t1 t1l 0), (.slice t2 t2l 0), undef, undef, undef, (.bool t6), (.pointer t7), (.pointer t8), (.pointer t9), (.pointer t10), (.int .i64 t11), (ys.getD 12 undef), (ys.getD 13 undef), (ys.getD 14 undef), (ys.getD 15 undef), undef, undef, undef, undef, undef, undef, (.slice t22 t22l 0), (.int .i64 t23), (.bool t24), (.bool false), (.slice t26 t26l 0), (.int .i64 t27), (.bool t28), (.bool false), undef, (.tuple #[(.pointer t31_0), (.pointer t31_1)]), (.int .u8 t32), (.int .u8 t33), (.int .i64 t34), (.tuple #[(.pointer t35_0), (.pointer t35_1)]), (.pointer t36), (.pointer t37), (.tuple #[(.pointer t38_0), (.pointer t38_1)]), (.int .u8 t39), (.int .u8 t40), (.int .i64 t41), (.tuple #[(.pointer t42_0), (.pointer t42_1)]), (.pointer t43), (.pointer t44), (.pointer t45), (.bool t46), (.bool false), (.pointer t48), (.bool t49), (.bool t50), (.bool false), (.pointer t52), (.bool t53), (.bool t54), (.bool false), (.pointer t56), (.bool t57), (.bool false), (.int .i64 t11), (.slice t1 t1l 0), (.int .i64 ((t1l : Nat) : Int)), (.bool false), (ys.getD 63 undef), (ys.getD 64 undef), (ys.getD 65 undef), (ys.getD 66 undef), (ys.getD 67 undef), (ys.getD 68 undef), (ys.getD 69 undef), (ys.getD 70 undef), (ys.getD 71 undef), (ys.getD 72 undef), (ys.getD 73 undef), (ys.getD 74 undef), (ys.getD 75 undef), (ys.getD 76 undef), (ys.getD 77 undef), (ys.getD 78 undef), (ys.getD 79 undef), (ys.getD 80 undef), (ys.getD 81 undef), (ys.getD 82 undef), (ys.getD 83 undef), (ys.getD 84 undef), (ys.getD 85 undef), (ys.getD 86 undef), (ys.getD 87 undef), (ys.getD 88 undef), (ys.getD 89 undef), (ys.getD 90 undef), (ys.getD 91 undef), (ys.getD 92 undef), (ys.getD 93 undef), (ys.getD 94 undef), (ys.getD 95 undef), (ys.getD 96 undef), (ys.getD 97 undef), (ys.getD 98 undef), (ys.getD 99 undef), (ys.getD 100 undef), (ys.getD 101 undef), (ys.getD 102 undef), undef, undef, undef, undef, undef, undef, undef, undef, undef, undef, undef, undef, undef, undef, undef, undef, undef, undef, undef, undef, undef, undef, undef, undef, undef, undef, undef, undef, undef, undef, undef, undef, undef, undef, undef, undef, undef, undef, undef, undef, undef, undef, undef, undef, undef, undef, undef, undef, undef, undef, undef, undef, undef, undef, undef, undef] H))) :
    LA en L_crossbarlaw18_BloomOrder_0 [(.int .u8 t0), (.slice t1 t1l 0), (.slice t2 t2l 0), undef, undef, undef, (.bool t6), (.pointer t7), (.pointer t8), (.pointer t9), (.pointer t10), (.int .i64 t11), t12, t13, t14, t15, undef, undef, undef, undef, undef, undef, (.slice t22 t22l 0), (.int .i64 t23), (.bool t24), (.bool false), (.slice t26 t26l 0), (.int .i64 t27), (.bool t28), (.bool false), undef, (.tuple #[(.pointer t31_0), (.pointer t31_1)]), (.int .u8 t32), (.int .u8 t33), (.int .i64 t34), (.tuple #[(.pointer t35_0), (.pointer t35_1)]), (.pointer t36), (.pointer t37), (.tuple #[(.pointer t38_0), (.pointer t38_1)]), (.int .u8 t39), (.int .u8 t40), (.int .i64 t41), (.tuple #[(.pointer t42_0), (.pointer t42_1)]), (.pointer t43), (.pointer t44), (.pointer t45), (.bool t46), (.bool false), (.pointer t48), (.bool t49), (.bool t50), (.bool false), (.pointer t52), (.bool t53), (.bool t54), (.bool false), (.pointer t56), (.bool t57), (.bool false), t59, t60, t61, t62, t63, t64, t65, t66, t67, t68, t69, t70, t71, t72, t73, t74, t75, t76, t77, t78, t79, t80, t81, t82, t83, t84, t85, t86, t87, t88, t89, t90, t91, t92, t93, t94, t95, t96, t97, t98, t99, t100, t101, t102, undef, undef, undef, undef, undef, undef, undef, undef, undef, undef, undef, undef, undef, undef, undef, undef, undef, undef, undef, undef, undef, undef, undef, undef, undef, undef, undef, undef, undef, undef, undef, undef, undef, undef, undef, undef, undef, undef, undef, undef, undef, undef, undef, undef, undef, undef, undef, undef, undef, undef, undef, undef, undef, undef, undef, undef] H [(X.exit 0, K0), (X.ret, K1)] := by
  refine LA_rule (Z := []) (fun m xs H' => AS.asBool (xs.getD 6 undef) fun t6 => AS.asInt .i64 (xs.getD 11 undef) fun t11 => I m t6 t11 H') ?_ n H ?_
  · intro n H
    suffices hs : ∀ s59 : Value, ∀ s60 : Value, ∀ s61 : Value, ∀ s62 : Value, ∀ s66 : Value, ∀ s67 : Value, ∀ s68 : Value, ∀ s69 : Value, ∀ s70 : Value, ∀ s71 : Value, ∀ s72 : Value, ∀ s65 : Value, ∀ s73 : Value, ∀ s74 : Value, ∀ s12 : Value, ∀ s13 : Value, ∀ s76 : Value, ∀ s77 : Value, ∀ s78 : Value, ∀ s79 : Value, ∀ s80 : Value, ∀ s81 : Value, ∀ s82 : Value, ∀ s83 : Value, ∀ s84 : Value, ∀ s85 : Value, ∀ s86 : Value, ∀ s75 : Value, ∀ s87 : Value, ∀ s88 : Value, ∀ s14 : Value, ∀ s15 : Value, ∀ s89 : Value, ∀ s90 : Value, ∀ s91 : Value, ∀ s92 : Value, ∀ s93 : Value, ∀ s94 : Value, ∀ s95 : Value, ∀ s96 : Value, ∀ s97 : Value, ∀ s98 : Value, ∀ s99 : Value, ∀ s100 : Value, ∀ s101 : Value, ∀ s102 : Value, ∀ s6 : Value, ∀ s63 : Value, ∀ s64 : Value, ∀ s11 : Value, ((AS.asBool s6 fun t6 => AS.asInt .i64 s11 fun t11 => I n t6 t11 H) → wpCode en L_crossbarlaw18_BloomOrder_0 [] [(.int .u8 t0), (.slice t1 t1l 0), (.slice t2 t2l 0), undef, undef, undef, s6, (.pointer t7), (.pointer t8), (.pointer t9), (.pointer t10), s11, s12, s13, s14, s15, undef, undef, undef, undef, undef, undef, (.slice t22 t22l 0), (.int .i64 t23), (.bool t24), (.bool false), (.slice t26 t26l 0), (.int .i64 t27), (.bool t28), (.bool false), undef, (.tuple #[(.pointer t31_0), (.pointer t31_1)]), (.int .u8 t32), (.int .u8 t33), (.int .i64 t34), (.tuple #[(.pointer t35_0), (.pointer t35_1)]), (.pointer t36), (.pointer t37), (.tuple #[(.pointer t38_0), (.pointer t38_1)]), (.int .u8 t39), (.int .u8 t40), (.int .i64 t41), (.tuple #[(.pointer t42_0), (.pointer t42_1)]), (.pointer t43), (.pointer t44), (.pointer t45), (.bool t46), (.bool false), (.pointer t48), (.bool t49), (.bool t50), (.bool false), (.pointer t52), (.bool t53), (.bool t54), (.bool false), (.pointer t56), (.bool t57), (.bool false), s59, s60, s61, s62, s63, s64, s65, s66, s67, s68, s69, s70, s71, s72, s73, s74, s75, s76, s77, s78, s79, s80, s81, s82, s83, s84, s85, s86, s87, s88, s89, s90, s91, s92, s93, s94, s95, s96, s97, s98, s99, s100, s101, s102, undef, undef, undef, undef, undef, undef, undef, undef, undef, undef, undef, undef, undef, undef, undef, undef, undef, undef, undef, undef, undef, undef, undef, undef, undef, undef, undef, undef, undef, undef, undef, undef, undef, undef, undef, undef, undef, undef, undef, undef, undef, undef, undef, undef, undef, undef, undef, undef, undef, undef, undef, undef, undef, undef, undef, undef] H (loopQ (fun m xs H' => AS.asBool (xs.getD 6 undef) fun t6 => AS.asInt .i64 (xs.getD 11 undef) fun t11 => I m t6 t11 H') n [(X.exit 0, K0), (X.ret, K1)])) by
      apply turnInto hs
      kernel_rfl
    intro s59 s60 s61 s62 s66 s67 s68 s69 s70 s71 s72 s65 s73 s74 s12 s13 s76 s77 s78 s79 s80 s81 s82 s83 s84 s85 s86 s75 s87 s88 s14 s15 s89 s90 s91 s92 s93 s94 s95 s96 s97 s98 s99 s100 s101 s102 s6 s63 s64 s11 hP
    replace hP := asBool_elim hP
    obtain ⟨t6, rfl, hP⟩ := hP
    replace hP := asInt_elim hP
    obtain ⟨t11, rfl, hP⟩ := hP
    apply turnInto (hstep n t6 t11 [(.int .u8 t0), (.slice t1 t1l 0), (.slice t2 t2l 0), undef, undef, undef, (.bool t6), (.pointer t7), (.pointer t8), (.pointer t9), (.pointer t10), (.int .i64 t11), s12, s13, s14, s15, undef, undef, undef, undef, undef, undef, (.slice t22 t22l 0), (.int .i64 t23), (.bool t24), (.bool false), (.slice t26 t26l 0), (.int .i64 t27), (.bool t28), (.bool false), undef, (.tuple #[(.pointer t31_0), (.pointer t31_1)]), (.int .u8 t32), (.int .u8 t33), (.int .i64 t34), (.tuple #[(.pointer t35_0), (.pointer t35_1)]), (.pointer t36), (.pointer t37), (.tuple #[(.pointer t38_0), (.pointer t38_1)]), (.int .u8 t39), (.int .u8 t40), (.int .i64 t41), (.tuple #[(.pointer t42_0), (.pointer t42_1)]), (.pointer t43), (.pointer t44), (.pointer t45), (.bool t46), (.bool false), (.pointer t48), (.bool t49), (.bool t50), (.bool false), (.pointer t52), (.bool t53), (.bool t54), (.bool false), (.pointer t56), (.bool t57), (.bool false), s59, s60, s61, s62, s63, s64, s65, s66, s67, s68, s69, s70, s71, s72, s73, s74, s75, s76, s77, s78, s79, s80, s81, s82, s83, s84, s85, s86, s87, s88, s89, s90, s91, s92, s93, s94, s95, s96, s97, s98, s99, s100, s101, s102, undef, undef, undef, undef, undef, undef, undef, undef, undef, undef, undef, undef, undef, undef, undef, undef, undef, undef, undef, undef, undef, undef, undef, undef, undef, undef, undef, undef, undef, undef, undef, undef, undef, undef, undef, undef, undef, undef, undef, undef, undef, undef, undef, undef, undef, undef, undef, undef, undef, undef, undef, undef, undef, undef, undef, undef] H hP)
    kernel_rfl
  · apply turnInto h0
    kernel_rfl

theorem use_crossbarlaw18_BloomOrder_1 {t0 : Int} {t1 : Option Addr} {t1l : Nat} {t2 : Option Addr} {t2l : Nat} {t6 : Bool} {t7 : Option Addr} {t8 : Option Addr} {t9 : Option Addr} {t10 : Option Addr} {t11 : Value} {t12 : Value} {t13 : Value} {t14 : Value} {t15 : Value} {t22 : Option Addr} {t22l : Nat} {t23 : Int} {t24 : Bool} {t26 : Option Addr} {t26l : Nat} {t27 : Int} {t28 : Bool} {t31_0 : Option Addr} {t31_1 : Option Addr} {t32 : Int} {t33 : Int} {t34 : Int} {t35_0 : Option Addr} {t35_1 : Option Addr} {t36 : Option Addr} {t37 : Option Addr} {t38_0 : Option Addr} {t38_1 : Option Addr} {t39 : Int} {t40 : Int} {t41 : Int} {t42_0 : Option Addr} {t42_1 : Option Addr} {t43 : Option Addr} {t44 : Option Addr} {t45 : Option Addr} {t46 : Bool} {t48 : Option Addr} {t49 : Bool} {t50 : Bool} {t52 : Option Addr} {t53 : Bool} {t54 : Bool} {t56 : Option Addr} {t57 : Bool} {t59 : Value} {t60 : Value} {t61 : Value} {t62 : Value} {t63 : Value} {t64 : Value} {t65 : Value} {t66 : Value} {t67 : Value} {t68 : Value} {t69 : Value} {t70 : Value} {t71 : Value} {t72 : Value} {t73 : Value} {t74 : Value} {t75 : Value} {t76 : Value} {t77 : Value} {t78 : Value} {t79 : Value} {t80 : Value} {t81 : Value} {t82 : Value} {t83 : Value} {t84 : Value} {t85 : Value} {t86 : Value} {t87 : Value} {t88 : Value} {t89 : Value} {t90 : Value} {t91 : Value} {t92 : Value} {t93 : Value} {t94 : Value} {t95 : Value} {t96 : Value} {t97 : Value} {t98 : Value} {t99 : Value} {t100 : Value} {t101 : Value} {t102 : Value} {K0 : Fr → Heap → Prop} {t16 : Int} {t103 : Value} {t104 : Value} {t105 : Value} {t106 : Value} {t107 : Value} {t108 : Value} {t109 : Value} {t110 : Value} {t111 : Value} {t112 : Value} {t113 : Value} {t114 : Value} {t115 : Value} {H : Heap} (I : Nat → Int → Heap → Prop) (n : Nat) (h0 : I n t16 H)
    (hstep : ∀ (n : Nat) (t16 : Int) (ys : Fr) (H : Heap), I n t16 H →
    (
 bif (decide (t16 < ((t1l : Nat) : Int))) then (
 inB t16 t1l ∧
 asRow t1 fun i1 i2 =>
 ∃ n3, H.cell i1 (i2 + (t16.toNat * 1)) = some (.int .u64 n3) ∧
 CA en F.crossbarlaw18_once [(.pointer t9), (.pointer t10), (.int .i64 6), (.int .u64 n3)] H fun v4 H5 =>
 ∃ n6, ∃ b7, v4 = (.tuple #[(.int .i64 n6), (.bool b7)]) ∧
 ∃ k8, k8 < n ∧
 I k8 (IntKind.i64.wrap (t16 + 2)) H5)
 else (
 K0 [(.int .u8 t0), (.slice t1 t1l 0), (.slice t2 t2l 0), undef, undef, undef, (.bool t6), (.pointer t7), (.pointer t8), (.pointer t9), (.pointer t10), t11, t12, t13, t14, t15, (.int .i64 t16), undef, undef, undef, undef, undef, (.slice t22 t22l 0), (.int .i64 t23), (.bool t24), (.bool false), (.slice t26 t26l 0), (.int .i64 t27), (.bool t28), (.bool false), undef, (.tuple #[(.pointer t31_0), (.pointer t31_1)]), (.int .u8 t32), (.int .u8 t33), (.int .i64 t34), (.tuple #[(.pointer t35_0), (.pointer t35_1)]), (.pointer t36), (.pointer t37), (.tuple #[(.pointer t38_0), (.pointer t38_1)]), (.int .u8 t39), (.int .u8 t40), (.int .i64 t41), (.tuple #[(.pointer t42_0), (.pointer t42_1)]), (.pointer t43), (.pointer t44), (.pointer t45), (.bool t46), (.bool false), (.pointer t48), (.bool t49), (.bool t50), (.bool false), (.pointer t52), (.bool t53), (.bool t54), (.bool false), (.pointer t56), (.bool t57), (.bool false), t59, t60, t61, t62, t63, t64, t65, t66, t67, t68, t69, t70, t71, t72, t73, t74, t75, t76, t77, t78, t79, t80, t81, t82, t83, t84, t85, t86, t87, t88, t89, t90, t91, t92, t93, t94, t95, t96, t97, t98, t99, t100, t101, t102, (.int .i64 t16), (.slice t1 t1l 0), (.int .i64 ((t1l : Nat) : Int)), (.bool false), (ys.getD 107 undef), (ys.getD 108 undef), (ys.getD 109 undef), (ys.getD 110 undef), (ys.getD 111 undef), (ys.getD 112 undef), (ys.getD 113 undef), (ys.getD 114 undef), (ys.getD 115 undef), undef, undef, undef, undef, undef, undef, undef, undef, undef, undef, undef, undef, undef, undef, undef, undef, undef, undef, undef, undef, undef, undef, undef, undef, undef, undef, undef, undef, undef, undef, undef, undef, undef, undef, undef, undef, undef, undef, undef, undef, undef, undef, undef] H))) :
    LA en L_crossbarlaw18_BloomOrder_1 [(.int .u8 t0), (.slice t1 t1l 0), (.slice t2 t2l 0), undef, undef, undef, (.bool t6), (.pointer t7), (.pointer t8), (.pointer t9), (.pointer t10), t11, t12, t13, t14, t15, (.int .i64 t16), undef, undef, undef, undef, undef, (.slice t22 t22l 0), (.int .i64 t23), (.bool t24), (.bool false), (.slice t26 t26l 0), (.int .i64 t27), (.bool t28), (.bool false), undef, (.tuple #[(.pointer t31_0), (.pointer t31_1)]), (.int .u8 t32), (.int .u8 t33), (.int .i64 t34), (.tuple #[(.pointer t35_0), (.pointer t35_1)]), (.pointer t36), (.pointer t37), (.tuple #[(.pointer t38_0), (.pointer t38_1)]), (.int .u8 t39), (.int .u8 t40), (.int .i64 t41), (.tuple #[(.pointer t42_0), (.pointer t42_1)]), (.pointer t43), (.pointer t44), (.pointer t45), (.bool t46), (.bool false), (.pointer t48), (.bool t49), (.bool t50), (.bool false), (.pointer t52), (.bool t53), (.bool t54), (.bool false), (.pointer t56), (.bool t57), (.bool false), t59, t60, t61, t62, t63, t64, t65, t66, t67, t68, t69, t70, t71, t72, t73, t74, t75, t76, t77, t78, t79, t80, t81, t82, t83, t84, t85, t86, t87, t88, t89, t90, t91, t92, t93, t94, t95, t96, t97, t98, t99, t100, t101, t102, t103, t104, t105, t106, t107, t108, t109, t110, t111, t112, t113, t114, t115, undef, undef, undef, undef, undef, undef, undef, undef, undef, undef, undef, undef, undef, undef, undef, undef, undef, undef, undef, undef, undef, undef, undef, undef, undef, undef, undef, undef, undef, undef, undef, undef, undef, undef, undef, undef, undef, undef, undef, undef, undef, undef, undef] H [(X.exit 2, K0)] := by
  refine LA_rule (Z := []) (fun m xs H' => AS.asInt .i64 (xs.getD 16 undef) fun t16 => I m t16 H') ?_ n H ?_
  · intro n H
    suffices hs : ∀ s103 : Value, ∀ s104 : Value, ∀ s105 : Value, ∀ s106 : Value, ∀ s109 : Value, ∀ s110 : Value, ∀ s111 : Value, ∀ s112 : Value, ∀ s113 : Value, ∀ s114 : Value, ∀ s115 : Value, ∀ s107 : Value, ∀ s108 : Value, ∀ s16 : Value, ((AS.asInt .i64 s16 fun t16 => I n t16 H) → wpCode en L_crossbarlaw18_BloomOrder_1 [] [(.int .u8 t0), (.slice t1 t1l 0), (.slice t2 t2l 0), undef, undef, undef, (.bool t6), (.pointer t7), (.pointer t8), (.pointer t9), (.pointer t10), t11, t12, t13, t14, t15, s16, undef, undef, undef, undef, undef, (.slice t22 t22l 0), (.int .i64 t23), (.bool t24), (.bool false), (.slice t26 t26l 0), (.int .i64 t27), (.bool t28), (.bool false), undef, (.tuple #[(.pointer t31_0), (.pointer t31_1)]), (.int .u8 t32), (.int .u8 t33), (.int .i64 t34), (.tuple #[(.pointer t35_0), (.pointer t35_1)]), (.pointer t36), (.pointer t37), (.tuple #[(.pointer t38_0), (.pointer t38_1)]), (.int .u8 t39), (.int .u8 t40), (.int .i64 t41), (.tuple #[(.pointer t42_0), (.pointer t42_1)]), (.pointer t43), (.pointer t44), (.pointer t45), (.bool t46), (.bool false), (.pointer t48), (.bool t49), (.bool t50), (.bool false), (.pointer t52), (.bool t53), (.bool t54), (.bool false), (.pointer t56), (.bool t57), (.bool false), t59, t60, t61, t62, t63, t64, t65, t66, t67, t68, t69, t70, t71, t72, t73, t74, t75, t76, t77, t78, t79, t80, t81, t82, t83, t84, t85, t86, t87, t88, t89, t90, t91, t92, t93, t94, t95, t96, t97, t98, t99, t100, t101, t102, s103, s104, s105, s106, s107, s108, s109, s110, s111, s112, s113, s114, s115, undef, undef, undef, undef, undef, undef, undef, undef, undef, undef, undef, undef, undef, undef, undef, undef, undef, undef, undef, undef, undef, undef, undef, undef, undef, undef, undef, undef, undef, undef, undef, undef, undef, undef, undef, undef, undef, undef, undef, undef, undef, undef, undef] H (loopQ (fun m xs H' => AS.asInt .i64 (xs.getD 16 undef) fun t16 => I m t16 H') n [(X.exit 2, K0)])) by
      apply turnInto hs
      kernel_rfl
    intro s103 s104 s105 s106 s109 s110 s111 s112 s113 s114 s115 s107 s108 s16 hP
    replace hP := asInt_elim hP
    obtain ⟨t16, rfl, hP⟩ := hP
    apply turnInto (hstep n t16 [(.int .u8 t0), (.slice t1 t1l 0), (.slice t2 t2l 0), undef, undef, undef, (.bool t6), (.pointer t7), (.pointer t8), (.pointer t9), (.pointer t10), t11, t12, t13, t14, t15, (.int .i64 t16), undef, undef, undef, undef, undef, (.slice t22 t22l 0), (.int .i64 t23), (.bool t24), (.bool false), (.slice t26 t26l 0), (.int .i64 t27), (.bool t28), (.bool false), undef, (.tuple #[(.pointer t31_0), (.pointer t31_1)]), (.int .u8 t32), (.int .u8 t33), (.int .i64 t34), (.tuple #[(.pointer t35_0), (.pointer t35_1)]), (.pointer t36), (.pointer t37), (.tuple #[(.pointer t38_0), (.pointer t38_1)]), (.int .u8 t39), (.int .u8 t40), (.int .i64 t41), (.tuple #[(.pointer t42_0), (.pointer t42_1)]), (.pointer t43), (.pointer t44), (.pointer t45), (.bool t46), (.bool false), (.pointer t48), (.bool t49), (.bool t50), (.bool false), (.pointer t52), (.bool t53), (.bool t54), (.bool false), (.pointer t56), (.bool t57), (.bool false), t59, t60, t61, t62, t63, t64, t65, t66, t67, t68, t69, t70, t71, t72, t73, t74, t75, t76, t77, t78, t79, t80, t81, t82, t83, t84, t85, t86, t87, t88, t89, t90, t91, t92, t93, t94, t95, t96, t97, t98, t99, t100, t101, t102, s103, s104, s105, s106, s107, s108, s109, s110, s111, s112, s113, s114, s115, undef, undef, undef, undef, undef, undef, undef, undef, undef, undef, undef, undef, undef, undef, undef, undef, undef, undef, undef, undef, undef, undef, undef, undef, undef, undef, undef, undef, undef, undef, undef, undef, undef, undef, undef, undef, undef, undef, undef, undef, undef, undef, undef] H hP)
    kernel_rfl
  · apply turnInto h0
    kernel_rfl

theorem use_crossbarlaw18_BloomOrder_2 {t0 : Int} {t1 : Option Addr} {t1l : Nat} {t2 : Option Addr} {t2l : Nat} {t7 : Option Addr} {t8 : Option Addr} {t9 : Option Addr} {t10 : Option Addr} {t11 : Value} {t12 : Value} {t13 : Value} {t14 : Value} {t15 : Value} {t16 : Value} {t22 : Option Addr} {t22l : Nat} {t23 : Int} {t24 : Bool} {t26 : Option Addr} {t26l : Nat} {t27 : Int} {t28 : Bool} {t31_0 : Option Addr} {t31_1 : Option Addr} {t32 : Int} {t33 : Int} {t34 : Int} {t35_0 : Option Addr} {t35_1 : Option Addr} {t36 : Option Addr} {t37 : Option Addr} {t38_0 : Option Addr} {t38_1 : Option Addr} {t39 : Int} {t40 : Int} {t41 : Int} {t42_0 : Option Addr} {t42_1 : Option Addr} {t43 : Option Addr} {t44 : Option Addr} {t45 : Option Addr} {t46 : Bool} {t48 : Option Addr} {t49 : Bool} {t50 : Bool} {t52 : Option Addr} {t53 : Bool} {t54 : Bool} {t56 : Option Addr} {t57 : Bool} {t59 : Value} {t60 : Value} {t61 : Value} {t62 : Value} {t63 : Value} {t64 : Value} {t65 : Value} {t66 : Value} {t67 : Value} {t68 : Value} {t69 : Value} {t70 : Value} {t71 : Value} {t72 : Value} {t73 : Value} {t74 : Value} {t75 : Value} {t76 : Value} {t77 : Value} {t78 : Value} {t79 : Value} {t80 : Value} {t81 : Value} {t82 : Value} {t83 : Value} {t84 : Value} {t85 : Value} {t86 : Value} {t87 : Value} {t88 : Value} {t89 : Value} {t90 : Value} {t91 : Value} {t92 : Value} {t93 : Value} {t94 : Value} {t95 : Value} {t96 : Value} {t97 : Value} {t98 : Value} {t99 : Value} {t100 : Value} {t101 : Value} {t102 : Value} {t103 : Value} {t104 : Value} {t105 : Value} {t106 : Value} {t107 : Value} {t108 : Value} {t109 : Value} {t110 : Value} {t111 : Value} {t112 : Value} {t113 : Value} {t114 : Value} {t115 : Value} {K0 : Fr → Heap → Prop} {K1 : Fr → Heap → Prop} {t6 : Bool} {t17 : Int} {t18 : Value} {t19 : Value} {t20 : Value} {t21 : Value} {t116 : Value} {t117 : Value} {t118 : Value} {t119 : Value} {t120 : Value} {t121 : Value} {t122 : Value} {t123 : Value} {t124 : Value} {t125 : Value} {t126 : Value} {t127 : Value} {t128 : Value} {t129 : Value} {t130 : Value} {t131 : Value} {t132 : Value} {t133 : Value} {t134 : Value} {t135 : Value} {t136 : Value} {t137 : Value} {t138 : Value} {t139 : Value} {t140 : Value} {t141 : Value} {t142 : Value} {t143 : Value} {t144 : Value} {t145 : Value} {t146 : Value} {t147 : Value} {t148 : Value} {t149 : Value} {t150 : Value} {t151 : Value} {t152 : Value} {H : Heap} (I : Nat → Bool → Int → Heap → Prop) (n : Nat) (h0 : I n t6 t17 H)
    (hstep : ∀ (n : Nat) (t6 : Bool) (t17 : Int) (ys : Fr) (H : Heap), I n t6 t17 H →
    (
 bif (decide (t17 < ((t2l : Nat) : Int))) then (
 inB t17 t2l ∧
 asRow t2 fun i1 i2 =>
 ∃ n3, H.cell i1 (i2 + (t17.toNat * 1)) = some (.int .u64 n3) ∧
 CA en F.crossbarlaw18_once [(.pointer t7), (.pointer t8), (.int .i64 8), (.int .u64 n3)] H fun v4 H5 =>
 ∃ n6, ∃ b7, v4 = (.tuple #[(.int .i64 n6), (.bool b7)]) ∧
 inB t17 t2l ∧
 asRow t2 fun i8 i9 =>
 ∃ n10, H5.cell i8 (i9 + (t17.toNat * 1)) = some (.int .u64 n10) ∧
 CA en F.crossbarlaw18_once [(.pointer t9), (.pointer t10), (.int .i64 8), (.int .u64 n10)] H5 fun v11 H12 =>
 ∃ n13, ∃ b14, v11 = (.tuple #[(.int .i64 n13), (.bool b14)]) ∧
 bif (!b7) then (
 K1 [(.int .u8 t0), (.slice t1 t1l 0), (.slice t2 t2l 0), undef, undef, undef, (.bool false), (.pointer t7), (.pointer t8), (.pointer t9), (.pointer t10), t11, t12, t13, t14, t15, t16, (.int .i64 t17), (.int .i64 n6), (.bool b7), (.int .i64 n13), (.bool b14), (.slice t22 t22l 0), (.int .i64 t23), (.bool t24), (.bool false), (.slice t26 t26l 0), (.int .i64 t27), (.bool t28), (.bool false), undef, (.tuple #[(.pointer t31_0), (.pointer t31_1)]), (.int .u8 t32), (.int .u8 t33), (.int .i64 t34), (.tuple #[(.pointer t35_0), (.pointer t35_1)]), (.pointer t36), (.pointer t37), (.tuple #[(.pointer t38_0), (.pointer t38_1)]), (.int .u8 t39), (.int .u8 t40), (.int .i64 t41), (.tuple #[(.pointer t42_0), (.pointer t42_1)]), (.pointer t43), (.pointer t44), (.pointer t45), (.bool t46), (.bool false), (.pointer t48), (.bool t49), (.bool t50), (.bool false), (.pointer t52), (.bool t53), (.bool t54), (.bool false), (.pointer t56), (.bool t57), (.bool false), t59, t60, t61, t62, t63, t64, t65, t66, t67, t68, t69, t70, t71, t72, t73, t74, t75, t76, t77, t78, t79, t80, t81, t82, t83, t84, t85, t86, t87, t88, t89, t90, t91, t92, t93, t94, t95, t96, t97, t98, t99, t100, t101, t102, t103, t104, t105, t106, t107, t108, t109, t110, t111, t112, t113, t114, t115, (.int .i64 t17), (.slice t2 t2l 0), (.int .i64 ((t2l : Nat) : Int)), (.bool true), (ys.getD 120 undef), (ys.getD 121 undef), (.tuple #[(.int .i64 n6), (.bool b7)]), (.pointer t7), (.pointer t8), (.slice t2 t2l 0), (.int .i64 t17), (.pointer (some ⟨i1, (i2 + (t17.toNat * 1)), none⟩)), (.int .u64 n3), (.tuple #[(.int .i64 n6), (.bool b7)]), (.int .i64 n6), (.bool b7), (.tuple #[(.int .i64 n13), (.bool b14)]), (.pointer t9), (.pointer t10), (.slice t2 t2l 0), (.int .i64 t17), (.pointer (some ⟨i8, (i9 + (t17.toNat * 1)), none⟩)), (.int .u64 n10), (.tuple #[(.int .i64 n13), (.bool b14)]), (.int .i64 n13), (.bool b14), (.bool b7), (.bool (!b7)), (.bool true), undef, undef, (.bool true), (.bool true), undef, undef, undef, (.bool true), undef, undef, undef, undef, undef, undef] H12)
 else (
 bif (!b14) then (
 K1 [(.int .u8 t0), (.slice t1 t1l 0), (.slice t2 t2l 0), undef, undef, undef, (.bool false), (.pointer t7), (.pointer t8), (.pointer t9), (.pointer t10), t11, t12, t13, t14, t15, t16, (.int .i64 t17), (.int .i64 n6), (.bool b7), (.int .i64 n13), (.bool b14), (.slice t22 t22l 0), (.int .i64 t23), (.bool t24), (.bool false), (.slice t26 t26l 0), (.int .i64 t27), (.bool t28), (.bool false), undef, (.tuple #[(.pointer t31_0), (.pointer t31_1)]), (.int .u8 t32), (.int .u8 t33), (.int .i64 t34), (.tuple #[(.pointer t35_0), (.pointer t35_1)]), (.pointer t36), (.pointer t37), (.tuple #[(.pointer t38_0), (.pointer t38_1)]), (.int .u8 t39), (.int .u8 t40), (.int .i64 t41), (.tuple #[(.pointer t42_0), (.pointer t42_1)]), (.pointer t43), (.pointer t44), (.pointer t45), (.bool t46), (.bool false), (.pointer t48), (.bool t49), (.bool t50), (.bool false), (.pointer t52), (.bool t53), (.bool t54), (.bool false), (.pointer t56), (.bool t57), (.bool false), t59, t60, t61, t62, t63, t64, t65, t66, t67, t68, t69, t70, t71, t72, t73, t74, t75, t76, t77, t78, t79, t80, t81, t82, t83, t84, t85, t86, t87, t88, t89, t90, t91, t92, t93, t94, t95, t96, t97, t98, t99, t100, t101, t102, t103, t104, t105, t106, t107, t108, t109, t110, t111, t112, t113, t114, t115, (.int .i64 t17), (.slice t2 t2l 0), (.int .i64 ((t2l : Nat) : Int)), (.bool true), (ys.getD 120 undef), (ys.getD 121 undef), (.tuple #[(.int .i64 n6), (.bool b7)]), (.pointer t7), (.pointer t8), (.slice t2 t2l 0), (.int .i64 t17), (.pointer (some ⟨i1, (i2 + (t17.toNat * 1)), none⟩)), (.int .u64 n3), (.tuple #[(.int .i64 n6), (.bool b7)]), (.int .i64 n6), (.bool b7), (.tuple #[(.int .i64 n13), (.bool b14)]), (.pointer t9), (.pointer t10), (.slice t2 t2l 0), (.int .i64 t17), (.pointer (some ⟨i8, (i9 + (t17.toNat * 1)), none⟩)), (.int .u64 n10), (.tuple #[(.int .i64 n13), (.bool b14)]), (.int .i64 n13), (.bool b14), (.bool b7), (.bool (!b7)), (.bool false), (.bool b14), (.bool (!b14)), (.bool (!b14)), (.bool true), undef, undef, undef, (.bool true), undef, undef, undef, undef, undef, undef] H12)
 else (
 bif (n6 != n13) then (
 K1 [(.int .u8 t0), (.slice t1 t1l 0), (.slice t2 t2l 0), undef, undef, undef, (.bool false), (.pointer t7), (.pointer t8), (.pointer t9), (.pointer t10), t11, t12, t13, t14, t15, t16, (.int .i64 t17), (.int .i64 n6), (.bool b7), (.int .i64 n13), (.bool b14), (.slice t22 t22l 0), (.int .i64 t23), (.bool t24), (.bool false), (.slice t26 t26l 0), (.int .i64 t27), (.bool t28), (.bool false), undef, (.tuple #[(.pointer t31_0), (.pointer t31_1)]), (.int .u8 t32), (.int .u8 t33), (.int .i64 t34), (.tuple #[(.pointer t35_0), (.pointer t35_1)]), (.pointer t36), (.pointer t37), (.tuple #[(.pointer t38_0), (.pointer t38_1)]), (.int .u8 t39), (.int .u8 t40), (.int .i64 t41), (.tuple #[(.pointer t42_0), (.pointer t42_1)]), (.pointer t43), (.pointer t44), (.pointer t45), (.bool t46), (.bool false), (.pointer t48), (.bool t49), (.bool t50), (.bool false), (.pointer t52), (.bool t53), (.bool t54), (.bool false), (.pointer t56), (.bool t57), (.bool false), t59, t60, t61, t62, t63, t64, t65, t66, t67, t68, t69, t70, t71, t72, t73, t74, t75, t76, t77, t78, t79, t80, t81, t82, t83, t84, t85, t86, t87, t88, t89, t90, t91, t92, t93, t94, t95, t96, t97, t98, t99, t100, t101, t102, t103, t104, t105, t106, t107, t108, t109, t110, t111, t112, t113, t114, t115, (.int .i64 t17), (.slice t2 t2l 0), (.int .i64 ((t2l : Nat) : Int)), (.bool true), (ys.getD 120 undef), (ys.getD 121 undef), (.tuple #[(.int .i64 n6), (.bool b7)]), (.pointer t7), (.pointer t8), (.slice t2 t2l 0), (.int .i64 t17), (.pointer (some ⟨i1, (i2 + (t17.toNat * 1)), none⟩)), (.int .u64 n3), (.tuple #[(.int .i64 n6), (.bool b7)]), (.int .i64 n6), (.bool b7), (.tuple #[(.int .i64 n13), (.bool b14)]), (.pointer t9), (.pointer t10), (.slice t2 t2l 0), (.int .i64 t17), (.pointer (some ⟨i8, (i9 + (t17.toNat * 1)), none⟩)), (.int .u64 n10), (.tuple #[(.int .i64 n13), (.bool b14)]), (.int .i64 n13), (.bool b14), (.bool b7), (.bool (!b7)), (.bool false), (.bool b14), (.bool (!b14)), (.bool (!b14)), (.bool false), (.int .i64 n6), (.int .i64 n13), (.bool (n6 != n13)), (.bool true), undef, undef, undef, undef, undef, undef] H12)
 else (
 ∃ k15, k15 < n ∧
 I k15 t6 (IntKind.i64.wrap (t17 + 1)) H12))))
 else (
 K0 [(.int .u8 t0), (.slice t1 t1l 0), (.slice t2 t2l 0), undef, undef, undef, (.bool t6), (.pointer t7), (.pointer t8), (.pointer t9), (.pointer t10), t11, t12, t13, t14, t15, t16, (.int .i64 t17), (ys.getD 18 undef), (ys.getD 19 undef), (ys.getD 20 undef), (ys.getD 21 undef), (.slice t22 t22l 0), (.int .i64 t23), (.bool t24), (.bool false), (.slice t26 t26l 0), (.int .i64 t27), (.bool t28), (.bool false), undef, (.tuple #[(.pointer t31_0), (.pointer t31_1)]), (.int .u8 t32), (.int .u8 t33), (.int .i64 t34), (.tuple #[(.pointer t35_0), (.pointer t35_1)]), (.pointer t36), (.pointer t37), (.tuple #[(.pointer t38_0), (.pointer t38_1)]), (.int .u8 t39), (.int .u8 t40), (.int .i64 t41), (.tuple #[(.pointer t42_0), (.pointer t42_1)]), (.pointer t43), (.pointer t44), (.pointer t45), (.bool t46), (.bool false), (.pointer t48), (.bool t49), (.bool t50), (.bool false), (.pointer t52), (.bool t53), (.bool t54), (.bool false), (.pointer t56), (.bool t57), (.bool false), t59, t60, t61, t62, t63, t64, t65, t66, t67, t68, t69, t70, t71, t72, t73, t74, t75, t76, t77, t78, t79, t80, t81, t82, t83, t84, t85, t86, t87, t88, t89, t90, t91, t92, t93, t94, t95, t96, t97, t98, t99, t100, t101, t102, t103, t104, t105, t106, t107, t108, t109, t110, t111, t112, t113, t114, t115, (.int .i64 t17), (.slice t2 t2l 0), (.int .i64 ((t2l : Nat) : Int)), (.bool false), (ys.getD 120 undef), (ys.getD 121 undef), (ys.getD 122 undef), (ys.getD 123 undef), (ys.getD 124 undef), (ys.getD 125 undef), (ys.getD 126 undef), (ys.getD 127 undef), (ys.getD 128 undef), (ys.getD 129 undef), (ys.getD 130 undef), (ys.getD 131 undef), (ys.getD 132 undef), (ys.getD 133 undef), (ys.getD 134 undef), (ys.getD 135 undef), (ys.getD 136 undef), (ys.getD 137 undef), (ys.getD 138 undef), (ys.getD 139 undef), (ys.getD 140 undef), (ys.getD 141 undef), (ys.getD 142 undef), (ys.getD 143 undef), (ys.getD 144 undef), (ys.getD 145 undef), (ys.getD 146 undef), (ys.getD 147 undef), (ys.getD 148 undef), (ys.getD 149 undef), (ys.getD 150 undef), (ys.getD 151 undef), (ys.getD 152 undef), undef, undef, undef, undef, undef, undef] H))) :
    LA en L_crossbarlaw18_BloomOrder_2 [(.int .u8 t0), (.slice t1 t1l 0), (.slice t2 t2l 0), undef, undef, undef, (.bool t6), (.pointer t7), (.pointer t8), (.pointer t9), (.pointer t10), t11, t12, t13, t14, t15, t16, (.int .i64 t17), t18, t19, t20, t21, (.slice t22 t22l 0), (.int .i64 t23), (.bool t24), (.bool false), (.slice t26 t26l 0), (.int .i64 t27), (.bool t28), (.bool false), undef, (.tuple #[(.pointer t31_0), (.pointer t31_1)]), (.int .u8 t32), (.int .u8 t33), (.int .i64 t34), (.tuple #[(.pointer t35_0), (.pointer t35_1)]), (.pointer t36), (.pointer t37), (.tuple #[(.pointer t38_0), (.pointer t38_1)]), (.int .u8 t39), (.int .u8 t40), (.int .i64 t41), (.tuple #[(.pointer t42_0), (.pointer t42_1)]), (.pointer t43), (.pointer t44), (.pointer t45), (.bool t46), (.bool false), (.pointer t48), (.bool t49), (.bool t50), (.bool false), (.pointer t52), (.bool t53), (.bool t54), (.bool false), (.pointer t56), (.bool t57), (.bool false), t59, t60, t61, t62, t63, t64, t65, t66, t67, t68, t69, t70, t71, t72, t73, t74, t75, t76, t77, t78, t79, t80, t81, t82, t83, t84, t85, t86, t87, t88, t89, t90, t91, t92, t93, t94, t95, t96, t97, t98, t99, t100, t101, t102, t103, t104, t105, t106, t107, t108, t109, t110, t111, t112, t113, t114, t115, t116, t117, t118, t119, t120, t121, t122, t123, t124, t125, t126, t127, t128, t129, t130, t131, t132, t133, t134, t135, t136, t137, t138, t139, t140, t141, t142, t143, t144, t145, t146, t147, t148, t149, t150, t151, t152, undef, undef, undef, undef, undef, undef] H [(X.exit 4, K0), (X.ret, K1)] := by
  refine LA_rule (Z := []) (fun m xs H' => AS.asBool (xs.getD 6 undef) fun t6 => AS.asInt .i64 (xs.getD 17 undef) fun t17 => I m t6 t17 H') ?_ n H ?_
  · intro n H
    suffices hs : ∀ s116 : Value, ∀ s117 : Value, ∀ s118 : Value, ∀ s119 : Value, ∀ s123 : Value, ∀ s124 : Value, ∀ s125 : Value, ∀ s126 : Value, ∀ s127 : Value, ∀ s128 : Value, ∀ s129 : Value, ∀ s122 : Value, ∀ s130 : Value, ∀ s131 : Value, ∀ s18 : Value, ∀ s19 : Value, ∀ s133 : Value, ∀ s134 : Value, ∀ s135 : Value, ∀ s136 : Value, ∀ s137 : Value, ∀ s138 : Value, ∀ s139 : Value, ∀ s132 : Value, ∀ s140 : Value, ∀ s141 : Value, ∀ s20 : Value, ∀ s21 : Value, ∀ s142 : Value, ∀ s143 : Value, ∀ s144 : Value, ∀ s145 : Value, ∀ s146 : Value, ∀ s147 : Value, ∀ s148 : Value, ∀ s149 : Value, ∀ s150 : Value, ∀ s151 : Value, ∀ s152 : Value, ∀ s6 : Value, ∀ s120 : Value, ∀ s121 : Value, ∀ s17 : Value, ((AS.asBool s6 fun t6 => AS.asInt .i64 s17 fun t17 => I n t6 t17 H) → wpCode en L_crossbarlaw18_BloomOrder_2 [] [(.int .u8 t0), (.slice t1 t1l 0), (.slice t2 t2l 0), undef, undef, undef, s6, (.pointer t7), (.pointer t8), (.pointer t9), (.pointer t10), t11, t12, t13, t14, t15, t16, s17, s18, s19, s20, s21, (.slice t22 t22l 0), (.int .i64 t23), (.bool t24), (.bool false), (.slice t26 t26l 0), (.int .i64 t27), (.bool t28), (.bool false), undef, (.tuple #[(.pointer t31_0), (.pointer t31_1)]), (.int .u8 t32), (.int .u8 t33), (.int .i64 t34), (.tuple #[(.pointer t35_0), (.pointer t35_1)]), (.pointer t36), (.pointer t37), (.tuple #[(.pointer t38_0), (.pointer t38_1)]), (.int .u8 t39), (.int .u8 t40), (.int .i64 t41), (.tuple #[(.pointer t42_0), (.pointer t42_1)]), (.pointer t43), (.pointer t44), (.pointer t45), (.bool t46), (.bool false), (.pointer t48), (.bool t49), (.bool t50), (.bool false), (.pointer t52), (.bool t53), (.bool t54), (.bool false), (.pointer t56), (.bool t57), (.bool false), t59, t60, t61, t62, t63, t64, t65, t66, t67, t68, t69, t70, t71, t72, t73, t74, t75, t76, t77, t78, t79, t80, t81, t82, t83, t84, t85, t86, t87, t88, t89, t90, t91, t92, t93, t94, t95, t96, t97, t98, t99, t100, t101, t102, t103, t104, t105, t106, t107, t108, t109, t110, t111, t112, t113, t114, t115, s116, s117, s118, s119, s120, s121, s122, s123, s124, s125, s126, s127, s128, s129, s130, s131, s132, s133, s134, s135, s136, s137, s138, s139, s140, s141, s142, s143, s144, s145, s146, s147, s148, s149, s150, s151, s152, undef, undef, undef, undef, undef, undef] H (loopQ (fun m xs H' => AS.asBool (xs.getD 6 undef) fun t6 => AS.asInt .i64 (xs.getD 17 undef) fun t17 => I m t6 t17 H') n [(X.exit 4, K0), (X.ret, K1)])) by
      apply turnInto hs
      kernel_rfl
    intro s116 s117 s118 s119 s123 s124 s125 s126 s127 s128 s129 s122 s130 s131 s18 s19 s133 s134 s135 s136 s137 s138 s139 s132 s140 s141 s20 s21 s142 s143 s144 s145 s146 s147 s148 s149 s150 s151 s152 s6 s120 s121 s17 hP
    replace hP := asBool_elim hP
    obtain ⟨t6, rfl, hP⟩ := hP
    replace hP := asInt_elim hP
    obtain ⟨t17, rfl, hP⟩ := hP
    apply turnInto (hstep n t6 t17 [(.int .u8 t0), (.slice t1 t1l 0), (.slice t2 t2l 0), undef, undef, undef, (.bool t6), (.pointer t7), (.pointer t8), (.pointer t9), (.pointer t10), t11, t12, t13, t14, t15, t16, (.int .i64 t17), s18, s19, s20, s21, (.slice t22 t22l 0), (.int .i64 t23), (.bool t24), (.bool false), (.slice t26 t26l 0), (.int .i64 t27), (.bool t28), (.bool false), undef, (.tuple #[(.pointer t31_0), (.pointer t31_1)]), (.int .u8 t32), (.int .u8 t33), (.int .i64 t34), (.tuple #[(.pointer t35_0), (.pointer t35_1)]), (.pointer t36), (.pointer t37), (.tuple #[(.pointer t38_0), (.pointer t38_1)]), (.int .u8 t39), (.int .u8 t40), (.int .i64 t41), (.tuple #[(.pointer t42_0), (.pointer t42_1)]), (.pointer t43), (.pointer t44), (.pointer t45), (.bool t46), (.bool false), (.pointer t48), (.bool t49), (.bool t50), (.bool false), (.pointer t52), (.bool t53), (.bool t54), (.bool false), (.pointer t56), (.bool t57), (.bool false), t59, t60, t61, t62, t63, t64, t65, t66, t67, t68, t69, t70, t71, t72, t73, t74, t75, t76, t77, t78, t79, t80, t81, t82, t83, t84, t85, t86, t87, t88, t89, t90, t91, t92, t93, t94, t95, t96, t97, t98, t99, t100, t101, t102, t103, t104, t105, t106, t107, t108, t109, t110, t111, t112, t113, t114, t115, s116, s117, s118, s119, s120, s121, s122, s123, s124, s125, s126, s127, s128, s129, s130, s131, s132, s133, s134, s135, s136, s137, s138, s139, s140, s141, s142, s143, s144, s145, s146, s147, s148, s149, s150, s151, s152, undef, undef, undef, undef, undef, undef] H hP)
    kernel_rfl
  · apply turnInto h0
    kernel_rfl


/-! crossbarlaw18_BloomRuns -/
noncomputable def L_crossbarlaw18_BloomRuns_0 : Code := loopAt Go.Proofs.Try.f11 0

theorem vc_crossbarlaw18_BloomRuns (x0_0 : Int) (x0_1 : Int) (x0_2 : Int) (x0_3 : Int) (x0_4 : Int) (x1 : Option Addr) (x1l : Nat) (x2 : Option Addr) (x2l : Nat) (H : Heap) (R : Value → Heap → Prop) :
    (
 nwH H (.cells true 0 [(.int .i64 x0_0), (.int .i64 x0_1), (.int .i64 x0_2), (.int .i64 x0_3), (.int .i64 x0_4)]) fun i1 H2 =>
 ∃ n3, ∃ n4, ∃ n5, ∃ n6, ∃ n7, H2.cellsAt i1 0 5 = some [(.int .i64 n3), (.int .i64 n4), (.int .i64 n5), (.int .i64 n6), (.int .i64 n7)] ∧
 CA en F.crossbarlaw18_Fits [(.agg #[(.int .i64 n3), (.int .i64 n4), (.int .i64 n5), (.int .i64 n6), (.int .i64 n7)])] H2 fun v8 H9 =>
 ∃ b10, v8 = (.bool b10) ∧
 bif (!b10) then (
 CA en F.crossbarlaw18_known [] H9 fun v11 H12 =>
 ∃ b13, v11 = (.bool b13) ∧
 R (.bool b13) H12)
 else (
 CA en F.crossbarlaw18_Big [(.slice x1 x1l 0), (.slice x2 x2l 0)] H9 fun v14 H15 =>
 ∃ b16, v14 = (.bool b16) ∧
 bif b16 then (
 CA en F.crossbarlaw18_known [] H15 fun v17 H18 =>
 ∃ b19, v17 = (.bool b19) ∧
 R (.bool b19) H18)
 else (
 ∃ n20, ∃ n21, ∃ n22, ∃ n23, ∃ n24, H15.cellsAt i1 0 5 = some [(.int .i64 n20), (.int .i64 n21), (.int .i64 n22), (.int .i64 n23), (.int .i64 n24)] ∧
 CA en F.crossbarlaw18_begin [(.agg #[(.int .i64 n20), (.int .i64 n21), (.int .i64 n22), (.int .i64 n23), (.int .i64 n24)]), (.slice x1 x1l 0)] H15 fun v25 H26 =>
 ∃ a27, v25 = (.pointer a27) ∧
 bif a27.isNone then (
 R (.bool false) H26)
 else (
 LA en L_crossbarlaw18_BloomRuns_0 [(.agg #[(.int .i64 x0_0), (.int .i64 x0_1), (.int .i64 x0_2), (.int .i64 x0_3), (.int .i64 x0_4)]), (.slice x1 x1l 0), (.slice x2 x2l 0), (.pointer (some ⟨i1, 0, none⟩)), undef, undef, (.bool false), (.pointer a27), (.int .i64 0), (.agg #[(.int .i64 n3), (.int .i64 n4), (.int .i64 n5), (.int .i64 n6), (.int .i64 n7)]), (.bool b10), (.bool (!b10)), (.bool false), (.slice x1 x1l 0), (.slice x2 x2l 0), (.bool b16), (.bool false), undef, (.agg #[(.int .i64 n20), (.int .i64 n21), (.int .i64 n22), (.int .i64 n23), (.int .i64 n24)]), (.slice x1 x1l 0), (.pointer a27), (.pointer a27), (.bool false), undef, undef, undef, undef, undef, undef, undef, undef, undef, undef, undef, undef, undef, undef, undef, undef, undef, undef, undef, undef, undef] H26 [(X.exit 0, fun (x28 : Fr) (H29 : Heap) =>
 AS.asBool (x28.getD 6 undef) fun b30 =>
 CA en F.crossbarlaw18_side_rest [(.pointer a27)] H29 fun v31 H32 =>
 ∃ b33, v31 = (.bool b33) ∧
 bif b33 then (
 CA en F.crossbarlaw18_known [] H32 fun v34 H35 =>
 ∃ b36, v34 = (.bool b36) ∧
 R (.bool b36) H35)
 else (
 R (.bool false) H32)),
 (X.ret, fun (x37 : Fr) (H38 : Heap) =>
 AS.asBool (x37.getD 6 undef) fun b39 =>
 R (.bool b39) H38)])))) →
    CA en F.crossbarlaw18_BloomRuns [(.agg #[(.int .i64 x0_0), (.int .i64 x0_1), (.int .i64 x0_2), (.int .i64 x0_3), (.int .i64 x0_4)]), (.slice x1 x1l 0), (.slice x2 x2l 0)] H R := by
  intro h
  refine wpFn_ok (Z := [[(6, (.bool false))]]) (fn := Go.Proofs.Try.f11) ?_ ?_ ?_
  · kernel_rfl
  · kernel_rfl
  · apply turnInto h
    kernel_rfl

end Go.Proofs.Ytlkmdcncpdadbaa
