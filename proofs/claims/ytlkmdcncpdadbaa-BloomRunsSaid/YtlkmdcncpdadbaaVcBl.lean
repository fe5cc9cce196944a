/-
  What functions of this seat's program need (printed by a program, checked by the kernel).
-/
import Derived.Test.YtlkmdcncpdadbaaNames
import Derived.Test.YtlkmdcncpdadbaaAs41
namespace Go.Proofs.Ytlkmdcncpdadbaa
open Go Go.AS Go.RowKit
set_option linter.unusedVariables false
set_option maxRecDepth 100000
set_option maxHeartbeats 2000000

/-! bloom_New -/

theorem vc_bloom_New (x0 : Option Addr) (x1 : Option Addr) (x2_0 : Int) (x2_1 : Int) (x2_2 : Int) (x2_3 : Int) (x2_4 : Int) (x3 : Int) (H : Heap) (R : Value → Heap → Prop) :
    (
 nwH H (.cells true 0 [(.int .i64 x2_0), (.int .i64 x2_1), (.int .i64 x2_2), (.int .i64 x2_3), (.int .i64 x2_4)]) fun i1 H2 =>
 ∃ n3, ∃ n4, ∃ n5, ∃ n6, ∃ n7, H2.cellsAt i1 0 5 = some [(.int .i64 n3), (.int .i64 n4), (.int .i64 n5), (.int .i64 n6), (.int .i64 n7)] ∧
 nwH H2 (.cells true 5 [(.int .i64 n3), (.int .i64 n4), (.int .i64 n5), (.int .i64 n6), (.int .i64 n7)]) fun i8 H9 =>
 CA en F.decl_Check [(.slice (some ⟨i8, 0, none⟩) 1 0)] H9 fun v10 H11 =>
 ∃ n12, v10 = (.int .i64 n12) ∧
 bif (n12 != 0) then (
 R (.tuple #[(.pointer none), (.int .i64 1)]) H11)
 else (
 ∃ n13, H11.cell i1 0 = some (.int .i64 n13) ∧
 bif (n13 != 8) then (
 R (.tuple #[(.pointer none), (.int .i64 1)]) H11)
 else (
 ∃ n14, H11.cell i1 3 = some (.int .i64 n14) ∧
 CA en F.smem_Mem_Make [(.pointer x0), (.int .i64 n14)] H11 fun v15 H16 =>
 ∃ n17, ∃ n18, v15 = (.tuple #[(.int .i64 n17), (.int .i64 n18)]) ∧
 bif (n18 != 0) then (
 R (.tuple #[(.pointer none), (.int .i64 n18)]) H16)
 else (
 ∃ n19, ∃ n20, ∃ n21, ∃ n22, ∃ n23, H16.cellsAt i1 0 5 = some [(.int .i64 n19), (.int .i64 n20), (.int .i64 n21), (.int .i64 n22), (.int .i64 n23)] ∧
 nwH H16 (.cells true 0 [(.pointer x0), (.int .i64 n19), (.int .i64 n20), (.int .i64 n21), (.int .i64 n22), (.int .i64 n23), (.int .i64 n17)]) fun i24 H25 =>
 R (.tuple #[(.pointer (some ⟨i24, 0, none⟩)), (.int .i64 0)]) H25)))) →
    CA en F.bloom_New [(.pointer x0), (.pointer x1), (.agg #[(.int .i64 x2_0), (.int .i64 x2_1), (.int .i64 x2_2), (.int .i64 x2_3), (.int .i64 x2_4)]), (.int .i64 x3)] H R := by
  intro h
  refine wpFn_ok (Z := []) (fn := Go.Proofs.Try.f31) ?_ ?_ ?_
  · kernel_rfl
  · kernel_rfl
  · apply turnInto h
    kernel_rfl


/-! bloom_Map_Begin -/

theorem vc_bloom_Map_Begin (x0 : Option Addr) (x1_0 : Int) (x1_1 : Int) (x1_2 : Option Addr) (x1_2l : Nat) (x1_3 : Int) (x1_4 : Int) (H : Heap) (R : Value → Heap → Prop) :
    (
 nwH H (.cells true 0 [(.pointer x0)]) fun i1 H2 =>
 nwH H2 (.cells true 0 [(.int .i64 x1_0), (.int .u64 x1_1), (.slice x1_2 x1_2l 0), (.int .i64 x1_3), (.int .i64 x1_4)]) fun i3 H4 =>
 ∃ a5 i6, (((H4.bump 17).set (H4.next + 13) (.cells true 0 [(.int .i64 0)])).set (H4.next + 14) (.cells true 0 [(.int .u64 0)])).cell i3 2 = some (.slice a5 i6 0) ∧
 inB 0 i6 ∧
 asRow a5 fun i7 i8 =>
 ∃ n9, (((H4.bump 17).set (H4.next + 13) (.cells true 0 [(.int .i64 0)])).set (H4.next + 14) (.cells true 0 [(.int .u64 0)])).cell i7 i8 = some (.int .u64 n9) ∧
 ∃ a10, (((H4.bump 17).set (H4.next + 13) (.cells true 0 [(.int .i64 0)])).set (H4.next + 14) (.cells true 0 [(.int .u64 0)])).cell i1 0 = some (.pointer a10) ∧
 AS.asAddr (.pointer a10) fun i11 i12 =>
 ∃ n13, (((H4.bump 17).set (H4.next + 13) (.cells true 0 [(.int .i64 0)])).set (H4.next + 14) (.cells true 0 [(.int .u64 0)])).cell i11 ((i12 + 1) + 3) = some (.int .i64 n13) ∧
 CA en F.decl_Bloom [(.int .u64 n9), (.int .i64 n13)] (((H4.bump 17).set (H4.next + 13) (.cells true 0 [(.int .i64 0)])).set (H4.next + 14) (.cells true 0 [(.int .u64 0)])) fun v14 H15 =>
 ∃ n16, ∃ n17, v14 = (.tuple #[(.int .i64 n16), (.int .u64 n17)]) ∧
 stc H15 (H4.next + 13) 0 [(.int .i64 n16)] fun H18 =>
 stc H18 (H4.next + 14) 0 [(.int .u64 n17)] fun H19 =>
 (
 ∃ n24, H19.cell i3 0 = some (.int .i64 n24) ∧
 bif (n24 == 6) then (
 nwH H19 (.cells true 0 [(.func (.func F.bloom_Map_Begin_1) #[] #[(.pointer (some ⟨i1, 0, none⟩)), (.pointer (some ⟨(H4.next + 13), 0, none⟩)), (.pointer (some ⟨(H4.next + 14), 0, none⟩))]), (.int .i64 0)]) fun i25 H26 =>
 R (.pointer (some ⟨i25, 0, none⟩)) H26)
 else (
 nwH H19 (.cells true 0 [(.func (.func F.bloom_Map_Begin_2) #[] #[(.pointer (some ⟨i1, 0, none⟩)), (.pointer (some ⟨(H4.next + 13), 0, none⟩)), (.pointer (some ⟨(H4.next + 14), 0, none⟩))]), (.int .i64 0)]) fun i27 H28 =>
 R (.pointer (some ⟨i27, 0, none⟩)) H28)) ∧
 ((∃ c21, (((H4.bump 17).set (H4.next + 13) (.cells true 0 [(.int .i64 0)])).set (H4.next + 14) (.cells true 0 [(.int .u64 0)])).get (H4.next + 14) = some (.cells true 0 c21) ∧ sameN.sameL 8 [(.int .u64 0)] c21 = true) ∧ (∃ c20, H15.get (H4.next + 14) = some (.cells true 0 c20) ∧ sameN.sameL 8 [(.int .u64 0)] c20 = true) ∧ True) ∧
 ((∃ c23, (((H4.bump 17).set (H4.next + 13) (.cells true 0 [(.int .i64 0)])).set (H4.next + 14) (.cells true 0 [(.int .u64 0)])).get (H4.next + 13) = some (.cells true 0 c23) ∧ sameN.sameL 8 [(.int .i64 0)] c23 = true) ∧ (∃ c22, H15.get (H4.next + 13) = some (.cells true 0 c22) ∧ sameN.sameL 8 [(.int .i64 0)] c22 = true) ∧ True) ∧
 True) →
    CA en F.bloom_Map_Begin [(.pointer x0), (.agg #[(.int .i64 x1_0), (.int .u64 x1_1), (.slice x1_2 x1_2l 0), (.int .i64 x1_3), (.int .i64 x1_4)])] H R := by
  intro h
  refine wpFn_ok (Z := []) (fn := Go.Proofs.Try.f45) ?_ ?_ ?_
  · kernel_rfl
  · kernel_rfl
  · apply turnInto h
    kernel_rfl


/-! bloom_Run_Step -/

theorem vc_bloom_Run_Step (x0 : Option Addr) (H : Heap) (R : Value → Heap → Prop) :
    (
 AS.asAddr (.pointer x0) fun i1 i2 =>
 ∃ v3, H.cell i1 i2 = some v3 ∧
 asFnNil v3 fun b4 =>
 bif b4 then (
 R (.tuple #[(.bool false), (.bool true)]) H)
 else (
 AS.asAddr (.pointer x0) fun i5 i6 =>
 ∃ v7, H.cell i5 i6 = some v7 ∧
 AS.asFn v7 fun f8 l9 l10 =>
 (∃ fn, en.fn f8 = some fn) ∧
 CA en f8 (l9 ++ [] ++ l10) H fun v11 H12 =>
 ∃ n13, v11 = (.int .i64 n13) ∧
 AS.asAddr (.pointer x0) fun i14 i15 =>
 stc H12 i14 (i15 + 1) [(.int .i64 n13)] fun H16 =>
 AS.asAddr (.pointer x0) fun i17 i18 =>
 stc H16 i17 i18 [.nilFunc] fun H19 =>
 R (.tuple #[(.bool true), (.bool true)]) H19)) →
    CA en F.bloom_Run_Step [(.pointer x0)] H R := by
  intro h
  refine wpFn_ok (Z := []) (fn := Go.Proofs.Try.f46) ?_ ?_ ?_
  · kernel_rfl
  · kernel_rfl
  · apply turnInto h
    kernel_rfl


/-! bloom_Run_Result -/

theorem vc_bloom_Run_Result (x0 : Option Addr) (H : Heap) (R : Value → Heap → Prop) :
    (
 nwH H (.cells true 0 [(.int .i64 0), (.slice none 0 0), (.int .u64 0), (.int .i64 0)]) fun i1 H2 =>
 AS.asAddr (.pointer x0) fun i3 i4 =>
 ∃ n5, H2.cell i3 (i4 + 1) = some (.int .i64 n5) ∧
 stc H2 i1 0 [(.int .i64 n5), (.slice none 0 0), (.int .u64 0), (.int .i64 0)] fun H6 =>
 ∃ n7, ∃ a8 i9, ∃ n10, ∃ n11, H6.cellsAt i1 0 4 = some [(.int .i64 n7), (.slice a8 i9 0), (.int .u64 n10), (.int .i64 n11)] ∧
 R (.agg #[(.int .i64 n7), (.slice a8 i9 0), (.int .u64 n10), (.int .i64 n11)]) H6) →
    CA en F.bloom_Run_Result [(.pointer x0)] H R := by
  intro h
  refine wpFn_ok (Z := []) (fn := Go.Proofs.Try.f47) ?_ ?_ ?_
  · kernel_rfl
  · kernel_rfl
  · apply turnInto h
    kernel_rfl


/-! bloom_Map_Begin_1 -/

theorem vc_bloom_Map_Begin_1 (c0 : Option Addr) (c1 : Option Addr) (c2 : Option Addr) (H : Heap) (R : Value → Heap → Prop) :
    (
 AS.asAddr (.pointer c0) fun i1 i2 =>
 ∃ a3, (H.bump 12).cell i1 i2 = some (.pointer a3) ∧
 AS.asAddr (.pointer a3) fun i4 i5 =>
 ∃ a6, (H.bump 12).cell i4 i5 = some (.pointer a6) ∧
 AS.asAddr (.pointer c0) fun i7 i8 =>
 ∃ a9, (H.bump 12).cell i7 i8 = some (.pointer a9) ∧
 AS.asAddr (.pointer a9) fun i10 i11 =>
 ∃ n12, (H.bump 12).cell i10 (i11 + 6) = some (.int .i64 n12) ∧
 AS.asAddr (.pointer c1) fun i13 i14 =>
 ∃ n15, (H.bump 12).cell i13 i14 = some (.int .i64 n15) ∧
 AS.asAddr (.pointer c2) fun i16 i17 =>
 ∃ n18, (H.bump 12).cell i16 i17 = some (.int .u64 n18) ∧
 AS.asAddr (.pointer c2) fun i19 i20 =>
 ∃ n21, (H.bump 12).cell i19 i20 = some (.int .u64 n21) ∧
 CA en F.smem_Mem_Fetch [(.pointer a6), (.int .i64 n12), (.int .i64 n15), (.int .i64 64), (.int .u64 n18), (.int .u64 n21)] (H.bump 12) fun v22 H23 =>
 ∃ n24, ∃ b25, v22 = (.tuple #[(.int .u64 n24), (.bool b25)]) ∧
 (
 R (.int .i64 0) H23) ∧
 True) →
    CA en F.bloom_Map_Begin_1 [(.pointer c0), (.pointer c1), (.pointer c2)] H R := by
  intro h
  refine wpFn_ok (Z := []) (fn := Go.Proofs.Try.f63) ?_ ?_ ?_
  · kernel_rfl
  · kernel_rfl
  · apply turnInto h
    kernel_rfl


/-! bloom_Map_Begin_2 -/

theorem vc_bloom_Map_Begin_2 (c0 : Option Addr) (c1 : Option Addr) (c2 : Option Addr) (H : Heap) (R : Value → Heap → Prop) :
    (
 AS.asAddr (.pointer c0) fun i1 i2 =>
 ∃ a3, (H.bump 15).cell i1 i2 = some (.pointer a3) ∧
 AS.asAddr (.pointer a3) fun i4 i5 =>
 ∃ a6, (H.bump 15).cell i4 i5 = some (.pointer a6) ∧
 AS.asAddr (.pointer c0) fun i7 i8 =>
 ∃ a9, (H.bump 15).cell i7 i8 = some (.pointer a9) ∧
 AS.asAddr (.pointer a9) fun i10 i11 =>
 ∃ n12, (H.bump 15).cell i10 (i11 + 6) = some (.int .i64 n12) ∧
 AS.asAddr (.pointer c1) fun i13 i14 =>
 ∃ n15, (H.bump 15).cell i13 i14 = some (.int .i64 n15) ∧
 CA en F.smem_Mem_Load [(.pointer a6), (.int .i64 n12), (.int .i64 n15)] (H.bump 15) fun v16 H17 =>
 ∃ n18, ∃ b19, v16 = (.tuple #[(.int .u64 n18), (.bool b19)]) ∧
 (
 AS.asAddr (.pointer c2) fun i20 i21 =>
 ∃ n22, H17.cell i20 i21 = some (.int .u64 n22) ∧
 AS.asAddr (.pointer c2) fun i23 i24 =>
 ∃ n25, H17.cell i23 i24 = some (.int .u64 n25) ∧
 bif ((IntKind.u64.wrap ((BitVec.ofInt 64 n18 &&& (BitVec.ofInt 64 n22)).toNat : Int)) != n25) then (
 R (.int .i64 2) H17)
 else (
 R (.int .i64 0) H17)) ∧
 True) →
    CA en F.bloom_Map_Begin_2 [(.pointer c0), (.pointer c1), (.pointer c2)] H R := by
  intro h
  refine wpFn_ok (Z := []) (fn := Go.Proofs.Try.f65) ?_ ?_ ?_
  · kernel_rfl
  · kernel_rfl
  · apply turnInto h
    kernel_rfl


/-! crossbarlaw18_made -/

theorem vc_crossbarlaw18_made (x0 : Int) (H : Heap) (R : Value → Heap → Prop) :
    (
 CA en F.smem_New [(.int .i64 64)] H fun v1 H2 =>
 ∃ a3, v1 = (.pointer a3) ∧
 bif a3.isNone then (
 R (.tuple #[(.pointer none), (.pointer none)]) H2)
 else (
 CA en F.bloom_New [(.pointer a3), (.pointer none), (.agg #[(.int .i64 8), (.int .i64 1), (.int .i64 1), (.int .i64 x0), (.int .i64 0)]), (.int .i64 1)] H2 fun v4 H5 =>
 ∃ a6, ∃ n7, v4 = (.tuple #[(.pointer a6), (.int .i64 n7)]) ∧
 bif (n7 != 0) then (
 R (.tuple #[(.pointer none), (.pointer none)]) H5)
 else (
 R (.tuple #[(.pointer a3), (.pointer a6)]) H5))) →
    CA en F.crossbarlaw18_made [(.int .i64 x0)] H R := by
  intro h
  refine wpFn_ok (Z := []) (fn := Go.Proofs.Try.f28) ?_ ?_ ?_
  · kernel_rfl
  · kernel_rfl
  · apply turnInto h
    kernel_rfl


/-! crossbarlaw18_once -/

theorem vc_crossbarlaw18_once (x0 : Option Addr) (x1 : Option Addr) (x2 : Int) (x3 : Int) (H : Heap) (R : Value → Heap → Prop) :
    (
 CA en F.smem_Mem_Count [(.pointer x0)] H fun v1 H2 =>
 ∃ n3, v1 = (.int .i64 n3) ∧
 nwH H2 (.cells true 1 [(.int .u64 x3)]) fun i4 H5 =>
 CA en F.bloom_Map_Begin [(.pointer x1), (.agg #[(.int .i64 x2), (.int .u64 0), (.slice (some ⟨i4, 0, none⟩) 1 0), (.int .i64 0), (.int .i64 0)])] H5 fun v6 H7 =>
 ∃ a8, v6 = (.pointer a8) ∧
 bif a8.isNone then (
 R (.tuple #[(.int .i64 0), (.bool false)]) H7)
 else (
 CA en F.smem_Mem_Count [(.pointer x0)] H7 fun v9 H10 =>
 ∃ n11, v9 = (.int .i64 n11) ∧
 bif (n11 != n3) then (
 R (.tuple #[(.int .i64 0), (.bool false)]) H10)
 else (
 CA en F.bloom_Run_Step [(.pointer a8)] H10 fun v12 H13 =>
 ∃ b14, ∃ b15, v12 = (.tuple #[(.bool b14), (.bool b15)]) ∧
 CA en F.bloom_Run_Step [(.pointer a8)] H13 fun v16 H17 =>
 ∃ b18, ∃ b19, v16 = (.tuple #[(.bool b18), (.bool b19)]) ∧
 CA en F.bloom_Run_Result [(.pointer a8)] H17 fun v20 H21 =>
 ∃ n22, ∃ a23 i24, ∃ n25, ∃ n26, v20 = (.agg #[(.int .i64 n22), (.slice a23 i24 0), (.int .u64 n25), (.int .i64 n26)]) ∧
 nwH H21 (.cells true 0 [(.int .i64 0), (.slice none 0 0), (.int .u64 0), (.int .i64 0)]) fun i27 H28 =>
 stc H28 i27 0 [(.int .i64 n22), (.slice a23 i24 0), (.int .u64 n25), (.int .i64 n26)] fun H29 =>
 ∃ n30, (H29.bump 38).cell i27 0 = some (.int .i64 n30) ∧
 bif b14 then (
 bif b15 then (
 bif (!b18) then (
 bif b19 then (
 CA en F.smem_Mem_Count [(.pointer x0)] (H29.bump 38) fun v31 H32 =>
 ∃ n33, v31 = (.int .i64 n33) ∧
 bif (n33 == (IntKind.i64.wrap (n3 + 1))) then (
 ∃ a34 i35, H32.cell i27 1 = some (.slice a34 i35 0) ∧
 bif (((i35 : Nat) : Int) == 0) then (
 ∃ n36, H32.cell i27 2 = some (.int .u64 n36) ∧
 bif (n36 == 0) then (
 ∃ n37, H32.cell i27 3 = some (.int .i64 n37) ∧
 (
 R (.tuple #[(.int .i64 n30), (.bool (n37 == 0))]) H32) ∧
 (((IntKind.i64.wrap (n3 + 1)) = (IntKind.i64.wrap (n3 + 1))) ∧ ((IntKind.i64.wrap (n3 + 1)) = (IntKind.i64.wrap (n3 + 1))) ∧ True) ∧
 ((∃ n39, (H29.bump 38).cell i27 0 = some (.int .i64 n39) ∧
 n30 = n39) ∧ (∃ n38, H32.cell i27 0 = some (.int .i64 n38) ∧
 n30 = n38) ∧ True) ∧
 True)
 else (
 (
 R (.tuple #[(.int .i64 n30), (.bool false)]) H32) ∧
 (((IntKind.i64.wrap (n3 + 1)) = (IntKind.i64.wrap (n3 + 1))) ∧ ((IntKind.i64.wrap (n3 + 1)) = (IntKind.i64.wrap (n3 + 1))) ∧ True) ∧
 ((∃ n41, (H29.bump 38).cell i27 0 = some (.int .i64 n41) ∧
 n30 = n41) ∧ (∃ n40, H32.cell i27 0 = some (.int .i64 n40) ∧
 n30 = n40) ∧ True) ∧
 True))
 else (
 (
 R (.tuple #[(.int .i64 n30), (.bool false)]) H32) ∧
 (((IntKind.i64.wrap (n3 + 1)) = (IntKind.i64.wrap (n3 + 1))) ∧ ((IntKind.i64.wrap (n3 + 1)) = (IntKind.i64.wrap (n3 + 1))) ∧ True) ∧
 ((∃ n43, (H29.bump 38).cell i27 0 = some (.int .i64 n43) ∧
 n30 = n43) ∧ (∃ n42, H32.cell i27 0 = some (.int .i64 n42) ∧
 n30 = n42) ∧ True) ∧
 True))
 else (
 (
 R (.tuple #[(.int .i64 n30), (.bool false)]) H32) ∧
 (((IntKind.i64.wrap (n3 + 1)) = (IntKind.i64.wrap (n3 + 1))) ∧ ((IntKind.i64.wrap (n3 + 1)) = (IntKind.i64.wrap (n3 + 1))) ∧ True) ∧
 ((∃ n45, (H29.bump 38).cell i27 0 = some (.int .i64 n45) ∧
 n30 = n45) ∧ (∃ n44, H32.cell i27 0 = some (.int .i64 n44) ∧
 n30 = n44) ∧ True) ∧
 True))
 else (
 (
 R (.tuple #[(.int .i64 n30), (.bool false)]) (H29.bump 38)) ∧
 ((∃ n46, (H29.bump 38).cell i27 0 = some (.int .i64 n46) ∧
 n30 = n46) ∧ True) ∧
 True))
 else (
 (
 R (.tuple #[(.int .i64 n30), (.bool false)]) (H29.bump 38)) ∧
 ((∃ n47, (H29.bump 38).cell i27 0 = some (.int .i64 n47) ∧
 n30 = n47) ∧ True) ∧
 True))
 else (
 (
 R (.tuple #[(.int .i64 n30), (.bool false)]) (H29.bump 38)) ∧
 ((∃ n48, (H29.bump 38).cell i27 0 = some (.int .i64 n48) ∧
 n30 = n48) ∧ True) ∧
 True))
 else (
 (
 R (.tuple #[(.int .i64 n30), (.bool false)]) (H29.bump 38)) ∧
 ((∃ n49, (H29.bump 38).cell i27 0 = some (.int .i64 n49) ∧
 n30 = n49) ∧ True) ∧
 True)))) →
    CA en F.crossbarlaw18_once [(.pointer x0), (.pointer x1), (.int .i64 x2), (.int .u64 x3)] H R := by
  intro h
  refine wpFn_ok (Z := []) (fn := Go.Proofs.Try.f29) ?_ ?_ ?_
  · kernel_rfl
  · kernel_rfl
  · apply turnInto h
    kernel_rfl


/-! grace_New -/

theorem vc_grace_New (x0 : Int) (x1 : Option Addr) (H : Heap) (R : Value → Heap → Prop) :
    (
 nwH H (.map [] 0) fun i1 H2 =>
 nwH H2 (.cells true 0 [(.pointer x1), (.int .i64 x0), (.map (some i1)), (.slice none 0 0)]) fun i3 H4 =>
 R (.pointer (some ⟨i3, 0, none⟩)) H4) →
    CA en F.grace_New [(.int .i64 x0), (.pointer x1)] H R := by
  intro h
  refine wpFn_ok (Z := []) (fn := Go.Proofs.Try.f50) ?_ ?_ ?_
  · kernel_rfl
  · kernel_rfl
  · apply turnInto h
    kernel_rfl


/-! crossbarref18_New -/

theorem vc_crossbarref18_New (x0_0 : Int) (x0_1 : Int) (x0_2 : Int) (x0_3 : Int) (x0_4 : Int) (H : Heap) (R : Value → Heap → Prop) :
    (
 nwH H (.cells true 0 [(.int .i64 x0_0), (.int .i64 x0_1), (.int .i64 x0_2), (.int .i64 x0_3), (.int .i64 x0_4)]) fun i1 H2 =>
 ∃ n3, ∃ n4, ∃ n5, ∃ n6, ∃ n7, (H2.bump 7).cellsAt i1 0 5 = some [(.int .i64 n3), (.int .i64 n4), (.int .i64 n5), (.int .i64 n6), (.int .i64 n7)] ∧
 ∃ n8, (H2.bump 7).cell i1 3 = some (.int .i64 n8) ∧
 okLen 8 n8 n8 ∧
 nwH (H2.bump 7) (.cells true 1 (reps n8.toNat [(.int .u64 0)])) fun i9 H10 =>
 nwH H10 (.cells true 0 [(.int .i64 n3), (.int .i64 n4), (.int .i64 n5), (.int .i64 n6), (.int .i64 n7), (.slice (some ⟨i9, 0, none⟩) n8.toNat 0)]) fun i11 H12 =>
 (
 R (.pointer (some ⟨i11, 0, none⟩)) H12) ∧
 ((∃ n18, ∃ n19, ∃ n20, ∃ n21, ∃ n22, (H2.bump 7).cellsAt i1 0 5 = some [(.int .i64 n18), (.int .i64 n19), (.int .i64 n20), (.int .i64 n21), (.int .i64 n22)] ∧
 sameN 8 (.agg #[(.int .i64 n3), (.int .i64 n4), (.int .i64 n5), (.int .i64 n6), (.int .i64 n7)]) (.agg #[(.int .i64 n18), (.int .i64 n19), (.int .i64 n20), (.int .i64 n21), (.int .i64 n22)]) = true) ∧ (∃ n13, ∃ n14, ∃ n15, ∃ n16, ∃ n17, H10.cellsAt i1 0 5 = some [(.int .i64 n13), (.int .i64 n14), (.int .i64 n15), (.int .i64 n16), (.int .i64 n17)] ∧
 sameN 8 (.agg #[(.int .i64 n3), (.int .i64 n4), (.int .i64 n5), (.int .i64 n6), (.int .i64 n7)]) (.agg #[(.int .i64 n13), (.int .i64 n14), (.int .i64 n15), (.int .i64 n16), (.int .i64 n17)]) = true) ∧ True) ∧
 True) →
    CA en F.crossbarref18_New [(.agg #[(.int .i64 x0_0), (.int .i64 x0_1), (.int .i64 x0_2), (.int .i64 x0_3), (.int .i64 x0_4)])] H R := by
  intro h
  refine wpFn_ok (Z := []) (fn := Go.Proofs.Try.f51) ?_ ?_ ?_
  · kernel_rfl
  · kernel_rfl
  · apply turnInto h
    kernel_rfl


/-! crossbarref18_Map_Do -/

theorem vc_crossbarref18_Map_Do (x0 : Option Addr) (x1_0 : Int) (x1_1 : Int) (x1_2 : Option Addr) (x1_2l : Nat) (x1_3 : Int) (x1_4 : Int) (H : Heap) (R : Value → Heap → Prop) :
    (
 nwH H (.cells true 0 [(.int .i64 x1_0), (.int .u64 x1_1), (.slice x1_2 x1_2l 0), (.int .i64 x1_3), (.int .i64 x1_4)]) fun i1 H2 =>
 nwH H2 (.cells true 0 [(.int .i64 0), (.slice none 0 0), (.int .u64 0), (.int .i64 0)]) fun i3 H4 =>
 ∃ a5 i6, (H4.bump 15).cell i1 2 = some (.slice a5 i6 0) ∧
 inB 0 i6 ∧
 asRow a5 fun i7 i8 =>
 ∃ n9, (H4.bump 15).cell i7 i8 = some (.int .u64 n9) ∧
 AS.asAddr (.pointer x0) fun i10 i11 =>
 ∃ n12, (H4.bump 15).cell i10 (i11 + 3) = some (.int .i64 n12) ∧
 CA en F.crossbarref07_Bloom [(.int .u64 n9), (.int .i64 n12)] (H4.bump 15) fun v13 H14 =>
 ∃ n15, ∃ n16, v13 = (.tuple #[(.int .i64 n15), (.int .u64 n16)]) ∧
 (
 ∃ n17, H14.cell i1 0 = some (.int .i64 n17) ∧
 bif (n17 == 6) then (
 AS.asAddr (.pointer x0) fun i18 i19 =>
 ∃ a20 i21, (H14.bump 16).cell i18 (i19 + 5) = some (.slice a20 i21 0) ∧
 AS.asAddr (.pointer x0) fun i22 i23 =>
 ∃ a24 i25, (H14.bump 16).cell i22 (i23 + 5) = some (.slice a24 i25 0) ∧
 inB n15 i25 ∧
 asRow a24 fun i26 i27 =>
 ∃ n28, (H14.bump 16).cell i26 (i27 + (n15.toNat * 1)) = some (.int .u64 n28) ∧
 inB n15 i21 ∧
 asRow a20 fun i29 i30 =>
 stc (H14.bump 16) i29 (i30 + (n15.toNat * 1)) [(.int .u64 (IntKind.u64.wrap ((BitVec.ofInt 64 n28 ||| (BitVec.ofInt 64 n16)).toNat : Int)))] fun H31 =>
 (
 stc H31 i3 0 [(.int .i64 0), (.slice none 0 0), (.int .u64 0), (.int .i64 0)] fun H32 =>
 ∃ n33, ∃ a34 i35, ∃ n36, ∃ n37, H32.cellsAt i3 0 4 = some [(.int .i64 n33), (.slice a34 i35 0), (.int .u64 n36), (.int .i64 n37)] ∧
 R (.agg #[(.int .i64 n33), (.slice a34 i35 0), (.int .u64 n36), (.int .i64 n37)]) H32) ∧
 True)
 else (
 AS.asAddr (.pointer x0) fun i38 i39 =>
 ∃ a40 i41, H14.cell i38 (i39 + 5) = some (.slice a40 i41 0) ∧
 inB n15 i41 ∧
 asRow a40 fun i42 i43 =>
 ∃ n44, H14.cell i42 (i43 + (n15.toNat * 1)) = some (.int .u64 n44) ∧
 bif ((IntKind.u64.wrap ((BitVec.ofInt 64 n44 &&& (BitVec.ofInt 64 n16)).toNat : Int)) != n16) then (
 stc H14 i3 0 [(.int .i64 2), (.slice none 0 0), (.int .u64 0), (.int .i64 0)] fun H45 =>
 ∃ n46, ∃ a47 i48, ∃ n49, ∃ n50, H45.cellsAt i3 0 4 = some [(.int .i64 n46), (.slice a47 i48 0), (.int .u64 n49), (.int .i64 n50)] ∧
 R (.agg #[(.int .i64 n46), (.slice a47 i48 0), (.int .u64 n49), (.int .i64 n50)]) H45)
 else (
 stc H14 i3 0 [(.int .i64 0), (.slice none 0 0), (.int .u64 0), (.int .i64 0)] fun H51 =>
 ∃ n52, ∃ a53 i54, ∃ n55, ∃ n56, H51.cellsAt i3 0 4 = some [(.int .i64 n52), (.slice a53 i54 0), (.int .u64 n55), (.int .i64 n56)] ∧
 R (.agg #[(.int .i64 n52), (.slice a53 i54 0), (.int .u64 n55), (.int .i64 n56)]) H51))) ∧
 True) →
    CA en F.crossbarref18_Map_Do [(.pointer x0), (.agg #[(.int .i64 x1_0), (.int .u64 x1_1), (.slice x1_2 x1_2l 0), (.int .i64 x1_3), (.int .i64 x1_4)])] H R := by
  intro h
  refine wpFn_ok (Z := []) (fn := Go.Proofs.Try.f57) ?_ ?_ ?_
  · kernel_rfl
  · kernel_rfl
  · apply turnInto h
    kernel_rfl

end Go.Proofs.Ytlkmdcncpdadbaa
