/-
  What functions of this seat's program need (printed by a program, checked by the kernel).
-/
import Derived.Test.YtgpacebjbdhphaaGreatNames
import Derived.Test.YtgpacebjbdhphaaGreatAs41
namespace Go.Proofs.YtgpacebjbdhphaaGreat
open Go Go.AS Go.RowKit
set_option linter.unusedVariables false
set_option maxRecDepth 100000
set_option maxHeartbeats 2000000

/-! decl_kinds -/

theorem vc_decl_kinds (x0 : Int) (H : Heap) (R : Value → Heap → Prop) :
    (
 nwH H (.cells true 0 [(.int .i64 0), (.bool false), (.bool false), (.slice none 0 0), (.bool false)]) fun i1 H2 =>
 nwH H2 (.cells true 1 [(.int .i64 1), (.int .i64 2), (.int .i64 4)]) fun i3 H4 =>
 nwH H4 (.cells true 1 [(.int .i64 6), (.int .i64 7), (.int .i64 8)]) fun i5 H6 =>
 nwH H6 (.cells true 1 [(.int .i64 3), (.int .i64 5)]) fun i7 H8 =>
 ∃ l9, rowOf H8 1 (some ⟨i3, 0, none⟩) 3 = some l9 ∧
 apd H8 8 1 (some ⟨i7, 0, none⟩) 2 3 l9 fun a10 i11 H12 =>
 nwH H12 (.cells true 1 [(.int .i64 3)]) fun i13 H14 =>
 ∃ l15, rowOf H14 1 (some ⟨i3, 0, none⟩) 3 = some l15 ∧
 apd H14 8 1 (some ⟨i13, 0, none⟩) 1 3 l15 fun a16 i17 H18 =>
 nwH H18 (.cells true 1 [(.int .i64 6), (.int .i64 8)]) fun i19 H20 =>
 nwH H20 (.cells true 0 [(.int .i64 0), (.bool false), (.bool false), (.slice none 0 0), (.bool false), (.int .i64 0), (.bool false), (.bool false), (.slice none 0 0), (.bool false), (.int .i64 0), (.bool false), (.bool false), (.slice none 0 0), (.bool false), (.int .i64 0), (.bool false), (.bool false), (.slice none 0 0), (.bool false), (.int .i64 0), (.bool false), (.bool false), (.slice none 0 0), (.bool false), (.int .i64 0), (.bool false), (.bool false), (.slice none 0 0), (.bool false), (.int .i64 0), (.bool false), (.bool false), (.slice none 0 0), (.bool false), (.int .i64 0), (.bool false), (.bool false), (.slice none 0 0), (.bool false), (.int .i64 0), (.bool false), (.bool false), (.slice none 0 0), (.bool false), (.int .i64 0), (.bool false), (.bool false), (.slice none 0 0), (.bool false), (.int .i64 0), (.bool false), (.bool false), (.slice none 0 0), (.bool false)]) fun i21 H22 =>
 stc H22 i21 0 [(.int .i64 0), (.bool false), (.bool false), (.slice none 0 0), (.bool false), (.int .i64 1), (.bool false), (.bool false), (.slice (some ⟨i3, 0, none⟩) 3 0), (.bool false), (.int .i64 1), (.bool false), (.bool false), (.slice (some ⟨i3, 0, none⟩) 3 0), (.bool false), (.int .i64 4), (.bool false), (.bool false), (.slice (some ⟨i3, 0, none⟩) 3 0), (.bool false), (.int .i64 1), (.bool true), (.bool false), (.slice a10 i11 0), (.bool true), (.int .i64 1), (.bool false), (.bool false), (.slice a10 i11 0), (.bool false), (.int .i64 4), (.bool false), (.bool false), (.slice (some ⟨i5, 0, none⟩) 3 0), (.bool false), (.int .i64 4), (.bool false), (.bool false), (.slice (some ⟨i5, 0, none⟩) 3 0), (.bool false), (.int .i64 1), (.bool true), (.bool false), (.slice (some ⟨i19, 0, none⟩) 2 0), (.bool false), (.int .i64 1), (.bool false), (.bool true), (.slice a16 i17 0), (.bool false), (.int .i64 1), (.bool true), (.bool true), (.slice a16 i17 0), (.bool true)] fun H23 =>
 bif (decide (x0 < 1)) then (
 stc H23 i1 0 [(.int .i64 0), (.bool false), (.bool false), (.slice none 0 0), (.bool false)] fun H24 =>
 ∃ n25, ∃ b26, ∃ b27, ∃ a28 i29, ∃ b30, H24.cellsAt i1 0 5 = some [(.int .i64 n25), (.bool b26), (.bool b27), (.slice a28 i29 0), (.bool b30)] ∧
 R (.tuple #[(.agg #[(.int .i64 n25), (.bool b26), (.bool b27), (.slice a28 i29 0), (.bool b30)]), (.bool false)]) H24)
 else (
 bif (decide (x0 ≥ 11)) then (
 stc H23 i1 0 [(.int .i64 0), (.bool false), (.bool false), (.slice none 0 0), (.bool false)] fun H31 =>
 ∃ n32, ∃ b33, ∃ b34, ∃ a35 i36, ∃ b37, H31.cellsAt i1 0 5 = some [(.int .i64 n32), (.bool b33), (.bool b34), (.slice a35 i36 0), (.bool b37)] ∧
 R (.tuple #[(.agg #[(.int .i64 n32), (.bool b33), (.bool b34), (.slice a35 i36 0), (.bool b37)]), (.bool false)]) H31)
 else (
 inB x0 11 ∧
 ∃ n38, ∃ b39, ∃ b40, ∃ a41 i42, ∃ b43, H23.cellsAt i21 (0 + (x0.toNat * 5)) 5 = some [(.int .i64 n38), (.bool b39), (.bool b40), (.slice a41 i42 0), (.bool b43)] ∧
 stc H23 i1 0 [(.int .i64 n38), (.bool b39), (.bool b40), (.slice a41 i42 0), (.bool b43)] fun H44 =>
 ∃ n45, ∃ b46, ∃ b47, ∃ a48 i49, ∃ b50, H44.cellsAt i1 0 5 = some [(.int .i64 n45), (.bool b46), (.bool b47), (.slice a48 i49 0), (.bool b50)] ∧
 R (.tuple #[(.agg #[(.int .i64 n45), (.bool b46), (.bool b47), (.slice a48 i49 0), (.bool b50)]), (.bool true)]) H44))) →
    CA en F.decl_kinds [(.int .i64 x0)] H R := by
  intro h
  refine wpFn_ok (Z := []) (fn := Go.Proofs.Tryz.f67) ?_ ?_ ?_
  · kernel_rfl
  · kernel_rfl
  · apply turnInto h
    kernel_rfl


/-! decl_within -/

theorem vc_decl_within (x0 : Int) (x1 : Int) (H : Heap) (R : Value → Heap → Prop) :
    (
 bif (decide (x0 ≥ 1)) then (
 R (.bool (decide (x0 ≤ x1))) H)
 else (
 R (.bool false) H)) →
    CA en F.decl_within [(.int .i64 x0), (.int .i64 x1)] H R := by
  intro h
  refine wpFn_ok (Z := []) (fn := Go.Proofs.Tryz.f68) ?_ ?_ ?_
  · kernel_rfl
  · kernel_rfl
  · apply turnInto h
    kernel_rfl


/-! crossbarref07_one -/

theorem vc_crossbarref07_one (x0 : Option Addr) (x0l : Nat) (x1_0 : Int) (x1_1 : Int) (x1_2 : Int) (x1_3 : Int) (x1_4 : Int) (H : Heap) (R : Value → Heap → Prop) :
    (
 nwH H (.cells true 0 [(.int .i64 x1_0), (.int .i64 x1_1), (.int .i64 x1_2), (.int .i64 x1_3), (.int .i64 x1_4)]) fun i1 H2 =>
 ∃ n3, H2.cell i1 0 = some (.int .i64 n3) ∧
 bif (n3 == 3) then (
 ∃ n4, H2.cell i1 0 = some (.int .i64 n4) ∧
 bif (decide (n4 < 1)) then (
 R (.int .i64 1) H2)
 else (
 ∃ n5, H2.cell i1 0 = some (.int .i64 n5) ∧
 bif (decide (n5 > 10)) then (
 R (.int .i64 1) H2)
 else (
 ∃ n6, H2.cell i1 1 = some (.int .i64 n6) ∧
 bif (decide (n6 < 1)) then (
 R (.int .i64 1) H2)
 else (
 ∃ n7, H2.cell i1 1 = some (.int .i64 n7) ∧
 bif (decide (n7 > 64)) then (
 R (.int .i64 1) H2)
 else (
 ∃ n8, H2.cell i1 2 = some (.int .i64 n8) ∧
 bif (decide (n8 < 1)) then (
 R (.int .i64 1) H2)
 else (
 ∃ n9, H2.cell i1 2 = some (.int .i64 n9) ∧
 bif (decide (n9 > 4)) then (
 R (.int .i64 1) H2)
 else (
 ∃ n10, (H2.bump 18).cell i1 0 = some (.int .i64 n10) ∧
 CA en F.crossbarref07_bucketed [(.int .i64 n10)] (H2.bump 18) fun v11 H12 =>
 ∃ b13, v11 = (.bool b13) ∧
 ∃ n14, H12.cell i1 3 = some (.int .i64 n14) ∧
 bif (!(b13 == (n14 != 0))) then (
 (
 R (.int .i64 1) H12) ∧
 (((n14 != 0) = (n14 != 0)) ∧ ((n14 != 0) = (n14 != 0)) ∧ True) ∧
 ((∃ n16, (H2.bump 18).cell i1 3 = some (.int .i64 n16) ∧
 n14 = n16) ∧ (∃ n15, H12.cell i1 3 = some (.int .i64 n15) ∧
 n14 = n15) ∧ True) ∧
 True)
 else (
 ∃ n17, H12.cell i1 0 = some (.int .i64 n17) ∧
 CA en F.crossbarref07_bucketed [(.int .i64 n17)] H12 fun v18 H19 =>
 ∃ b20, v18 = (.bool b20) ∧
 bif b20 then (
 ∃ n21, H19.cell i1 3 = some (.int .i64 n21) ∧
 CA en F.crossbarref07_power [(.int .i64 n21)] H19 fun v22 H23 =>
 ∃ b24, v22 = (.bool b24) ∧
 (
 bif (!b24) then (
 R (.int .i64 1) H23)
 else (
 ∃ n27, H23.cell i1 0 = some (.int .i64 n27) ∧
 CA en F.crossbarref07_Nested [(.int .i64 n27)] H23 fun v28 H29 =>
 ∃ b30, v28 = (.bool b30) ∧
 bif (!b30) then (
 ∃ n31, H29.cell i1 4 = some (.int .i64 n31) ∧
 bif (n31 != 0) then (
 R (.int .i64 1) H29)
 else (
 R (.int .i64 0) H29))
 else (
 ∃ n32, H29.cell i1 4 = some (.int .i64 n32) ∧
 bif (decide (n32 < 1)) then (
 R (.int .i64 1) H29)
 else (
 ∃ n33, H29.cell i1 4 = some (.int .i64 n33) ∧
 bif (decide (n33 > ((x0l : Nat) : Int))) then (
 R (.int .i64 1) H29)
 else (
 ∃ n34, H29.cell i1 4 = some (.int .i64 n34) ∧
 inB (IntKind.i64.wrap (n34 - 1)) x0l ∧
 asRow x0 fun i35 i36 =>
 ∃ n37, H29.cell i35 (i36 + ((IntKind.i64.wrap (n34 - 1)).toNat * 5)) = some (.int .i64 n37) ∧
 CA en F.crossbarref07_Nested [(.int .i64 n37)] H29 fun v38 H39 =>
 ∃ b40, v38 = (.bool b40) ∧
 bif b40 then (
 R (.int .i64 14) H39)
 else (
 R (.int .i64 0) H39)))))) ∧
 (((n14 != 0) = (n14 != 0)) ∧ ((n14 != 0) = (n14 != 0)) ∧ True) ∧
 ((∃ n26, (H2.bump 18).cell i1 3 = some (.int .i64 n26) ∧
 n14 = n26) ∧ (∃ n25, H12.cell i1 3 = some (.int .i64 n25) ∧
 n14 = n25) ∧ True) ∧
 True)
 else (
 (
 ∃ n43, H19.cell i1 0 = some (.int .i64 n43) ∧
 CA en F.crossbarref07_Nested [(.int .i64 n43)] H19 fun v44 H45 =>
 ∃ b46, v44 = (.bool b46) ∧
 bif (!b46) then (
 ∃ n47, H45.cell i1 4 = some (.int .i64 n47) ∧
 bif (n47 != 0) then (
 R (.int .i64 1) H45)
 else (
 R (.int .i64 0) H45))
 else (
 ∃ n48, H45.cell i1 4 = some (.int .i64 n48) ∧
 bif (decide (n48 < 1)) then (
 R (.int .i64 1) H45)
 else (
 ∃ n49, H45.cell i1 4 = some (.int .i64 n49) ∧
 bif (decide (n49 > ((x0l : Nat) : Int))) then (
 R (.int .i64 1) H45)
 else (
 ∃ n50, H45.cell i1 4 = some (.int .i64 n50) ∧
 inB (IntKind.i64.wrap (n50 - 1)) x0l ∧
 asRow x0 fun i51 i52 =>
 ∃ n53, H45.cell i51 (i52 + ((IntKind.i64.wrap (n50 - 1)).toNat * 5)) = some (.int .i64 n53) ∧
 CA en F.crossbarref07_Nested [(.int .i64 n53)] H45 fun v54 H55 =>
 ∃ b56, v54 = (.bool b56) ∧
 bif b56 then (
 R (.int .i64 14) H55)
 else (
 R (.int .i64 0) H55))))) ∧
 (((n14 != 0) = (n14 != 0)) ∧ ((n14 != 0) = (n14 != 0)) ∧ True) ∧
 ((∃ n42, (H2.bump 18).cell i1 3 = some (.int .i64 n42) ∧
 n14 = n42) ∧ (∃ n41, H12.cell i1 3 = some (.int .i64 n41) ∧
 n14 = n41) ∧ True) ∧
 True)))))))))
 else (
 ∃ n57, H2.cell i1 0 = some (.int .i64 n57) ∧
 bif (n57 == 6) then (
 ∃ n58, H2.cell i1 0 = some (.int .i64 n58) ∧
 bif (decide (n58 < 1)) then (
 R (.int .i64 1) H2)
 else (
 ∃ n59, H2.cell i1 0 = some (.int .i64 n59) ∧
 bif (decide (n59 > 10)) then (
 R (.int .i64 1) H2)
 else (
 ∃ n60, H2.cell i1 1 = some (.int .i64 n60) ∧
 bif (decide (n60 < 1)) then (
 R (.int .i64 1) H2)
 else (
 ∃ n61, H2.cell i1 1 = some (.int .i64 n61) ∧
 bif (decide (n61 > 64)) then (
 R (.int .i64 1) H2)
 else (
 ∃ n62, H2.cell i1 2 = some (.int .i64 n62) ∧
 bif (decide (n62 < 1)) then (
 R (.int .i64 1) H2)
 else (
 ∃ n63, H2.cell i1 2 = some (.int .i64 n63) ∧
 bif (decide (n63 > 4)) then (
 R (.int .i64 1) H2)
 else (
 ∃ n64, (H2.bump 18).cell i1 0 = some (.int .i64 n64) ∧
 CA en F.crossbarref07_bucketed [(.int .i64 n64)] (H2.bump 18) fun v65 H66 =>
 ∃ b67, v65 = (.bool b67) ∧
 ∃ n68, H66.cell i1 3 = some (.int .i64 n68) ∧
 bif (!(b67 == (n68 != 0))) then (
 (
 R (.int .i64 1) H66) ∧
 (((n68 != 0) = (n68 != 0)) ∧ ((n68 != 0) = (n68 != 0)) ∧ True) ∧
 ((∃ n70, (H2.bump 18).cell i1 3 = some (.int .i64 n70) ∧
 n68 = n70) ∧ (∃ n69, H66.cell i1 3 = some (.int .i64 n69) ∧
 n68 = n69) ∧ True) ∧
 True)
 else (
 ∃ n71, H66.cell i1 0 = some (.int .i64 n71) ∧
 CA en F.crossbarref07_bucketed [(.int .i64 n71)] H66 fun v72 H73 =>
 ∃ b74, v72 = (.bool b74) ∧
 bif b74 then (
 ∃ n75, H73.cell i1 3 = some (.int .i64 n75) ∧
 CA en F.crossbarref07_power [(.int .i64 n75)] H73 fun v76 H77 =>
 ∃ b78, v76 = (.bool b78) ∧
 (
 bif (!b78) then (
 R (.int .i64 1) H77)
 else (
 ∃ n81, H77.cell i1 0 = some (.int .i64 n81) ∧
 CA en F.crossbarref07_Nested [(.int .i64 n81)] H77 fun v82 H83 =>
 ∃ b84, v82 = (.bool b84) ∧
 bif (!b84) then (
 ∃ n85, H83.cell i1 4 = some (.int .i64 n85) ∧
 bif (n85 != 0) then (
 R (.int .i64 1) H83)
 else (
 R (.int .i64 0) H83))
 else (
 ∃ n86, H83.cell i1 4 = some (.int .i64 n86) ∧
 bif (decide (n86 < 1)) then (
 R (.int .i64 1) H83)
 else (
 ∃ n87, H83.cell i1 4 = some (.int .i64 n87) ∧
 bif (decide (n87 > ((x0l : Nat) : Int))) then (
 R (.int .i64 1) H83)
 else (
 ∃ n88, H83.cell i1 4 = some (.int .i64 n88) ∧
 inB (IntKind.i64.wrap (n88 - 1)) x0l ∧
 asRow x0 fun i89 i90 =>
 ∃ n91, H83.cell i89 (i90 + ((IntKind.i64.wrap (n88 - 1)).toNat * 5)) = some (.int .i64 n91) ∧
 CA en F.crossbarref07_Nested [(.int .i64 n91)] H83 fun v92 H93 =>
 ∃ b94, v92 = (.bool b94) ∧
 bif b94 then (
 R (.int .i64 14) H93)
 else (
 R (.int .i64 0) H93)))))) ∧
 (((n68 != 0) = (n68 != 0)) ∧ ((n68 != 0) = (n68 != 0)) ∧ True) ∧
 ((∃ n80, (H2.bump 18).cell i1 3 = some (.int .i64 n80) ∧
 n68 = n80) ∧ (∃ n79, H66.cell i1 3 = some (.int .i64 n79) ∧
 n68 = n79) ∧ True) ∧
 True)
 else (
 (
 ∃ n97, H73.cell i1 0 = some (.int .i64 n97) ∧
 CA en F.crossbarref07_Nested [(.int .i64 n97)] H73 fun v98 H99 =>
 ∃ b100, v98 = (.bool b100) ∧
 bif (!b100) then (
 ∃ n101, H99.cell i1 4 = some (.int .i64 n101) ∧
 bif (n101 != 0) then (
 R (.int .i64 1) H99)
 else (
 R (.int .i64 0) H99))
 else (
 ∃ n102, H99.cell i1 4 = some (.int .i64 n102) ∧
 bif (decide (n102 < 1)) then (
 R (.int .i64 1) H99)
 else (
 ∃ n103, H99.cell i1 4 = some (.int .i64 n103) ∧
 bif (decide (n103 > ((x0l : Nat) : Int))) then (
 R (.int .i64 1) H99)
 else (
 ∃ n104, H99.cell i1 4 = some (.int .i64 n104) ∧
 inB (IntKind.i64.wrap (n104 - 1)) x0l ∧
 asRow x0 fun i105 i106 =>
 ∃ n107, H99.cell i105 (i106 + ((IntKind.i64.wrap (n104 - 1)).toNat * 5)) = some (.int .i64 n107) ∧
 CA en F.crossbarref07_Nested [(.int .i64 n107)] H99 fun v108 H109 =>
 ∃ b110, v108 = (.bool b110) ∧
 bif b110 then (
 R (.int .i64 14) H109)
 else (
 R (.int .i64 0) H109))))) ∧
 (((n68 != 0) = (n68 != 0)) ∧ ((n68 != 0) = (n68 != 0)) ∧ True) ∧
 ((∃ n96, (H2.bump 18).cell i1 3 = some (.int .i64 n96) ∧
 n68 = n96) ∧ (∃ n95, H66.cell i1 3 = some (.int .i64 n95) ∧
 n68 = n95) ∧ True) ∧
 True)))))))))
 else (
 ∃ n111, H2.cell i1 0 = some (.int .i64 n111) ∧
 bif (n111 == 7) then (
 ∃ n112, H2.cell i1 0 = some (.int .i64 n112) ∧
 bif (decide (n112 < 1)) then (
 R (.int .i64 1) H2)
 else (
 ∃ n113, H2.cell i1 0 = some (.int .i64 n113) ∧
 bif (decide (n113 > 10)) then (
 R (.int .i64 1) H2)
 else (
 ∃ n114, H2.cell i1 1 = some (.int .i64 n114) ∧
 bif (decide (n114 < 1)) then (
 R (.int .i64 1) H2)
 else (
 ∃ n115, H2.cell i1 1 = some (.int .i64 n115) ∧
 bif (decide (n115 > 64)) then (
 R (.int .i64 1) H2)
 else (
 ∃ n116, H2.cell i1 2 = some (.int .i64 n116) ∧
 bif (decide (n116 < 1)) then (
 R (.int .i64 1) H2)
 else (
 ∃ n117, H2.cell i1 2 = some (.int .i64 n117) ∧
 bif (decide (n117 > 4)) then (
 R (.int .i64 1) H2)
 else (
 ∃ n118, (H2.bump 18).cell i1 0 = some (.int .i64 n118) ∧
 CA en F.crossbarref07_bucketed [(.int .i64 n118)] (H2.bump 18) fun v119 H120 =>
 ∃ b121, v119 = (.bool b121) ∧
 ∃ n122, H120.cell i1 3 = some (.int .i64 n122) ∧
 bif (!(b121 == (n122 != 0))) then (
 (
 R (.int .i64 1) H120) ∧
 (((n122 != 0) = (n122 != 0)) ∧ ((n122 != 0) = (n122 != 0)) ∧ True) ∧
 ((∃ n124, (H2.bump 18).cell i1 3 = some (.int .i64 n124) ∧
 n122 = n124) ∧ (∃ n123, H120.cell i1 3 = some (.int .i64 n123) ∧
 n122 = n123) ∧ True) ∧
 True)
 else (
 ∃ n125, H120.cell i1 0 = some (.int .i64 n125) ∧
 CA en F.crossbarref07_bucketed [(.int .i64 n125)] H120 fun v126 H127 =>
 ∃ b128, v126 = (.bool b128) ∧
 bif b128 then (
 ∃ n129, H127.cell i1 3 = some (.int .i64 n129) ∧
 CA en F.crossbarref07_power [(.int .i64 n129)] H127 fun v130 H131 =>
 ∃ b132, v130 = (.bool b132) ∧
 (
 bif (!b132) then (
 R (.int .i64 1) H131)
 else (
 ∃ n135, H131.cell i1 0 = some (.int .i64 n135) ∧
 CA en F.crossbarref07_Nested [(.int .i64 n135)] H131 fun v136 H137 =>
 ∃ b138, v136 = (.bool b138) ∧
 bif (!b138) then (
 ∃ n139, H137.cell i1 4 = some (.int .i64 n139) ∧
 bif (n139 != 0) then (
 R (.int .i64 1) H137)
 else (
 R (.int .i64 0) H137))
 else (
 ∃ n140, H137.cell i1 4 = some (.int .i64 n140) ∧
 bif (decide (n140 < 1)) then (
 R (.int .i64 1) H137)
 else (
 ∃ n141, H137.cell i1 4 = some (.int .i64 n141) ∧
 bif (decide (n141 > ((x0l : Nat) : Int))) then (
 R (.int .i64 1) H137)
 else (
 ∃ n142, H137.cell i1 4 = some (.int .i64 n142) ∧
 inB (IntKind.i64.wrap (n142 - 1)) x0l ∧
 asRow x0 fun i143 i144 =>
 ∃ n145, H137.cell i143 (i144 + ((IntKind.i64.wrap (n142 - 1)).toNat * 5)) = some (.int .i64 n145) ∧
 CA en F.crossbarref07_Nested [(.int .i64 n145)] H137 fun v146 H147 =>
 ∃ b148, v146 = (.bool b148) ∧
 bif b148 then (
 R (.int .i64 14) H147)
 else (
 R (.int .i64 0) H147)))))) ∧
 (((n122 != 0) = (n122 != 0)) ∧ ((n122 != 0) = (n122 != 0)) ∧ True) ∧
 ((∃ n134, (H2.bump 18).cell i1 3 = some (.int .i64 n134) ∧
 n122 = n134) ∧ (∃ n133, H120.cell i1 3 = some (.int .i64 n133) ∧
 n122 = n133) ∧ True) ∧
 True)
 else (
 (
 ∃ n151, H127.cell i1 0 = some (.int .i64 n151) ∧
 CA en F.crossbarref07_Nested [(.int .i64 n151)] H127 fun v152 H153 =>
 ∃ b154, v152 = (.bool b154) ∧
 bif (!b154) then (
 ∃ n155, H153.cell i1 4 = some (.int .i64 n155) ∧
 bif (n155 != 0) then (
 R (.int .i64 1) H153)
 else (
 R (.int .i64 0) H153))
 else (
 ∃ n156, H153.cell i1 4 = some (.int .i64 n156) ∧
 bif (decide (n156 < 1)) then (
 R (.int .i64 1) H153)
 else (
 ∃ n157, H153.cell i1 4 = some (.int .i64 n157) ∧
 bif (decide (n157 > ((x0l : Nat) : Int))) then (
 R (.int .i64 1) H153)
 else (
 ∃ n158, H153.cell i1 4 = some (.int .i64 n158) ∧
 inB (IntKind.i64.wrap (n158 - 1)) x0l ∧
 asRow x0 fun i159 i160 =>
 ∃ n161, H153.cell i159 (i160 + ((IntKind.i64.wrap (n158 - 1)).toNat * 5)) = some (.int .i64 n161) ∧
 CA en F.crossbarref07_Nested [(.int .i64 n161)] H153 fun v162 H163 =>
 ∃ b164, v162 = (.bool b164) ∧
 bif b164 then (
 R (.int .i64 14) H163)
 else (
 R (.int .i64 0) H163))))) ∧
 (((n122 != 0) = (n122 != 0)) ∧ ((n122 != 0) = (n122 != 0)) ∧ True) ∧
 ((∃ n150, (H2.bump 18).cell i1 3 = some (.int .i64 n150) ∧
 n122 = n150) ∧ (∃ n149, H120.cell i1 3 = some (.int .i64 n149) ∧
 n122 = n149) ∧ True) ∧
 True)))))))))
 else (
 ∃ n165, H2.cell i1 0 = some (.int .i64 n165) ∧
 bif (decide (n165 < 1)) then (
 R (.int .i64 1) H2)
 else (
 ∃ n166, H2.cell i1 0 = some (.int .i64 n166) ∧
 bif (decide (n166 > 10)) then (
 R (.int .i64 1) H2)
 else (
 ∃ n167, H2.cell i1 1 = some (.int .i64 n167) ∧
 bif (decide (n167 < 1)) then (
 R (.int .i64 1) H2)
 else (
 ∃ n168, H2.cell i1 1 = some (.int .i64 n168) ∧
 bif (decide (n168 > 64)) then (
 R (.int .i64 1) H2)
 else (
 ∃ n169, H2.cell i1 2 = some (.int .i64 n169) ∧
 bif (decide (n169 < 1)) then (
 R (.int .i64 1) H2)
 else (
 ∃ n170, H2.cell i1 2 = some (.int .i64 n170) ∧
 bif (decide (n170 > 1)) then (
 R (.int .i64 1) H2)
 else (
 ∃ n171, (H2.bump 18).cell i1 0 = some (.int .i64 n171) ∧
 CA en F.crossbarref07_bucketed [(.int .i64 n171)] (H2.bump 18) fun v172 H173 =>
 ∃ b174, v172 = (.bool b174) ∧
 ∃ n175, H173.cell i1 3 = some (.int .i64 n175) ∧
 bif (!(b174 == (n175 != 0))) then (
 (
 R (.int .i64 1) H173) ∧
 (((n175 != 0) = (n175 != 0)) ∧ ((n175 != 0) = (n175 != 0)) ∧ True) ∧
 ((∃ n177, (H2.bump 18).cell i1 3 = some (.int .i64 n177) ∧
 n175 = n177) ∧ (∃ n176, H173.cell i1 3 = some (.int .i64 n176) ∧
 n175 = n176) ∧ True) ∧
 True)
 else (
 ∃ n178, H173.cell i1 0 = some (.int .i64 n178) ∧
 CA en F.crossbarref07_bucketed [(.int .i64 n178)] H173 fun v179 H180 =>
 ∃ b181, v179 = (.bool b181) ∧
 bif b181 then (
 ∃ n182, H180.cell i1 3 = some (.int .i64 n182) ∧
 CA en F.crossbarref07_power [(.int .i64 n182)] H180 fun v183 H184 =>
 ∃ b185, v183 = (.bool b185) ∧
 (
 bif (!b185) then (
 R (.int .i64 1) H184)
 else (
 ∃ n188, H184.cell i1 0 = some (.int .i64 n188) ∧
 CA en F.crossbarref07_Nested [(.int .i64 n188)] H184 fun v189 H190 =>
 ∃ b191, v189 = (.bool b191) ∧
 bif (!b191) then (
 ∃ n192, H190.cell i1 4 = some (.int .i64 n192) ∧
 bif (n192 != 0) then (
 R (.int .i64 1) H190)
 else (
 R (.int .i64 0) H190))
 else (
 ∃ n193, H190.cell i1 4 = some (.int .i64 n193) ∧
 bif (decide (n193 < 1)) then (
 R (.int .i64 1) H190)
 else (
 ∃ n194, H190.cell i1 4 = some (.int .i64 n194) ∧
 bif (decide (n194 > ((x0l : Nat) : Int))) then (
 R (.int .i64 1) H190)
 else (
 ∃ n195, H190.cell i1 4 = some (.int .i64 n195) ∧
 inB (IntKind.i64.wrap (n195 - 1)) x0l ∧
 asRow x0 fun i196 i197 =>
 ∃ n198, H190.cell i196 (i197 + ((IntKind.i64.wrap (n195 - 1)).toNat * 5)) = some (.int .i64 n198) ∧
 CA en F.crossbarref07_Nested [(.int .i64 n198)] H190 fun v199 H200 =>
 ∃ b201, v199 = (.bool b201) ∧
 bif b201 then (
 R (.int .i64 14) H200)
 else (
 R (.int .i64 0) H200)))))) ∧
 (((n175 != 0) = (n175 != 0)) ∧ ((n175 != 0) = (n175 != 0)) ∧ True) ∧
 ((∃ n187, (H2.bump 18).cell i1 3 = some (.int .i64 n187) ∧
 n175 = n187) ∧ (∃ n186, H173.cell i1 3 = some (.int .i64 n186) ∧
 n175 = n186) ∧ True) ∧
 True)
 else (
 (
 ∃ n204, H180.cell i1 0 = some (.int .i64 n204) ∧
 CA en F.crossbarref07_Nested [(.int .i64 n204)] H180 fun v205 H206 =>
 ∃ b207, v205 = (.bool b207) ∧
 bif (!b207) then (
 ∃ n208, H206.cell i1 4 = some (.int .i64 n208) ∧
 bif (n208 != 0) then (
 R (.int .i64 1) H206)
 else (
 R (.int .i64 0) H206))
 else (
 ∃ n209, H206.cell i1 4 = some (.int .i64 n209) ∧
 bif (decide (n209 < 1)) then (
 R (.int .i64 1) H206)
 else (
 ∃ n210, H206.cell i1 4 = some (.int .i64 n210) ∧
 bif (decide (n210 > ((x0l : Nat) : Int))) then (
 R (.int .i64 1) H206)
 else (
 ∃ n211, H206.cell i1 4 = some (.int .i64 n211) ∧
 inB (IntKind.i64.wrap (n211 - 1)) x0l ∧
 asRow x0 fun i212 i213 =>
 ∃ n214, H206.cell i212 (i213 + ((IntKind.i64.wrap (n211 - 1)).toNat * 5)) = some (.int .i64 n214) ∧
 CA en F.crossbarref07_Nested [(.int .i64 n214)] H206 fun v215 H216 =>
 ∃ b217, v215 = (.bool b217) ∧
 bif b217 then (
 R (.int .i64 14) H216)
 else (
 R (.int .i64 0) H216))))) ∧
 (((n175 != 0) = (n175 != 0)) ∧ ((n175 != 0) = (n175 != 0)) ∧ True) ∧
 ((∃ n203, (H2.bump 18).cell i1 3 = some (.int .i64 n203) ∧
 n175 = n203) ∧ (∃ n202, H173.cell i1 3 = some (.int .i64 n202) ∧
 n175 = n202) ∧ True) ∧
 True)))))))))))) →
    CA en F.crossbarref07_one [(.slice x0 x0l 0), (.agg #[(.int .i64 x1_0), (.int .i64 x1_1), (.int .i64 x1_2), (.int .i64 x1_3), (.int .i64 x1_4)])] H R := by
  intro h
  refine wpFn_ok (Z := []) (fn := Go.Proofs.Tryz.f51) ?_ ?_ ?_
  · kernel_rfl
  · kernel_rfl
  · apply turnInto h
    kernel_rfl


/-! crossbarref07_bucketed -/

theorem vc_crossbarref07_bucketed (x0 : Int) (H : Heap) (R : Value → Heap → Prop) :
    (
 bif (x0 == 4) then (
 R (.bool true) H)
 else (
 bif (x0 == 8) then (
 R (.bool true) H)
 else (
 R (.bool (x0 == 10)) H))) →
    CA en F.crossbarref07_bucketed [(.int .i64 x0)] H R := by
  intro h
  refine wpFn_ok (Z := []) (fn := Go.Proofs.Tryz.f70) ?_ ?_ ?_
  · kernel_rfl
  · kernel_rfl
  · apply turnInto h
    kernel_rfl


/-! crossbarref07_power -/

theorem vc_crossbarref07_power (x0 : Int) (H : Heap) (R : Value → Heap → Prop) :
    (
 bif (x0 == 1) then (
 R (.bool true) H)
 else (
 bif (x0 == 2) then (
 R (.bool true) H)
 else (
 bif (x0 == 4) then (
 R (.bool true) H)
 else (
 bif (x0 == 8) then (
 R (.bool true) H)
 else (
 bif (x0 == 16) then (
 R (.bool true) H)
 else (
 R (.bool (x0 == 32)) H)))))) →
    CA en F.crossbarref07_power [(.int .i64 x0)] H R := by
  intro h
  refine wpFn_ok (Z := []) (fn := Go.Proofs.Tryz.f71) ?_ ?_ ?_
  · kernel_rfl
  · kernel_rfl
  · apply turnInto h
    kernel_rfl


/-! crossbarref07_Bloom -/
noncomputable def L_crossbarref07_Bloom_0 : Code := loopAt Go.Proofs.Tryz.f80 0

theorem vc_crossbarref07_Bloom (x0 : Int) (x1 : Int) (H : Heap) (R : Value → Heap → Prop) :
    (
 LA en L_crossbarref07_Bloom_0 [(.int .u64 x0), (.int .i64 x1), undef, undef, (.int .i64 0), (.int .u64 0), (.int .u64 (IntKind.u64.wrap (x0 * 14029467366897019727))), (.int .u64 0), (.int .i64 0), undef, (.int .u64 x0), (.int .u64 (IntKind.u64.wrap (x0 * 14029467366897019727))), undef, undef, undef, undef, undef, undef, undef, undef, undef, undef, undef, undef, undef, undef, undef, undef, undef, undef, undef, undef, undef, undef, undef, undef, undef, undef, undef, undef, undef, undef, undef, undef, undef] H [(X.exit 0, fun (y1 : Fr) (H2 : Heap) =>
 AS.asInt .u64 (y1.getD 7 undef) fun n3 =>
 CA en F.crossbarref07_Bucket [(.int .u64 x0), (.int .i64 x1)] H2 fun v4 H5 =>
 ∃ n6, v4 = (.int .i64 n6) ∧
 R (.tuple #[(.int .i64 n6), (.int .u64 n3)]) H5)]) →
    CA en F.crossbarref07_Bloom [(.int .u64 x0), (.int .i64 x1)] H R := by
  intro h
  refine wpFn_ok (Z := [[(7, (.int .u64 0))]]) (fn := Go.Proofs.Tryz.f80) ?_ ?_ ?_
  · kernel_rfl
  · kernel_rfl
  · apply turnInto h
    kernel_rfl

theorem use_crossbarref07_Bloom_0 {t0 : Int} {t1 : Int} {t6 : Int} {t10 : Int} {t11 : Int} {K0 : Fr → Heap → Prop} {t7 : Int} {t8 : Int} {t9 : Value} {t12 : Value} {t13 : Value} {t14 : Value} {t15 : Value} {t16 : Value} {t17 : Value} {t18 : Value} {t19 : Value} {t20 : Value} {t21 : Value} {t22 : Value} {t23 : Value} {t24 : Value} {t25 : Value} {t26 : Value} {t27 : Value} {t28 : Value} {t29 : Value} {t30 : Value} {t31 : Value} {t32 : Value} {t33 : Value} {t34 : Value} {t35 : Value} {t36 : Value} {t37 : Value} {t38 : Value} {t39 : Value} {t40 : Value} {H : Heap} (I : Nat → Int → Int → Heap → Prop) (n : Nat) (h0 : I n t7 t8 H)
    (hstep : ∀ (n : Nat) (t7 : Int) (t8 : Int) (ys : Fr) (H : Heap), I n t7 t8 H →
    (
 bif (decide (t8 < 64)) then (
 nn 58 ∧
 bif ((Int.fdiv t6 288230376151711744) == (IntKind.u64.wrap t8)) then (
 nn (IntKind.u64.wrap t8) ∧
 ∃ k1, k1 < n ∧
 I k1 (IntKind.u64.wrap (t7 + (IntKind.u64.wrap (1 * 2 ^ (min (IntKind.u64.wrap t8).toNat 64))))) (IntKind.i64.wrap (t8 + 1)) H)
 else (
 nn 52 ∧
 nz 64 ∧
 bif ((Int.tmod (Int.fdiv t6 4503599627370496) 64) == (IntKind.u64.wrap t8)) then (
 nn (IntKind.u64.wrap t8) ∧
 ∃ k2, k2 < n ∧
 I k2 (IntKind.u64.wrap (t7 + (IntKind.u64.wrap (1 * 2 ^ (min (IntKind.u64.wrap t8).toNat 64))))) (IntKind.i64.wrap (t8 + 1)) H)
 else (
 nn 46 ∧
 nz 64 ∧
 bif ((Int.tmod (Int.fdiv t6 70368744177664) 64) == (IntKind.u64.wrap t8)) then (
 nn (IntKind.u64.wrap t8) ∧
 ∃ k3, k3 < n ∧
 I k3 (IntKind.u64.wrap (t7 + (IntKind.u64.wrap (1 * 2 ^ (min (IntKind.u64.wrap t8).toNat 64))))) (IntKind.i64.wrap (t8 + 1)) H)
 else (
 ∃ k4, k4 < n ∧
 I k4 t7 (IntKind.i64.wrap (t8 + 1)) H))))
 else (
 K0 [(.int .u64 t0), (.int .i64 t1), undef, undef, (.int .i64 0), (.int .u64 0), (.int .u64 t6), (.int .u64 t7), (.int .i64 t8), (ys.getD 9 undef), (.int .u64 t10), (.int .u64 t11), (.int .i64 t8), (.bool false), (ys.getD 14 undef), (ys.getD 15 undef), (ys.getD 16 undef), (ys.getD 17 undef), (ys.getD 18 undef), (ys.getD 19 undef), (ys.getD 20 undef), (ys.getD 21 undef), (ys.getD 22 undef), (ys.getD 23 undef), (ys.getD 24 undef), (ys.getD 25 undef), (ys.getD 26 undef), (ys.getD 27 undef), (ys.getD 28 undef), (ys.getD 29 undef), (ys.getD 30 undef), (ys.getD 31 undef), (ys.getD 32 undef), (ys.getD 33 undef), (ys.getD 34 undef), (ys.getD 35 undef), (ys.getD 36 undef), (ys.getD 37 undef), (ys.getD 38 undef), (ys.getD 39 undef), (ys.getD 40 undef), undef, undef, undef, undef] H))) :
    LA en L_crossbarref07_Bloom_0 [(.int .u64 t0), (.int .i64 t1), undef, undef, (.int .i64 0), (.int .u64 0), (.int .u64 t6), (.int .u64 t7), (.int .i64 t8), t9, (.int .u64 t10), (.int .u64 t11), t12, t13, t14, t15, t16, t17, t18, t19, t20, t21, t22, t23, t24, t25, t26, t27, t28, t29, t30, t31, t32, t33, t34, t35, t36, t37, t38, t39, t40, undef, undef, undef, undef] H [(X.exit 0, K0)] := by
  refine LA_rule (Z := []) (fun m xs H' => AS.asInt .u64 (xs.getD 7 undef) fun t7 => AS.asInt .i64 (xs.getD 8 undef) fun t8 => I m t7 t8 H') ?_ n H ?_
  · intro n H
    suffices hs : ∀ s12 : Value, ∀ s13 : Value, ∀ s16 : Value, ∀ s17 : Value, ∀ s9 : Value, ∀ s18 : Value, ∀ s19 : Value, ∀ s20 : Value, ∀ s21 : Value, ∀ s22 : Value, ∀ s23 : Value, ∀ s24 : Value, ∀ s25 : Value, ∀ s26 : Value, ∀ s27 : Value, ∀ s28 : Value, ∀ s29 : Value, ∀ s30 : Value, ∀ s31 : Value, ∀ s32 : Value, ∀ s33 : Value, ∀ s34 : Value, ∀ s35 : Value, ∀ s36 : Value, ∀ s37 : Value, ∀ s38 : Value, ∀ s39 : Value, ∀ s40 : Value, ∀ s7 : Value, ∀ s14 : Value, ∀ s15 : Value, ∀ s8 : Value, ((AS.asInt .u64 s7 fun t7 => AS.asInt .i64 s8 fun t8 => I n t7 t8 H) → wpCode en L_crossbarref07_Bloom_0 [] [(.int .u64 t0), (.int .i64 t1), undef, undef, (.int .i64 0), (.int .u64 0), (.int .u64 t6), s7, s8, s9, (.int .u64 t10), (.int .u64 t11), s12, s13, s14, s15, s16, s17, s18, s19, s20, s21, s22, s23, s24, s25, s26, s27, s28, s29, s30, s31, s32, s33, s34, s35, s36, s37, s38, s39, s40, undef, undef, undef, undef] H (loopQ (fun m xs H' => AS.asInt .u64 (xs.getD 7 undef) fun t7 => AS.asInt .i64 (xs.getD 8 undef) fun t8 => I m t7 t8 H') n [(X.exit 0, K0)])) by
      apply turnInto hs
      kernel_rfl
    intro s12 s13 s16 s17 s9 s18 s19 s20 s21 s22 s23 s24 s25 s26 s27 s28 s29 s30 s31 s32 s33 s34 s35 s36 s37 s38 s39 s40 s7 s14 s15 s8 hP
    replace hP := asInt_elim hP
    obtain ⟨t7, rfl, hP⟩ := hP
    replace hP := asInt_elim hP
    obtain ⟨t8, rfl, hP⟩ := hP
    apply turnInto (hstep n t7 t8 [(.int .u64 t0), (.int .i64 t1), undef, undef, (.int .i64 0), (.int .u64 0), (.int .u64 t6), (.int .u64 t7), (.int .i64 t8), s9, (.int .u64 t10), (.int .u64 t11), s12, s13, s14, s15, s16, s17, s18, s19, s20, s21, s22, s23, s24, s25, s26, s27, s28, s29, s30, s31, s32, s33, s34, s35, s36, s37, s38, s39, s40, undef, undef, undef, undef] H hP)
    kernel_rfl
  · apply turnInto h0
    kernel_rfl


/-! crossbarref07_Bucket -/

theorem vc_crossbarref07_Bucket (x0 : Int) (x1 : Int) (H : Heap) (R : Value → Heap → Prop) :
    (
 bif (decide (x1 < 1)) then (
 R (.int .i64 0) H)
 else (
 nz 4294967296 ∧
 nz (IntKind.u64.wrap x1) ∧
 R (.int .i64 (IntKind.i64.wrap (Int.tmod (IntKind.u64.wrap (Int.tdiv (IntKind.u64.wrap (x0 * 11400714819323198485)) 4294967296)) (IntKind.u64.wrap x1)))) H)) →
    CA en F.crossbarref07_Bucket [(.int .u64 x0), (.int .i64 x1)] H R := by
  intro h
  refine wpFn_ok (Z := []) (fn := Go.Proofs.Tryz.f93) ?_ ?_ ?_
  · kernel_rfl
  · kernel_rfl
  · apply turnInto h
    kernel_rfl


/-! crossbarref07_Ahead -/

theorem vc_crossbarref07_Ahead (x0_0 : Int) (x0_1 : Int) (x0_2 : Int) (x0_3 : Int) (x0_4 : Int) (x1 : Int) (x2 : Int) (H : Heap) (R : Value → Heap → Prop) :
    (
 nwH H (.cells true 0 [(.int .i64 x0_0), (.int .i64 x0_1), (.int .i64 x0_2), (.int .i64 x0_3), (.int .i64 x0_4)]) fun i1 H2 =>
 ∃ n3, H2.cell i1 0 = some (.int .i64 n3) ∧
 bif (n3 == 4) then (
 ∃ n4, H2.cell i1 3 = some (.int .i64 n4) ∧
 CA en F.crossbarref07_Bucket [(.int .u64 x1), (.int .i64 n4)] H2 fun v5 H6 =>
 ∃ n7, v5 = (.int .i64 n7) ∧
 ∃ n8, H6.cell i1 3 = some (.int .i64 n8) ∧
 CA en F.crossbarref07_Bucket [(.int .u64 x2), (.int .i64 n8)] H6 fun v9 H10 =>
 ∃ n11, v9 = (.int .i64 n11) ∧
 bif (n7 != n11) then (
 R (.bool (decide (n7 < n11))) H10)
 else (
 R (.bool (decide (x1 < x2))) H10))
 else (
 ∃ n12, H2.cell i1 0 = some (.int .i64 n12) ∧
 bif (n12 == 10) then (
 ∃ n13, H2.cell i1 3 = some (.int .i64 n13) ∧
 CA en F.crossbarref07_Bucket [(.int .u64 x1), (.int .i64 n13)] H2 fun v14 H15 =>
 ∃ n16, v14 = (.int .i64 n16) ∧
 ∃ n17, H15.cell i1 3 = some (.int .i64 n17) ∧
 CA en F.crossbarref07_Bucket [(.int .u64 x2), (.int .i64 n17)] H15 fun v18 H19 =>
 ∃ n20, v18 = (.int .i64 n20) ∧
 bif (n16 != n20) then (
 R (.bool (decide (n16 < n20))) H19)
 else (
 R (.bool (decide (x1 < x2))) H19))
 else (
 R (.bool (decide (x1 < x2))) H2))) →
    CA en F.crossbarref07_Ahead [(.agg #[(.int .i64 x0_0), (.int .i64 x0_1), (.int .i64 x0_2), (.int .i64 x0_3), (.int .i64 x0_4)]), (.int .u64 x1), (.int .u64 x2)] H R := by
  intro h
  refine wpFn_ok (Z := []) (fn := Go.Proofs.Tryz.f94) ?_ ?_ ?_
  · kernel_rfl
  · kernel_rfl
  · apply turnInto h
    kernel_rfl

end Go.Proofs.YtgpacebjbdhphaaGreat
