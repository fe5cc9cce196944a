/-
  What functions of this seat's program need (printed by a program, checked by the kernel).
-/
import Derived.Test.YtgpacebjbdhphaaGreatNames
import Derived.Test.YtgpacebjbdhphaaGreatAs41
namespace Go.Proofs.YtgpacebjbdhphaaGreat
open Go Go.AS Go.RowKit
set_option linter.unusedVariables false
set_option maxRecDepth 100000
set_option maxHeartbeats 2000000

/-! decl_Check -/
noncomputable def L_decl_Check_0 : Code := loopAt Go.Proofs.Tryz.f35 0

theorem vc_decl_Check (x0 : Option Addr) (x0l : Nat) (H : Heap) (R : Value → Heap → Prop) :
    (
 bif (decide (((x0l : Nat) : Int) > 10)) then (
 R (.int .i64 19) H)
 else (
 LA en L_decl_Check_0 [(.slice x0 x0l 0), undef, (.int .i64 0), undef, undef, undef, (.slice x0 x0l 0), (.int .i64 ((x0l : Nat) : Int)), (.bool false), (.slice x0 x0l 0), (.int .i64 ((x0l : Nat) : Int)), (.int .i64 0), undef, undef, undef, undef, undef, undef, undef, undef, undef, undef] H [(X.exit 0, fun (y1 : Fr) (H2 : Heap) =>
 AS.asInt .i64 (y1.getD 2 undef) fun n3 =>
 R (.int .i64 0) H2),
 (X.ret, fun (y4 : Fr) (H5 : Heap) =>
 AS.asInt .i64 (y4.getD 2 undef) fun n6 =>
 R (.int .i64 n6) H5)])) →
    CA en F.decl_Check [(.slice x0 x0l 0)] H R := by
  intro h
  refine wpFn_ok (Z := [[(2, (.int .i64 0))]]) (fn := Go.Proofs.Tryz.f35) ?_ ?_ ?_
  · kernel_rfl
  · kernel_rfl
  · apply turnInto h
    kernel_rfl

theorem use_decl_Check_0 {t0 : Option Addr} {t0l : Nat} {t6 : Option Addr} {t6l : Nat} {t7 : Int} {t9 : Option Addr} {t9l : Nat} {t10 : Int} {K0 : Fr → Heap → Prop} {K1 : Fr → Heap → Prop} {t2 : Int} {t11 : Int} {t4 : Value} {t5 : Value} {t12 : Value} {t13 : Value} {t14 : Value} {t15 : Value} {t16 : Value} {t17 : Value} {t18 : Value} {t19 : Value} {t20 : Value} {t21 : Value} {H : Heap} (I : Nat → Int → Int → Heap → Prop) (n : Nat) (h0 : I n t2 t11 H)
    (hstep : ∀ (n : Nat) (t2 : Int) (t11 : Int) (ys : Fr) (H : Heap), I n t2 t11 H →
    (
 bif (decide (t11 < t10)) then (
 inB t11 t9l ∧
 asRow t9 fun i1 i2 =>
 ∃ n3, ∃ n4, ∃ n5, ∃ n6, ∃ n7, H.cellsAt i1 (i2 + (t11.toNat * 5)) 5 = some [(.int .i64 n3), (.int .i64 n4), (.int .i64 n5), (.int .i64 n6), (.int .i64 n7)] ∧
 nwH H (.cells true 0 [(.int .i64 0), (.int .i64 0), (.int .i64 0), (.int .i64 0), (.int .i64 0)]) fun i8 H9 =>
 stc H9 i8 0 [(.int .i64 n3), (.int .i64 n4), (.int .i64 n5), (.int .i64 n6), (.int .i64 n7)] fun H10 =>
 ∃ n11, ∃ n12, ∃ n13, ∃ n14, ∃ n15, H10.cellsAt i8 0 5 = some [(.int .i64 n11), (.int .i64 n12), (.int .i64 n13), (.int .i64 n14), (.int .i64 n15)] ∧
 CA en F.decl_check [(.slice t0 t0l 0), (.agg #[(.int .i64 n11), (.int .i64 n12), (.int .i64 n13), (.int .i64 n14), (.int .i64 n15)])] H10 fun v16 H17 =>
 ∃ n18, v16 = (.int .i64 n18) ∧
 bif (n18 != 0) then (
 K1 [(.slice t0 t0l 0), undef, (.int .i64 n18), undef, (.pointer (some ⟨i8, 0, none⟩)), (.int .i64 n18), (.slice t6 t6l 0), (.int .i64 t7), (.bool false), (.slice t9 t9l 0), (.int .i64 t10), (.int .i64 t11), (.bool true), (.pointer (some ⟨i1, (i2 + (t11.toNat * 5)), none⟩)), (.agg #[(.int .i64 n3), (.int .i64 n4), (.int .i64 n5), (.int .i64 n6), (.int .i64 n7)]), (.slice t0 t0l 0), (.agg #[(.int .i64 n11), (.int .i64 n12), (.int .i64 n13), (.int .i64 n14), (.int .i64 n15)]), (.int .i64 n18), (.int .i64 n18), (.bool true), (.int .i64 n18), (ys.getD 21 undef)] H17)
 else (
 ∃ k19, k19 < n ∧
 I k19 t2 (IntKind.i64.wrap (t11 + 1)) H17))
 else (
 K0 [(.slice t0 t0l 0), undef, (.int .i64 t2), undef, (ys.getD 4 undef), (ys.getD 5 undef), (.slice t6 t6l 0), (.int .i64 t7), (.bool false), (.slice t9 t9l 0), (.int .i64 t10), (.int .i64 t11), (.bool false), (ys.getD 13 undef), (ys.getD 14 undef), (ys.getD 15 undef), (ys.getD 16 undef), (ys.getD 17 undef), (ys.getD 18 undef), (ys.getD 19 undef), (ys.getD 20 undef), (ys.getD 21 undef)] H))) :
    LA en L_decl_Check_0 [(.slice t0 t0l 0), undef, (.int .i64 t2), undef, t4, t5, (.slice t6 t6l 0), (.int .i64 t7), (.bool false), (.slice t9 t9l 0), (.int .i64 t10), (.int .i64 t11), t12, t13, t14, t15, t16, t17, t18, t19, t20, t21] H [(X.exit 0, K0), (X.ret, K1)] := by
  refine LA_rule (Z := []) (fun m xs H' => AS.asInt .i64 (xs.getD 2 undef) fun t2 => AS.asInt .i64 (xs.getD 11 undef) fun t11 => I m t2 t11 H') ?_ n H ?_
  · intro n H
    suffices hs : ∀ s12 : Value, ∀ s13 : Value, ∀ s14 : Value, ∀ s4 : Value, ∀ s15 : Value, ∀ s16 : Value, ∀ s17 : Value, ∀ s5 : Value, ∀ s18 : Value, ∀ s19 : Value, ∀ s20 : Value, ∀ s2 : Value, ∀ s21 : Value, ∀ s11 : Value, ((AS.asInt .i64 s2 fun t2 => AS.asInt .i64 s11 fun t11 => I n t2 t11 H) → wpCode en L_decl_Check_0 [] [(.slice t0 t0l 0), undef, s2, undef, s4, s5, (.slice t6 t6l 0), (.int .i64 t7), (.bool false), (.slice t9 t9l 0), (.int .i64 t10), s11, s12, s13, s14, s15, s16, s17, s18, s19, s20, s21] H (loopQ (fun m xs H' => AS.asInt .i64 (xs.getD 2 undef) fun t2 => AS.asInt .i64 (xs.getD 11 undef) fun t11 => I m t2 t11 H') n [(X.exit 0, K0), (X.ret, K1)])) by
      apply turnInto hs
      kernel_rfl
    intro s12 s13 s14 s4 s15 s16 s17 s5 s18 s19 s20 s2 s21 s11 hP
    replace hP := asInt_elim hP
    obtain ⟨t2, rfl, hP⟩ := hP
    replace hP := asInt_elim hP
    obtain ⟨t11, rfl, hP⟩ := hP
    apply turnInto (hstep n t2 t11 [(.slice t0 t0l 0), undef, (.int .i64 t2), undef, s4, s5, (.slice t6 t6l 0), (.int .i64 t7), (.bool false), (.slice t9 t9l 0), (.int .i64 t10), (.int .i64 t11), s12, s13, s14, s15, s16, s17, s18, s19, s20, s21] H hP)
    kernel_rfl
  · apply turnInto h0
    kernel_rfl


/-! decl_check -/

theorem vc_decl_check (x0 : Option Addr) (x0l : Nat) (x1_0 : Int) (x1_1 : Int) (x1_2 : Int) (x1_3 : Int) (x1_4 : Int) (H : Heap) (R : Value → Heap → Prop) :
    (
 nwH H (.cells true 0 [(.int .i64 x1_0), (.int .i64 x1_1), (.int .i64 x1_2), (.int .i64 x1_3), (.int .i64 x1_4)]) fun i1 H2 =>
 ∃ n3, H2.cell i1 0 = some (.int .i64 n3) ∧
 CA en F.decl_kinds [(.int .i64 n3)] H2 fun v4 H5 =>
 ∃ n6, ∃ b7, ∃ b8, ∃ a9 i10, ∃ b11, ∃ b12, v4 = (.tuple #[(.agg #[(.int .i64 n6), (.bool b7), (.bool b8), (.slice a9 i10 0), (.bool b11)]), (.bool b12)]) ∧
 nwH H5 (.cells true 0 [(.int .i64 0), (.bool false), (.bool false), (.slice none 0 0), (.bool false)]) fun i13 H14 =>
 stc H14 i13 0 [(.int .i64 n6), (.bool b7), (.bool b8), (.slice a9 i10 0), (.bool b11)] fun H15 =>
 bif (!b12) then (
 R (.int .i64 1) H15)
 else (
 ∃ n16, H15.cell i1 1 = some (.int .i64 n16) ∧
 CA en F.decl_within [(.int .i64 n16), (.int .i64 64)] H15 fun v17 H18 =>
 ∃ b19, v17 = (.bool b19) ∧
 bif (!b19) then (
 R (.int .i64 1) H18)
 else (
 ∃ n20, H18.cell i1 2 = some (.int .i64 n20) ∧
 ∃ n21, H18.cell i13 0 = some (.int .i64 n21) ∧
 CA en F.decl_within [(.int .i64 n20), (.int .i64 n21)] H18 fun v22 H23 =>
 ∃ b24, v22 = (.bool b24) ∧
 bif (!b24) then (
 R (.int .i64 1) H23)
 else (
 ∃ b25, H23.cell i13 1 = some (.bool b25) ∧
 bif b25 then (
 ∃ n26, H23.cell i1 3 = some (.int .i64 n26) ∧
 CA en F.decl_within [(.int .i64 n26), (.int .i64 32)] H23 fun v27 H28 =>
 ∃ b29, v27 = (.bool b29) ∧
 bif (!b29) then (
 R (.int .i64 1) H28)
 else (
 ∃ n30, H28.cell i1 3 = some (.int .i64 n30) ∧
 CA en F.math_bits_OnesCount [(.int .u64 (IntKind.u64.wrap n30))] H28 fun v31 H32 =>
 ∃ n33, v31 = (.int .i64 n33) ∧
 bif (n33 != 1) then (
 R (.int .i64 1) H32)
 else (
 ∃ b34, H32.cell i13 1 = some (.bool b34) ∧
 bif (!b34) then (
 ∃ n35, H32.cell i1 3 = some (.int .i64 n35) ∧
 bif (n35 != 0) then (
 R (.int .i64 1) H32)
 else (
 ∃ b36, H32.cell i13 2 = some (.bool b36) ∧
 bif b36 then (
 ∃ n37, H32.cell i1 4 = some (.int .i64 n37) ∧
 CA en F.decl_within [(.int .i64 n37), (.int .i64 ((x0l : Nat) : Int))] H32 fun v38 H39 =>
 ∃ b40, v38 = (.bool b40) ∧
 bif (!b40) then (
 R (.int .i64 1) H39)
 else (
 ∃ b41, H39.cell i13 2 = some (.bool b41) ∧
 bif (!b41) then (
 ∃ n42, H39.cell i1 4 = some (.int .i64 n42) ∧
 bif (n42 != 0) then (
 R (.int .i64 1) H39)
 else (
 ∃ b43, H39.cell i13 2 = some (.bool b43) ∧
 bif b43 then (
 ∃ n44, H39.cell i1 4 = some (.int .i64 n44) ∧
 inB (IntKind.i64.wrap (n44 - 1)) x0l ∧
 asRow x0 fun i45 i46 =>
 ∃ n47, H39.cell i45 (i46 + ((IntKind.i64.wrap (n44 - 1)).toNat * 5)) = some (.int .i64 n47) ∧
 CA en F.decl_kinds [(.int .i64 n47)] H39 fun v48 H49 =>
 ∃ n50, ∃ b51, ∃ b52, ∃ a53 i54, ∃ b55, ∃ b56, v48 = (.tuple #[(.agg #[(.int .i64 n50), (.bool b51), (.bool b52), (.slice a53 i54 0), (.bool b55)]), (.bool b56)]) ∧
 nwH H49 (.cells true 0 [(.int .i64 0), (.bool false), (.bool false), (.slice none 0 0), (.bool false)]) fun i57 H58 =>
 stc H58 i57 0 [(.int .i64 n50), (.bool b51), (.bool b52), (.slice a53 i54 0), (.bool b55)] fun H59 =>
 ∃ b60, H59.cell i57 2 = some (.bool b60) ∧
 bif b60 then (
 R (.int .i64 14) H59)
 else (
 R (.int .i64 0) H59))
 else (
 R (.int .i64 0) H39)))
 else (
 ∃ b61, H39.cell i13 2 = some (.bool b61) ∧
 bif b61 then (
 ∃ n62, H39.cell i1 4 = some (.int .i64 n62) ∧
 inB (IntKind.i64.wrap (n62 - 1)) x0l ∧
 asRow x0 fun i63 i64 =>
 ∃ n65, H39.cell i63 (i64 + ((IntKind.i64.wrap (n62 - 1)).toNat * 5)) = some (.int .i64 n65) ∧
 CA en F.decl_kinds [(.int .i64 n65)] H39 fun v66 H67 =>
 ∃ n68, ∃ b69, ∃ b70, ∃ a71 i72, ∃ b73, ∃ b74, v66 = (.tuple #[(.agg #[(.int .i64 n68), (.bool b69), (.bool b70), (.slice a71 i72 0), (.bool b73)]), (.bool b74)]) ∧
 nwH H67 (.cells true 0 [(.int .i64 0), (.bool false), (.bool false), (.slice none 0 0), (.bool false)]) fun i75 H76 =>
 stc H76 i75 0 [(.int .i64 n68), (.bool b69), (.bool b70), (.slice a71 i72 0), (.bool b73)] fun H77 =>
 ∃ b78, H77.cell i75 2 = some (.bool b78) ∧
 bif b78 then (
 R (.int .i64 14) H77)
 else (
 R (.int .i64 0) H77))
 else (
 R (.int .i64 0) H39))))
 else (
 ∃ b79, H32.cell i13 2 = some (.bool b79) ∧
 bif (!b79) then (
 ∃ n80, H32.cell i1 4 = some (.int .i64 n80) ∧
 bif (n80 != 0) then (
 R (.int .i64 1) H32)
 else (
 ∃ b81, H32.cell i13 2 = some (.bool b81) ∧
 bif b81 then (
 ∃ n82, H32.cell i1 4 = some (.int .i64 n82) ∧
 inB (IntKind.i64.wrap (n82 - 1)) x0l ∧
 asRow x0 fun i83 i84 =>
 ∃ n85, H32.cell i83 (i84 + ((IntKind.i64.wrap (n82 - 1)).toNat * 5)) = some (.int .i64 n85) ∧
 CA en F.decl_kinds [(.int .i64 n85)] H32 fun v86 H87 =>
 ∃ n88, ∃ b89, ∃ b90, ∃ a91 i92, ∃ b93, ∃ b94, v86 = (.tuple #[(.agg #[(.int .i64 n88), (.bool b89), (.bool b90), (.slice a91 i92 0), (.bool b93)]), (.bool b94)]) ∧
 nwH H87 (.cells true 0 [(.int .i64 0), (.bool false), (.bool false), (.slice none 0 0), (.bool false)]) fun i95 H96 =>
 stc H96 i95 0 [(.int .i64 n88), (.bool b89), (.bool b90), (.slice a91 i92 0), (.bool b93)] fun H97 =>
 ∃ b98, H97.cell i95 2 = some (.bool b98) ∧
 bif b98 then (
 R (.int .i64 14) H97)
 else (
 R (.int .i64 0) H97))
 else (
 R (.int .i64 0) H32)))
 else (
 ∃ b99, H32.cell i13 2 = some (.bool b99) ∧
 bif b99 then (
 ∃ n100, H32.cell i1 4 = some (.int .i64 n100) ∧
 inB (IntKind.i64.wrap (n100 - 1)) x0l ∧
 asRow x0 fun i101 i102 =>
 ∃ n103, H32.cell i101 (i102 + ((IntKind.i64.wrap (n100 - 1)).toNat * 5)) = some (.int .i64 n103) ∧
 CA en F.decl_kinds [(.int .i64 n103)] H32 fun v104 H105 =>
 ∃ n106, ∃ b107, ∃ b108, ∃ a109 i110, ∃ b111, ∃ b112, v104 = (.tuple #[(.agg #[(.int .i64 n106), (.bool b107), (.bool b108), (.slice a109 i110 0), (.bool b111)]), (.bool b112)]) ∧
 nwH H105 (.cells true 0 [(.int .i64 0), (.bool false), (.bool false), (.slice none 0 0), (.bool false)]) fun i113 H114 =>
 stc H114 i113 0 [(.int .i64 n106), (.bool b107), (.bool b108), (.slice a109 i110 0), (.bool b111)] fun H115 =>
 ∃ b116, H115.cell i113 2 = some (.bool b116) ∧
 bif b116 then (
 R (.int .i64 14) H115)
 else (
 R (.int .i64 0) H115))
 else (
 R (.int .i64 0) H32)))))
 else (
 ∃ b117, H32.cell i13 2 = some (.bool b117) ∧
 bif b117 then (
 ∃ n118, H32.cell i1 4 = some (.int .i64 n118) ∧
 CA en F.decl_within [(.int .i64 n118), (.int .i64 ((x0l : Nat) : Int))] H32 fun v119 H120 =>
 ∃ b121, v119 = (.bool b121) ∧
 bif (!b121) then (
 R (.int .i64 1) H120)
 else (
 ∃ b122, H120.cell i13 2 = some (.bool b122) ∧
 bif (!b122) then (
 ∃ n123, H120.cell i1 4 = some (.int .i64 n123) ∧
 bif (n123 != 0) then (
 R (.int .i64 1) H120)
 else (
 ∃ b124, H120.cell i13 2 = some (.bool b124) ∧
 bif b124 then (
 ∃ n125, H120.cell i1 4 = some (.int .i64 n125) ∧
 inB (IntKind.i64.wrap (n125 - 1)) x0l ∧
 asRow x0 fun i126 i127 =>
 ∃ n128, H120.cell i126 (i127 + ((IntKind.i64.wrap (n125 - 1)).toNat * 5)) = some (.int .i64 n128) ∧
 CA en F.decl_kinds [(.int .i64 n128)] H120 fun v129 H130 =>
 ∃ n131, ∃ b132, ∃ b133, ∃ a134 i135, ∃ b136, ∃ b137, v129 = (.tuple #[(.agg #[(.int .i64 n131), (.bool b132), (.bool b133), (.slice a134 i135 0), (.bool b136)]), (.bool b137)]) ∧
 nwH H130 (.cells true 0 [(.int .i64 0), (.bool false), (.bool false), (.slice none 0 0), (.bool false)]) fun i138 H139 =>
 stc H139 i138 0 [(.int .i64 n131), (.bool b132), (.bool b133), (.slice a134 i135 0), (.bool b136)] fun H140 =>
 ∃ b141, H140.cell i138 2 = some (.bool b141) ∧
 bif b141 then (
 R (.int .i64 14) H140)
 else (
 R (.int .i64 0) H140))
 else (
 R (.int .i64 0) H120)))
 else (
 ∃ b142, H120.cell i13 2 = some (.bool b142) ∧
 bif b142 then (
 ∃ n143, H120.cell i1 4 = some (.int .i64 n143) ∧
 inB (IntKind.i64.wrap (n143 - 1)) x0l ∧
 asRow x0 fun i144 i145 =>
 ∃ n146, H120.cell i144 (i145 + ((IntKind.i64.wrap (n143 - 1)).toNat * 5)) = some (.int .i64 n146) ∧
 CA en F.decl_kinds [(.int .i64 n146)] H120 fun v147 H148 =>
 ∃ n149, ∃ b150, ∃ b151, ∃ a152 i153, ∃ b154, ∃ b155, v147 = (.tuple #[(.agg #[(.int .i64 n149), (.bool b150), (.bool b151), (.slice a152 i153 0), (.bool b154)]), (.bool b155)]) ∧
 nwH H148 (.cells true 0 [(.int .i64 0), (.bool false), (.bool false), (.slice none 0 0), (.bool false)]) fun i156 H157 =>
 stc H157 i156 0 [(.int .i64 n149), (.bool b150), (.bool b151), (.slice a152 i153 0), (.bool b154)] fun H158 =>
 ∃ b159, H158.cell i156 2 = some (.bool b159) ∧
 bif b159 then (
 R (.int .i64 14) H158)
 else (
 R (.int .i64 0) H158))
 else (
 R (.int .i64 0) H120))))
 else (
 ∃ b160, H32.cell i13 2 = some (.bool b160) ∧
 bif (!b160) then (
 ∃ n161, H32.cell i1 4 = some (.int .i64 n161) ∧
 bif (n161 != 0) then (
 R (.int .i64 1) H32)
 else (
 ∃ b162, H32.cell i13 2 = some (.bool b162) ∧
 bif b162 then (
 ∃ n163, H32.cell i1 4 = some (.int .i64 n163) ∧
 inB (IntKind.i64.wrap (n163 - 1)) x0l ∧
 asRow x0 fun i164 i165 =>
 ∃ n166, H32.cell i164 (i165 + ((IntKind.i64.wrap (n163 - 1)).toNat * 5)) = some (.int .i64 n166) ∧
 CA en F.decl_kinds [(.int .i64 n166)] H32 fun v167 H168 =>
 ∃ n169, ∃ b170, ∃ b171, ∃ a172 i173, ∃ b174, ∃ b175, v167 = (.tuple #[(.agg #[(.int .i64 n169), (.bool b170), (.bool b171), (.slice a172 i173 0), (.bool b174)]), (.bool b175)]) ∧
 nwH H168 (.cells true 0 [(.int .i64 0), (.bool false), (.bool false), (.slice none 0 0), (.bool false)]) fun i176 H177 =>
 stc H177 i176 0 [(.int .i64 n169), (.bool b170), (.bool b171), (.slice a172 i173 0), (.bool b174)] fun H178 =>
 ∃ b179, H178.cell i176 2 = some (.bool b179) ∧
 bif b179 then (
 R (.int .i64 14) H178)
 else (
 R (.int .i64 0) H178))
 else (
 R (.int .i64 0) H32)))
 else (
 ∃ b180, H32.cell i13 2 = some (.bool b180) ∧
 bif b180 then (
 ∃ n181, H32.cell i1 4 = some (.int .i64 n181) ∧
 inB (IntKind.i64.wrap (n181 - 1)) x0l ∧
 asRow x0 fun i182 i183 =>
 ∃ n184, H32.cell i182 (i183 + ((IntKind.i64.wrap (n181 - 1)).toNat * 5)) = some (.int .i64 n184) ∧
 CA en F.decl_kinds [(.int .i64 n184)] H32 fun v185 H186 =>
 ∃ n187, ∃ b188, ∃ b189, ∃ a190 i191, ∃ b192, ∃ b193, v185 = (.tuple #[(.agg #[(.int .i64 n187), (.bool b188), (.bool b189), (.slice a190 i191 0), (.bool b192)]), (.bool b193)]) ∧
 nwH H186 (.cells true 0 [(.int .i64 0), (.bool false), (.bool false), (.slice none 0 0), (.bool false)]) fun i194 H195 =>
 stc H195 i194 0 [(.int .i64 n187), (.bool b188), (.bool b189), (.slice a190 i191 0), (.bool b192)] fun H196 =>
 ∃ b197, H196.cell i194 2 = some (.bool b197) ∧
 bif b197 then (
 R (.int .i64 14) H196)
 else (
 R (.int .i64 0) H196))
 else (
 R (.int .i64 0) H32)))))))
 else (
 ∃ b198, H23.cell i13 1 = some (.bool b198) ∧
 bif (!b198) then (
 ∃ n199, H23.cell i1 3 = some (.int .i64 n199) ∧
 bif (n199 != 0) then (
 R (.int .i64 1) H23)
 else (
 ∃ b200, H23.cell i13 2 = some (.bool b200) ∧
 bif b200 then (
 ∃ n201, H23.cell i1 4 = some (.int .i64 n201) ∧
 CA en F.decl_within [(.int .i64 n201), (.int .i64 ((x0l : Nat) : Int))] H23 fun v202 H203 =>
 ∃ b204, v202 = (.bool b204) ∧
 bif (!b204) then (
 R (.int .i64 1) H203)
 else (
 ∃ b205, H203.cell i13 2 = some (.bool b205) ∧
 bif (!b205) then (
 ∃ n206, H203.cell i1 4 = some (.int .i64 n206) ∧
 bif (n206 != 0) then (
 R (.int .i64 1) H203)
 else (
 ∃ b207, H203.cell i13 2 = some (.bool b207) ∧
 bif b207 then (
 ∃ n208, H203.cell i1 4 = some (.int .i64 n208) ∧
 inB (IntKind.i64.wrap (n208 - 1)) x0l ∧
 asRow x0 fun i209 i210 =>
 ∃ n211, H203.cell i209 (i210 + ((IntKind.i64.wrap (n208 - 1)).toNat * 5)) = some (.int .i64 n211) ∧
 CA en F.decl_kinds [(.int .i64 n211)] H203 fun v212 H213 =>
 ∃ n214, ∃ b215, ∃ b216, ∃ a217 i218, ∃ b219, ∃ b220, v212 = (.tuple #[(.agg #[(.int .i64 n214), (.bool b215), (.bool b216), (.slice a217 i218 0), (.bool b219)]), (.bool b220)]) ∧
 nwH H213 (.cells true 0 [(.int .i64 0), (.bool false), (.bool false), (.slice none 0 0), (.bool false)]) fun i221 H222 =>
 stc H222 i221 0 [(.int .i64 n214), (.bool b215), (.bool b216), (.slice a217 i218 0), (.bool b219)] fun H223 =>
 ∃ b224, H223.cell i221 2 = some (.bool b224) ∧
 bif b224 then (
 R (.int .i64 14) H223)
 else (
 R (.int .i64 0) H223))
 else (
 R (.int .i64 0) H203)))
 else (
 ∃ b225, H203.cell i13 2 = some (.bool b225) ∧
 bif b225 then (
 ∃ n226, H203.cell i1 4 = some (.int .i64 n226) ∧
 inB (IntKind.i64.wrap (n226 - 1)) x0l ∧
 asRow x0 fun i227 i228 =>
 ∃ n229, H203.cell i227 (i228 + ((IntKind.i64.wrap (n226 - 1)).toNat * 5)) = some (.int .i64 n229) ∧
 CA en F.decl_kinds [(.int .i64 n229)] H203 fun v230 H231 =>
 ∃ n232, ∃ b233, ∃ b234, ∃ a235 i236, ∃ b237, ∃ b238, v230 = (.tuple #[(.agg #[(.int .i64 n232), (.bool b233), (.bool b234), (.slice a235 i236 0), (.bool b237)]), (.bool b238)]) ∧
 nwH H231 (.cells true 0 [(.int .i64 0), (.bool false), (.bool false), (.slice none 0 0), (.bool false)]) fun i239 H240 =>
 stc H240 i239 0 [(.int .i64 n232), (.bool b233), (.bool b234), (.slice a235 i236 0), (.bool b237)] fun H241 =>
 ∃ b242, H241.cell i239 2 = some (.bool b242) ∧
 bif b242 then (
 R (.int .i64 14) H241)
 else (
 R (.int .i64 0) H241))
 else (
 R (.int .i64 0) H203))))
 else (
 ∃ b243, H23.cell i13 2 = some (.bool b243) ∧
 bif (!b243) then (
 ∃ n244, H23.cell i1 4 = some (.int .i64 n244) ∧
 bif (n244 != 0) then (
 R (.int .i64 1) H23)
 else (
 ∃ b245, H23.cell i13 2 = some (.bool b245) ∧
 bif b245 then (
 ∃ n246, H23.cell i1 4 = some (.int .i64 n246) ∧
 inB (IntKind.i64.wrap (n246 - 1)) x0l ∧
 asRow x0 fun i247 i248 =>
 ∃ n249, H23.cell i247 (i248 + ((IntKind.i64.wrap (n246 - 1)).toNat * 5)) = some (.int .i64 n249) ∧
 CA en F.decl_kinds [(.int .i64 n249)] H23 fun v250 H251 =>
 ∃ n252, ∃ b253, ∃ b254, ∃ a255 i256, ∃ b257, ∃ b258, v250 = (.tuple #[(.agg #[(.int .i64 n252), (.bool b253), (.bool b254), (.slice a255 i256 0), (.bool b257)]), (.bool b258)]) ∧
 nwH H251 (.cells true 0 [(.int .i64 0), (.bool false), (.bool false), (.slice none 0 0), (.bool false)]) fun i259 H260 =>
 stc H260 i259 0 [(.int .i64 n252), (.bool b253), (.bool b254), (.slice a255 i256 0), (.bool b257)] fun H261 =>
 ∃ b262, H261.cell i259 2 = some (.bool b262) ∧
 bif b262 then (
 R (.int .i64 14) H261)
 else (
 R (.int .i64 0) H261))
 else (
 R (.int .i64 0) H23)))
 else (
 ∃ b263, H23.cell i13 2 = some (.bool b263) ∧
 bif b263 then (
 ∃ n264, H23.cell i1 4 = some (.int .i64 n264) ∧
 inB (IntKind.i64.wrap (n264 - 1)) x0l ∧
 asRow x0 fun i265 i266 =>
 ∃ n267, H23.cell i265 (i266 + ((IntKind.i64.wrap (n264 - 1)).toNat * 5)) = some (.int .i64 n267) ∧
 CA en F.decl_kinds [(.int .i64 n267)] H23 fun v268 H269 =>
 ∃ n270, ∃ b271, ∃ b272, ∃ a273 i274, ∃ b275, ∃ b276, v268 = (.tuple #[(.agg #[(.int .i64 n270), (.bool b271), (.bool b272), (.slice a273 i274 0), (.bool b275)]), (.bool b276)]) ∧
 nwH H269 (.cells true 0 [(.int .i64 0), (.bool false), (.bool false), (.slice none 0 0), (.bool false)]) fun i277 H278 =>
 stc H278 i277 0 [(.int .i64 n270), (.bool b271), (.bool b272), (.slice a273 i274 0), (.bool b275)] fun H279 =>
 ∃ b280, H279.cell i277 2 = some (.bool b280) ∧
 bif b280 then (
 R (.int .i64 14) H279)
 else (
 R (.int .i64 0) H279))
 else (
 R (.int .i64 0) H23)))))
 else (
 ∃ b281, H23.cell i13 2 = some (.bool b281) ∧
 bif b281 then (
 ∃ n282, H23.cell i1 4 = some (.int .i64 n282) ∧
 CA en F.decl_within [(.int .i64 n282), (.int .i64 ((x0l : Nat) : Int))] H23 fun v283 H284 =>
 ∃ b285, v283 = (.bool b285) ∧
 bif (!b285) then (
 R (.int .i64 1) H284)
 else (
 ∃ b286, H284.cell i13 2 = some (.bool b286) ∧
 bif (!b286) then (
 ∃ n287, H284.cell i1 4 = some (.int .i64 n287) ∧
 bif (n287 != 0) then (
 R (.int .i64 1) H284)
 else (
 ∃ b288, H284.cell i13 2 = some (.bool b288) ∧
 bif b288 then (
 ∃ n289, H284.cell i1 4 = some (.int .i64 n289) ∧
 inB (IntKind.i64.wrap (n289 - 1)) x0l ∧
 asRow x0 fun i290 i291 =>
 ∃ n292, H284.cell i290 (i291 + ((IntKind.i64.wrap (n289 - 1)).toNat * 5)) = some (.int .i64 n292) ∧
 CA en F.decl_kinds [(.int .i64 n292)] H284 fun v293 H294 =>
 ∃ n295, ∃ b296, ∃ b297, ∃ a298 i299, ∃ b300, ∃ b301, v293 = (.tuple #[(.agg #[(.int .i64 n295), (.bool b296), (.bool b297), (.slice a298 i299 0), (.bool b300)]), (.bool b301)]) ∧
 nwH H294 (.cells true 0 [(.int .i64 0), (.bool false), (.bool false), (.slice none 0 0), (.bool false)]) fun i302 H303 =>
 stc H303 i302 0 [(.int .i64 n295), (.bool b296), (.bool b297), (.slice a298 i299 0), (.bool b300)] fun H304 =>
 ∃ b305, H304.cell i302 2 = some (.bool b305) ∧
 bif b305 then (
 R (.int .i64 14) H304)
 else (
 R (.int .i64 0) H304))
 else (
 R (.int .i64 0) H284)))
 else (
 ∃ b306, H284.cell i13 2 = some (.bool b306) ∧
 bif b306 then (
 ∃ n307, H284.cell i1 4 = some (.int .i64 n307) ∧
 inB (IntKind.i64.wrap (n307 - 1)) x0l ∧
 asRow x0 fun i308 i309 =>
 ∃ n310, H284.cell i308 (i309 + ((IntKind.i64.wrap (n307 - 1)).toNat * 5)) = some (.int .i64 n310) ∧
 CA en F.decl_kinds [(.int .i64 n310)] H284 fun v311 H312 =>
 ∃ n313, ∃ b314, ∃ b315, ∃ a316 i317, ∃ b318, ∃ b319, v311 = (.tuple #[(.agg #[(.int .i64 n313), (.bool b314), (.bool b315), (.slice a316 i317 0), (.bool b318)]), (.bool b319)]) ∧
 nwH H312 (.cells true 0 [(.int .i64 0), (.bool false), (.bool false), (.slice none 0 0), (.bool false)]) fun i320 H321 =>
 stc H321 i320 0 [(.int .i64 n313), (.bool b314), (.bool b315), (.slice a316 i317 0), (.bool b318)] fun H322 =>
 ∃ b323, H322.cell i320 2 = some (.bool b323) ∧
 bif b323 then (
 R (.int .i64 14) H322)
 else (
 R (.int .i64 0) H322))
 else (
 R (.int .i64 0) H284))))
 else (
 ∃ b324, H23.cell i13 2 = some (.bool b324) ∧
 bif (!b324) then (
 ∃ n325, H23.cell i1 4 = some (.int .i64 n325) ∧
 bif (n325 != 0) then (
 R (.int .i64 1) H23)
 else (
 ∃ b326, H23.cell i13 2 = some (.bool b326) ∧
 bif b326 then (
 ∃ n327, H23.cell i1 4 = some (.int .i64 n327) ∧
 inB (IntKind.i64.wrap (n327 - 1)) x0l ∧
 asRow x0 fun i328 i329 =>
 ∃ n330, H23.cell i328 (i329 + ((IntKind.i64.wrap (n327 - 1)).toNat * 5)) = some (.int .i64 n330) ∧
 CA en F.decl_kinds [(.int .i64 n330)] H23 fun v331 H332 =>
 ∃ n333, ∃ b334, ∃ b335, ∃ a336 i337, ∃ b338, ∃ b339, v331 = (.tuple #[(.agg #[(.int .i64 n333), (.bool b334), (.bool b335), (.slice a336 i337 0), (.bool b338)]), (.bool b339)]) ∧
 nwH H332 (.cells true 0 [(.int .i64 0), (.bool false), (.bool false), (.slice none 0 0), (.bool false)]) fun i340 H341 =>
 stc H341 i340 0 [(.int .i64 n333), (.bool b334), (.bool b335), (.slice a336 i337 0), (.bool b338)] fun H342 =>
 ∃ b343, H342.cell i340 2 = some (.bool b343) ∧
 bif b343 then (
 R (.int .i64 14) H342)
 else (
 R (.int .i64 0) H342))
 else (
 R (.int .i64 0) H23)))
 else (
 ∃ b344, H23.cell i13 2 = some (.bool b344) ∧
 bif b344 then (
 ∃ n345, H23.cell i1 4 = some (.int .i64 n345) ∧
 inB (IntKind.i64.wrap (n345 - 1)) x0l ∧
 asRow x0 fun i346 i347 =>
 ∃ n348, H23.cell i346 (i347 + ((IntKind.i64.wrap (n345 - 1)).toNat * 5)) = some (.int .i64 n348) ∧
 CA en F.decl_kinds [(.int .i64 n348)] H23 fun v349 H350 =>
 ∃ n351, ∃ b352, ∃ b353, ∃ a354 i355, ∃ b356, ∃ b357, v349 = (.tuple #[(.agg #[(.int .i64 n351), (.bool b352), (.bool b353), (.slice a354 i355 0), (.bool b356)]), (.bool b357)]) ∧
 nwH H350 (.cells true 0 [(.int .i64 0), (.bool false), (.bool false), (.slice none 0 0), (.bool false)]) fun i358 H359 =>
 stc H359 i358 0 [(.int .i64 n351), (.bool b352), (.bool b353), (.slice a354 i355 0), (.bool b356)] fun H360 =>
 ∃ b361, H360.cell i358 2 = some (.bool b361) ∧
 bif b361 then (
 R (.int .i64 14) H360)
 else (
 R (.int .i64 0) H360))
 else (
 R (.int .i64 0) H23))))))))) →
    CA en F.decl_check [(.slice x0 x0l 0), (.agg #[(.int .i64 x1_0), (.int .i64 x1_1), (.int .i64 x1_2), (.int .i64 x1_3), (.int .i64 x1_4)])] H R := by
  intro h
  refine wpFn_ok (Z := []) (fn := Go.Proofs.Tryz.f50) ?_ ?_ ?_
  · kernel_rfl
  · kernel_rfl
  · apply turnInto h
    kernel_rfl


/-! math_bits_OnesCount -/

theorem vc_math_bits_OnesCount (x0 : Int) (H : Heap) (R : Value → Heap → Prop) :
    (
 CA en F.math_bits_OnesCount64 [(.int .u64 x0)] H fun v1 H2 =>
 ∃ n3, v1 = (.int .i64 n3) ∧
 R (.int .i64 n3) H2) →
    CA en F.math_bits_OnesCount [(.int .u64 x0)] H R := by
  intro h
  refine wpFn_ok (Z := []) (fn := Go.Proofs.Tryz.f69) ?_ ?_ ?_
  · kernel_rfl
  · kernel_rfl
  · apply turnInto h
    kernel_rfl


/-! math_bits_OnesCount64 -/

theorem vc_math_bits_OnesCount64 (x0 : Int) (H : Heap) (R : Value → Heap → Prop) :
    (
 nn 1 ∧
 nn 2 ∧
 nn 4 ∧
 nn 8 ∧
 nn 16 ∧
 nn 32 ∧
 R (.int .i64 (IntKind.i64.wrap ((BitVec.ofInt 64 (IntKind.i64.wrap (IntKind.u64.wrap ((IntKind.u64.wrap ((IntKind.u64.wrap ((IntKind.u64.wrap ((BitVec.ofInt 64 (IntKind.u64.wrap ((Int.fdiv (IntKind.u64.wrap ((IntKind.u64.wrap ((BitVec.ofInt 64 (Int.fdiv (IntKind.u64.wrap ((IntKind.u64.wrap ((BitVec.ofInt 64 (Int.fdiv x0 2) &&& (BitVec.ofInt 64 6148914691236517205)).toNat : Int)) + (IntKind.u64.wrap ((BitVec.ofInt 64 x0 &&& (BitVec.ofInt 64 6148914691236517205)).toNat : Int)))) 4) &&& (BitVec.ofInt 64 3689348814741910323)).toNat : Int)) + (IntKind.u64.wrap ((BitVec.ofInt 64 (IntKind.u64.wrap ((IntKind.u64.wrap ((BitVec.ofInt 64 (Int.fdiv x0 2) &&& (BitVec.ofInt 64 6148914691236517205)).toNat : Int)) + (IntKind.u64.wrap ((BitVec.ofInt 64 x0 &&& (BitVec.ofInt 64 6148914691236517205)).toNat : Int)))) &&& (BitVec.ofInt 64 3689348814741910323)).toNat : Int)))) 16) + (IntKind.u64.wrap ((IntKind.u64.wrap ((BitVec.ofInt 64 (Int.fdiv (IntKind.u64.wrap ((IntKind.u64.wrap ((BitVec.ofInt 64 (Int.fdiv x0 2) &&& (BitVec.ofInt 64 6148914691236517205)).toNat : Int)) + (IntKind.u64.wrap ((BitVec.ofInt 64 x0 &&& (BitVec.ofInt 64 6148914691236517205)).toNat : Int)))) 4) &&& (BitVec.ofInt 64 3689348814741910323)).toNat : Int)) + (IntKind.u64.wrap ((BitVec.ofInt 64 (IntKind.u64.wrap ((IntKind.u64.wrap ((BitVec.ofInt 64 (Int.fdiv x0 2) &&& (BitVec.ofInt 64 6148914691236517205)).toNat : Int)) + (IntKind.u64.wrap ((BitVec.ofInt 64 x0 &&& (BitVec.ofInt 64 6148914691236517205)).toNat : Int)))) &&& (BitVec.ofInt 64 3689348814741910323)).toNat : Int)))))) &&& (BitVec.ofInt 64 1085102592571150095)).toNat : Int)) + (Int.fdiv (IntKind.u64.wrap ((BitVec.ofInt 64 (IntKind.u64.wrap ((Int.fdiv (IntKind.u64.wrap ((IntKind.u64.wrap ((BitVec.ofInt 64 (Int.fdiv (IntKind.u64.wrap ((IntKind.u64.wrap ((BitVec.ofInt 64 (Int.fdiv x0 2) &&& (BitVec.ofInt 64 6148914691236517205)).toNat : Int)) + (IntKind.u64.wrap ((BitVec.ofInt 64 x0 &&& (BitVec.ofInt 64 6148914691236517205)).toNat : Int)))) 4) &&& (BitVec.ofInt 64 3689348814741910323)).toNat : Int)) + (IntKind.u64.wrap ((BitVec.ofInt 64 (IntKind.u64.wrap ((IntKind.u64.wrap ((BitVec.ofInt 64 (Int.fdiv x0 2) &&& (BitVec.ofInt 64 6148914691236517205)).toNat : Int)) + (IntKind.u64.wrap ((BitVec.ofInt 64 x0 &&& (BitVec.ofInt 64 6148914691236517205)).toNat : Int)))) &&& (BitVec.ofInt 64 3689348814741910323)).toNat : Int)))) 16) + (IntKind.u64.wrap ((IntKind.u64.wrap ((BitVec.ofInt 64 (Int.fdiv (IntKind.u64.wrap ((IntKind.u64.wrap ((BitVec.ofInt 64 (Int.fdiv x0 2) &&& (BitVec.ofInt 64 6148914691236517205)).toNat : Int)) + (IntKind.u64.wrap ((BitVec.ofInt 64 x0 &&& (BitVec.ofInt 64 6148914691236517205)).toNat : Int)))) 4) &&& (BitVec.ofInt 64 3689348814741910323)).toNat : Int)) + (IntKind.u64.wrap ((BitVec.ofInt 64 (IntKind.u64.wrap ((IntKind.u64.wrap ((BitVec.ofInt 64 (Int.fdiv x0 2) &&& (BitVec.ofInt 64 6148914691236517205)).toNat : Int)) + (IntKind.u64.wrap ((BitVec.ofInt 64 x0 &&& (BitVec.ofInt 64 6148914691236517205)).toNat : Int)))) &&& (BitVec.ofInt 64 3689348814741910323)).toNat : Int)))))) &&& (BitVec.ofInt 64 1085102592571150095)).toNat : Int)) 256))) + (Int.fdiv (IntKind.u64.wrap ((IntKind.u64.wrap ((BitVec.ofInt 64 (IntKind.u64.wrap ((Int.fdiv (IntKind.u64.wrap ((IntKind.u64.wrap ((BitVec.ofInt 64 (Int.fdiv (IntKind.u64.wrap ((IntKind.u64.wrap ((BitVec.ofInt 64 (Int.fdiv x0 2) &&& (BitVec.ofInt 64 6148914691236517205)).toNat : Int)) + (IntKind.u64.wrap ((BitVec.ofInt 64 x0 &&& (BitVec.ofInt 64 6148914691236517205)).toNat : Int)))) 4) &&& (BitVec.ofInt 64 3689348814741910323)).toNat : Int)) + (IntKind.u64.wrap ((BitVec.ofInt 64 (IntKind.u64.wrap ((IntKind.u64.wrap ((BitVec.ofInt 64 (Int.fdiv x0 2) &&& (BitVec.ofInt 64 6148914691236517205)).toNat : Int)) + (IntKind.u64.wrap ((BitVec.ofInt 64 x0 &&& (BitVec.ofInt 64 6148914691236517205)).toNat : Int)))) &&& (BitVec.ofInt 64 3689348814741910323)).toNat : Int)))) 16) + (IntKind.u64.wrap ((IntKind.u64.wrap ((BitVec.ofInt 64 (Int.fdiv (IntKind.u64.wrap ((IntKind.u64.wrap ((BitVec.ofInt 64 (Int.fdiv x0 2) &&& (BitVec.ofInt 64 6148914691236517205)).toNat : Int)) + (IntKind.u64.wrap ((BitVec.ofInt 64 x0 &&& (BitVec.ofInt 64 6148914691236517205)).toNat : Int)))) 4) &&& (BitVec.ofInt 64 3689348814741910323)).toNat : Int)) + (IntKind.u64.wrap ((BitVec.ofInt 64 (IntKind.u64.wrap ((IntKind.u64.wrap ((BitVec.ofInt 64 (Int.fdiv x0 2) &&& (BitVec.ofInt 64 6148914691236517205)).toNat : Int)) + (IntKind.u64.wrap ((BitVec.ofInt 64 x0 &&& (BitVec.ofInt 64 6148914691236517205)).toNat : Int)))) &&& (BitVec.ofInt 64 3689348814741910323)).toNat : Int)))))) &&& (BitVec.ofInt 64 1085102592571150095)).toNat : Int)) + (Int.fdiv (IntKind.u64.wrap ((BitVec.ofInt 64 (IntKind.u64.wrap ((Int.fdiv (IntKind.u64.wrap ((IntKind.u64.wrap ((BitVec.ofInt 64 (Int.fdiv (IntKind.u64.wrap ((IntKind.u64.wrap ((BitVec.ofInt 64 (Int.fdiv x0 2) &&& (BitVec.ofInt 64 6148914691236517205)).toNat : Int)) + (IntKind.u64.wrap ((BitVec.ofInt 64 x0 &&& (BitVec.ofInt 64 6148914691236517205)).toNat : Int)))) 4) &&& (BitVec.ofInt 64 3689348814741910323)).toNat : Int)) + (IntKind.u64.wrap ((BitVec.ofInt 64 (IntKind.u64.wrap ((IntKind.u64.wrap ((BitVec.ofInt 64 (Int.fdiv x0 2) &&& (BitVec.ofInt 64 6148914691236517205)).toNat : Int)) + (IntKind.u64.wrap ((BitVec.ofInt 64 x0 &&& (BitVec.ofInt 64 6148914691236517205)).toNat : Int)))) &&& (BitVec.ofInt 64 3689348814741910323)).toNat : Int)))) 16) + (IntKind.u64.wrap ((IntKind.u64.wrap ((BitVec.ofInt 64 (Int.fdiv (IntKind.u64.wrap ((IntKind.u64.wrap ((BitVec.ofInt 64 (Int.fdiv x0 2) &&& (BitVec.ofInt 64 6148914691236517205)).toNat : Int)) + (IntKind.u64.wrap ((BitVec.ofInt 64 x0 &&& (BitVec.ofInt 64 6148914691236517205)).toNat : Int)))) 4) &&& (BitVec.ofInt 64 3689348814741910323)).toNat : Int)) + (IntKind.u64.wrap ((BitVec.ofInt 64 (IntKind.u64.wrap ((IntKind.u64.wrap ((BitVec.ofInt 64 (Int.fdiv x0 2) &&& (BitVec.ofInt 64 6148914691236517205)).toNat : Int)) + (IntKind.u64.wrap ((BitVec.ofInt 64 x0 &&& (BitVec.ofInt 64 6148914691236517205)).toNat : Int)))) &&& (BitVec.ofInt 64 3689348814741910323)).toNat : Int)))))) &&& (BitVec.ofInt 64 1085102592571150095)).toNat : Int)) 256))) 65536))) + (Int.fdiv (IntKind.u64.wrap ((IntKind.u64.wrap ((IntKind.u64.wrap ((BitVec.ofInt 64 (IntKind.u64.wrap ((Int.fdiv (IntKind.u64.wrap ((IntKind.u64.wrap ((BitVec.ofInt 64 (Int.fdiv (IntKind.u64.wrap ((IntKind.u64.wrap ((BitVec.ofInt 64 (Int.fdiv x0 2) &&& (BitVec.ofInt 64 6148914691236517205)).toNat : Int)) + (IntKind.u64.wrap ((BitVec.ofInt 64 x0 &&& (BitVec.ofInt 64 6148914691236517205)).toNat : Int)))) 4) &&& (BitVec.ofInt 64 3689348814741910323)).toNat : Int)) + (IntKind.u64.wrap ((BitVec.ofInt 64 (IntKind.u64.wrap ((IntKind.u64.wrap ((BitVec.ofInt 64 (Int.fdiv x0 2) &&& (BitVec.ofInt 64 6148914691236517205)).toNat : Int)) + (IntKind.u64.wrap ((BitVec.ofInt 64 x0 &&& (BitVec.ofInt 64 6148914691236517205)).toNat : Int)))) &&& (BitVec.ofInt 64 3689348814741910323)).toNat : Int)))) 16) + (IntKind.u64.wrap ((IntKind.u64.wrap ((BitVec.ofInt 64 (Int.fdiv (IntKind.u64.wrap ((IntKind.u64.wrap ((BitVec.ofInt 64 (Int.fdiv x0 2) &&& (BitVec.ofInt 64 6148914691236517205)).toNat : Int)) + (IntKind.u64.wrap ((BitVec.ofInt 64 x0 &&& (BitVec.ofInt 64 6148914691236517205)).toNat : Int)))) 4) &&& (BitVec.ofInt 64 3689348814741910323)).toNat : Int)) + (IntKind.u64.wrap ((BitVec.ofInt 64 (IntKind.u64.wrap ((IntKind.u64.wrap ((BitVec.ofInt 64 (Int.fdiv x0 2) &&& (BitVec.ofInt 64 6148914691236517205)).toNat : Int)) + (IntKind.u64.wrap ((BitVec.ofInt 64 x0 &&& (BitVec.ofInt 64 6148914691236517205)).toNat : Int)))) &&& (BitVec.ofInt 64 3689348814741910323)).toNat : Int)))))) &&& (BitVec.ofInt 64 1085102592571150095)).toNat : Int)) + (Int.fdiv (IntKind.u64.wrap ((BitVec.ofInt 64 (IntKind.u64.wrap ((Int.fdiv (IntKind.u64.wrap ((IntKind.u64.wrap ((BitVec.ofInt 64 (Int.fdiv (IntKind.u64.wrap ((IntKind.u64.wrap ((BitVec.ofInt 64 (Int.fdiv x0 2) &&& (BitVec.ofInt 64 6148914691236517205)).toNat : Int)) + (IntKind.u64.wrap ((BitVec.ofInt 64 x0 &&& (BitVec.ofInt 64 6148914691236517205)).toNat : Int)))) 4) &&& (BitVec.ofInt 64 3689348814741910323)).toNat : Int)) + (IntKind.u64.wrap ((BitVec.ofInt 64 (IntKind.u64.wrap ((IntKind.u64.wrap ((BitVec.ofInt 64 (Int.fdiv x0 2) &&& (BitVec.ofInt 64 6148914691236517205)).toNat : Int)) + (IntKind.u64.wrap ((BitVec.ofInt 64 x0 &&& (BitVec.ofInt 64 6148914691236517205)).toNat : Int)))) &&& (BitVec.ofInt 64 3689348814741910323)).toNat : Int)))) 16) + (IntKind.u64.wrap ((IntKind.u64.wrap ((BitVec.ofInt 64 (Int.fdiv (IntKind.u64.wrap ((IntKind.u64.wrap ((BitVec.ofInt 64 (Int.fdiv x0 2) &&& (BitVec.ofInt 64 6148914691236517205)).toNat : Int)) + (IntKind.u64.wrap ((BitVec.ofInt 64 x0 &&& (BitVec.ofInt 64 6148914691236517205)).toNat : Int)))) 4) &&& (BitVec.ofInt 64 3689348814741910323)).toNat : Int)) + (IntKind.u64.wrap ((BitVec.ofInt 64 (IntKind.u64.wrap ((IntKind.u64.wrap ((BitVec.ofInt 64 (Int.fdiv x0 2) &&& (BitVec.ofInt 64 6148914691236517205)).toNat : Int)) + (IntKind.u64.wrap ((BitVec.ofInt 64 x0 &&& (BitVec.ofInt 64 6148914691236517205)).toNat : Int)))) &&& (BitVec.ofInt 64 3689348814741910323)).toNat : Int)))))) &&& (BitVec.ofInt 64 1085102592571150095)).toNat : Int)) 256))) + (Int.fdiv (IntKind.u64.wrap ((IntKind.u64.wrap ((BitVec.ofInt 64 (IntKind.u64.wrap ((Int.fdiv (IntKind.u64.wrap ((IntKind.u64.wrap ((BitVec.ofInt 64 (Int.fdiv (IntKind.u64.wrap ((IntKind.u64.wrap ((BitVec.ofInt 64 (Int.fdiv x0 2) &&& (BitVec.ofInt 64 6148914691236517205)).toNat : Int)) + (IntKind.u64.wrap ((BitVec.ofInt 64 x0 &&& (BitVec.ofInt 64 6148914691236517205)).toNat : Int)))) 4) &&& (BitVec.ofInt 64 3689348814741910323)).toNat : Int)) + (IntKind.u64.wrap ((BitVec.ofInt 64 (IntKind.u64.wrap ((IntKind.u64.wrap ((BitVec.ofInt 64 (Int.fdiv x0 2) &&& (BitVec.ofInt 64 6148914691236517205)).toNat : Int)) + (IntKind.u64.wrap ((BitVec.ofInt 64 x0 &&& (BitVec.ofInt 64 6148914691236517205)).toNat : Int)))) &&& (BitVec.ofInt 64 3689348814741910323)).toNat : Int)))) 16) + (IntKind.u64.wrap ((IntKind.u64.wrap ((BitVec.ofInt 64 (Int.fdiv (IntKind.u64.wrap ((IntKind.u64.wrap ((BitVec.ofInt 64 (Int.fdiv x0 2) &&& (BitVec.ofInt 64 6148914691236517205)).toNat : Int)) + (IntKind.u64.wrap ((BitVec.ofInt 64 x0 &&& (BitVec.ofInt 64 6148914691236517205)).toNat : Int)))) 4) &&& (BitVec.ofInt 64 3689348814741910323)).toNat : Int)) + (IntKind.u64.wrap ((BitVec.ofInt 64 (IntKind.u64.wrap ((IntKind.u64.wrap ((BitVec.ofInt 64 (Int.fdiv x0 2) &&& (BitVec.ofInt 64 6148914691236517205)).toNat : Int)) + (IntKind.u64.wrap ((BitVec.ofInt 64 x0 &&& (BitVec.ofInt 64 6148914691236517205)).toNat : Int)))) &&& (BitVec.ofInt 64 3689348814741910323)).toNat : Int)))))) &&& (BitVec.ofInt 64 1085102592571150095)).toNat : Int)) + (Int.fdiv (IntKind.u64.wrap ((BitVec.ofInt 64 (IntKind.u64.wrap ((Int.fdiv (IntKind.u64.wrap ((IntKind.u64.wrap ((BitVec.ofInt 64 (Int.fdiv (IntKind.u64.wrap ((IntKind.u64.wrap ((BitVec.ofInt 64 (Int.fdiv x0 2) &&& (BitVec.ofInt 64 6148914691236517205)).toNat : Int)) + (IntKind.u64.wrap ((BitVec.ofInt 64 x0 &&& (BitVec.ofInt 64 6148914691236517205)).toNat : Int)))) 4) &&& (BitVec.ofInt 64 3689348814741910323)).toNat : Int)) + (IntKind.u64.wrap ((BitVec.ofInt 64 (IntKind.u64.wrap ((IntKind.u64.wrap ((BitVec.ofInt 64 (Int.fdiv x0 2) &&& (BitVec.ofInt 64 6148914691236517205)).toNat : Int)) + (IntKind.u64.wrap ((BitVec.ofInt 64 x0 &&& (BitVec.ofInt 64 6148914691236517205)).toNat : Int)))) &&& (BitVec.ofInt 64 3689348814741910323)).toNat : Int)))) 16) + (IntKind.u64.wrap ((IntKind.u64.wrap ((BitVec.ofInt 64 (Int.fdiv (IntKind.u64.wrap ((IntKind.u64.wrap ((BitVec.ofInt 64 (Int.fdiv x0 2) &&& (BitVec.ofInt 64 6148914691236517205)).toNat : Int)) + (IntKind.u64.wrap ((BitVec.ofInt 64 x0 &&& (BitVec.ofInt 64 6148914691236517205)).toNat : Int)))) 4) &&& (BitVec.ofInt 64 3689348814741910323)).toNat : Int)) + (IntKind.u64.wrap ((BitVec.ofInt 64 (IntKind.u64.wrap ((IntKind.u64.wrap ((BitVec.ofInt 64 (Int.fdiv x0 2) &&& (BitVec.ofInt 64 6148914691236517205)).toNat : Int)) + (IntKind.u64.wrap ((BitVec.ofInt 64 x0 &&& (BitVec.ofInt 64 6148914691236517205)).toNat : Int)))) &&& (BitVec.ofInt 64 3689348814741910323)).toNat : Int)))))) &&& (BitVec.ofInt 64 1085102592571150095)).toNat : Int)) 256))) 65536))) 4294967296)))) &&& (BitVec.ofInt 64 127)).toNat : Int))) H) →
    CA en F.math_bits_OnesCount64 [(.int .u64 x0)] H R := by
  intro h
  refine wpFn_ok (Z := []) (fn := Go.Proofs.Tryz.f92) ?_ ?_ ?_
  · kernel_rfl
  · kernel_rfl
  · apply turnInto h
    kernel_rfl


/-! crossbarref07_Check -/
noncomputable def L_crossbarref07_Check_0 : Code := loopAt Go.Proofs.Tryz.f37 0

theorem vc_crossbarref07_Check (x0 : Option Addr) (x0l : Nat) (H : Heap) (R : Value → Heap → Prop) :
    (
 bif (decide (((x0l : Nat) : Int) > 10)) then (
 R (.int .i64 19) H)
 else (
 LA en L_crossbarref07_Check_0 [(.slice x0 x0l 0), undef, (.int .i64 0), (.int .i64 0), undef, (.slice x0 x0l 0), (.int .i64 ((x0l : Nat) : Int)), (.bool false), undef, undef, undef, undef, undef, undef, undef, undef, undef, undef, undef, undef, undef, undef, undef] H [(X.exit 0, fun (y1 : Fr) (H2 : Heap) =>
 AS.asInt .i64 (y1.getD 2 undef) fun n3 =>
 R (.int .i64 0) H2),
 (X.ret, fun (y4 : Fr) (H5 : Heap) =>
 AS.asInt .i64 (y4.getD 2 undef) fun n6 =>
 R (.int .i64 n6) H5)])) →
    CA en F.crossbarref07_Check [(.slice x0 x0l 0)] H R := by
  intro h
  refine wpFn_ok (Z := [[(2, (.int .i64 0))]]) (fn := Go.Proofs.Tryz.f37) ?_ ?_ ?_
  · kernel_rfl
  · kernel_rfl
  · apply turnInto h
    kernel_rfl

theorem use_crossbarref07_Check_0 {t0 : Option Addr} {t0l : Nat} {t5 : Option Addr} {t5l : Nat} {t6 : Int} {K0 : Fr → Heap → Prop} {K1 : Fr → Heap → Prop} {t2 : Int} {t3 : Int} {t4 : Value} {t8 : Value} {t9 : Value} {t10 : Value} {t11 : Value} {t12 : Value} {t13 : Value} {t14 : Value} {t15 : Value} {t16 : Value} {t17 : Value} {t18 : Value} {t19 : Value} {t20 : Value} {t21 : Value} {t22 : Value} {H : Heap} (I : Nat → Int → Int → Heap → Prop) (n : Nat) (h0 : I n t2 t3 H)
    (hstep : ∀ (n : Nat) (t2 : Int) (t3 : Int) (ys : Fr) (H : Heap), I n t2 t3 H →
    (
 bif (decide (t3 < ((t0l : Nat) : Int))) then (
 inB t3 t0l ∧
 asRow t0 fun i1 i2 =>
 ∃ n3, ∃ n4, ∃ n5, ∃ n6, ∃ n7, H.cellsAt i1 (i2 + (t3.toNat * 5)) 5 = some [(.int .i64 n3), (.int .i64 n4), (.int .i64 n5), (.int .i64 n6), (.int .i64 n7)] ∧
 CA en F.crossbarref07_one [(.slice t0 t0l 0), (.agg #[(.int .i64 n3), (.int .i64 n4), (.int .i64 n5), (.int .i64 n6), (.int .i64 n7)])] H fun v8 H9 =>
 ∃ n10, v8 = (.int .i64 n10) ∧
 bif (n10 != 0) then (
 K1 [(.slice t0 t0l 0), undef, (.int .i64 n10), (.int .i64 t3), (.int .i64 n10), (.slice t5 t5l 0), (.int .i64 t6), (.bool false), (.int .i64 t3), (.slice t0 t0l 0), (.int .i64 ((t0l : Nat) : Int)), (.bool true), (ys.getD 12 undef), (ys.getD 13 undef), (.slice t0 t0l 0), (.slice t0 t0l 0), (.int .i64 t3), (.pointer (some ⟨i1, (i2 + (t3.toNat * 5)), none⟩)), (.agg #[(.int .i64 n3), (.int .i64 n4), (.int .i64 n5), (.int .i64 n6), (.int .i64 n7)]), (.int .i64 n10), (.int .i64 n10), (.bool true), (.int .i64 n10)] H9)
 else (
 ∃ k11, k11 < n ∧
 I k11 t2 (IntKind.i64.wrap (t3 + 1)) H9))
 else (
 K0 [(.slice t0 t0l 0), undef, (.int .i64 t2), (.int .i64 t3), (ys.getD 4 undef), (.slice t5 t5l 0), (.int .i64 t6), (.bool false), (.int .i64 t3), (.slice t0 t0l 0), (.int .i64 ((t0l : Nat) : Int)), (.bool false), (ys.getD 12 undef), (ys.getD 13 undef), (ys.getD 14 undef), (ys.getD 15 undef), (ys.getD 16 undef), (ys.getD 17 undef), (ys.getD 18 undef), (ys.getD 19 undef), (ys.getD 20 undef), (ys.getD 21 undef), (ys.getD 22 undef)] H))) :
    LA en L_crossbarref07_Check_0 [(.slice t0 t0l 0), undef, (.int .i64 t2), (.int .i64 t3), t4, (.slice t5 t5l 0), (.int .i64 t6), (.bool false), t8, t9, t10, t11, t12, t13, t14, t15, t16, t17, t18, t19, t20, t21, t22] H [(X.exit 0, K0), (X.ret, K1)] := by
  refine LA_rule (Z := []) (fun m xs H' => AS.asInt .i64 (xs.getD 2 undef) fun t2 => AS.asInt .i64 (xs.getD 3 undef) fun t3 => I m t2 t3 H') ?_ n H ?_
  · intro n H
    suffices hs : ∀ s8 : Value, ∀ s9 : Value, ∀ s10 : Value, ∀ s11 : Value, ∀ s14 : Value, ∀ s15 : Value, ∀ s16 : Value, ∀ s17 : Value, ∀ s18 : Value, ∀ s19 : Value, ∀ s4 : Value, ∀ s20 : Value, ∀ s21 : Value, ∀ s22 : Value, ∀ s2 : Value, ∀ s12 : Value, ∀ s13 : Value, ∀ s3 : Value, ((AS.asInt .i64 s2 fun t2 => AS.asInt .i64 s3 fun t3 => I n t2 t3 H) → wpCode en L_crossbarref07_Check_0 [] [(.slice t0 t0l 0), undef, s2, s3, s4, (.slice t5 t5l 0), (.int .i64 t6), (.bool false), s8, s9, s10, s11, s12, s13, s14, s15, s16, s17, s18, s19, s20, s21, s22] H (loopQ (fun m xs H' => AS.asInt .i64 (xs.getD 2 undef) fun t2 => AS.asInt .i64 (xs.getD 3 undef) fun t3 => I m t2 t3 H') n [(X.exit 0, K0), (X.ret, K1)])) by
      apply turnInto hs
      kernel_rfl
    intro s8 s9 s10 s11 s14 s15 s16 s17 s18 s19 s4 s20 s21 s22 s2 s12 s13 s3 hP
    replace hP := asInt_elim hP
    obtain ⟨t2, rfl, hP⟩ := hP
    replace hP := asInt_elim hP
    obtain ⟨t3, rfl, hP⟩ := hP
    apply turnInto (hstep n t2 t3 [(.slice t0 t0l 0), undef, (.int .i64 t2), (.int .i64 t3), s4, (.slice t5 t5l 0), (.int .i64 t6), (.bool false), s8, s9, s10, s11, s12, s13, s14, s15, s16, s17, s18, s19, s20, s21, s22] H hP)
    kernel_rfl
  · apply turnInto h0
    kernel_rfl


/-! crossbarref07_Like -/

theorem vc_crossbarref07_Like (x0_0 : Int) (x0_1 : Int) (x0_2 : Int) (x0_3 : Int) (x0_4 : Int) (x1_0 : Int) (x1_1 : Int) (x1_2 : Int) (x1_3 : Int) (x1_4 : Int) (H : Heap) (R : Value → Heap → Prop) :
    (
 nwH H (.cells true 0 [(.int .i64 x0_0), (.int .i64 x0_1), (.int .i64 x0_2), (.int .i64 x0_3), (.int .i64 x0_4)]) fun i1 H2 =>
 nwH H2 (.cells true 0 [(.int .i64 x1_0), (.int .i64 x1_1), (.int .i64 x1_2), (.int .i64 x1_3), (.int .i64 x1_4)]) fun i3 H4 =>
 ∃ n5, H4.cell i1 0 = some (.int .i64 n5) ∧
 ∃ n6, H4.cell i3 0 = some (.int .i64 n6) ∧
 bif (n5 == n6) then (
 ∃ n7, H4.cell i1 1 = some (.int .i64 n7) ∧
 ∃ n8, H4.cell i3 1 = some (.int .i64 n8) ∧
 bif (n7 == n8) then (
 ∃ n9, H4.cell i1 2 = some (.int .i64 n9) ∧
 ∃ n10, H4.cell i3 2 = some (.int .i64 n10) ∧
 bif (n9 == n10) then (
 ∃ n11, H4.cell i1 3 = some (.int .i64 n11) ∧
 ∃ n12, H4.cell i3 3 = some (.int .i64 n12) ∧
 bif (n11 == n12) then (
 ∃ n13, H4.cell i1 4 = some (.int .i64 n13) ∧
 ∃ n14, H4.cell i3 4 = some (.int .i64 n14) ∧
 R (.bool (n13 == n14)) H4)
 else (
 R (.bool false) H4))
 else (
 R (.bool false) H4))
 else (
 R (.bool false) H4))
 else (
 R (.bool false) H4)) →
    CA en F.crossbarref07_Like [(.agg #[(.int .i64 x0_0), (.int .i64 x0_1), (.int .i64 x0_2), (.int .i64 x0_3), (.int .i64 x0_4)]), (.agg #[(.int .i64 x1_0), (.int .i64 x1_1), (.int .i64 x1_2), (.int .i64 x1_3), (.int .i64 x1_4)])] H R := by
  intro h
  refine wpFn_ok (Z := []) (fn := Go.Proofs.Tryz.f74) ?_ ?_ ?_
  · kernel_rfl
  · kernel_rfl
  · apply turnInto h
    kernel_rfl

end Go.Proofs.YtgpacebjbdhphaaGreat
