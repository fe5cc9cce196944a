/-
  What functions of this seat's program need (printed by a program, checked by the kernel).
-/
import Derived.Test.YtjggeoghlicmdaaGreatNames
import Derived.Test.YtjggeoghlicmdaaGreatAs41
namespace Go.Proofs.YtjggeoghlicmdaaGreat
open Go Go.AS Go.RowKit
set_option linter.unusedVariables false
set_option maxRecDepth 100000
set_option maxHeartbeats 2000000

/-! crossbarlaw16_LruGoes -/
noncomputable def L_crossbarlaw16_LruGoes_0 : Code := loopAt Go.Proofs.Tryz.f4 0

theorem vc_crossbarlaw16_LruGoes (x0 : Int) (x1 : Int) (x2 : Int) (H : Heap) (R : Value → Heap → Prop) :
    (
 CA en F.crossbarlaw16_made [(.int .i64 1), (.int .i64 40)] H fun v1 H2 =>
 ∃ a3, ∃ a4, ∃ a5, ∃ b6, v1 = (.tuple #[(.agg #[(.pointer a3), (.pointer a4), (.pointer a5)]), (.bool b6)]) ∧
 nwH H2 (.cells true 0 [(.pointer none), (.pointer none), (.pointer none)]) fun i7 H8 =>
 stc H8 i7 0 [(.pointer a3), (.pointer a4), (.pointer a5)] fun H9 =>
 ∃ J10 : List Value → Heap → Prop, (
 bif (!b6) then (
 R (.bool false) H9)
 else (
 J10 [(.bool false)] H9)) ∧
 ∀ (ys11 : Fr) (H12 : Heap), ∀ b13, J10 [(.bool b13)] H12 →
 ∃ a14, H12.cell i7 0 = some (.pointer a14) ∧
 CA en F.smem_Mem_Live [(.pointer a14)] H12 fun v15 H16 =>
 ∃ n17, v15 = (.int .i64 n17) ∧
 ∃ a18, ∃ a19, ∃ a20, H16.cellsAt i7 0 3 = some [(.pointer a18), (.pointer a19), (.pointer a20)] ∧
 CA en F.crossbarlaw16_one_alone [(.agg #[(.pointer a18), (.pointer a19), (.pointer a20)]), (.int .i64 2), (.int .u64 5), (.int .u64 x1), (.int .i64 0)] H16 fun v21 H22 =>
 ∃ n23, ∃ a24 i25, ∃ n26, ∃ n27, ∃ n28, v21 = (.tuple #[(.agg #[(.int .i64 n23), (.slice a24 i25 0), (.int .u64 n26), (.int .i64 n27)]), (.int .i64 n28)]) ∧
 ∃ a29, ∃ a30, ∃ a31, H22.cellsAt i7 0 3 = some [(.pointer a29), (.pointer a30), (.pointer a31)] ∧
 CA en F.crossbarlaw16_one_alone [(.agg #[(.pointer a29), (.pointer a30), (.pointer a31)]), (.int .i64 1), (.int .u64 5), (.int .u64 0), (.int .i64 0)] H22 fun v32 H33 =>
 ∃ n34, ∃ a35 i36, ∃ n37, ∃ n38, ∃ n39, v32 = (.tuple #[(.agg #[(.int .i64 n34), (.slice a35 i36 0), (.int .u64 n37), (.int .i64 n38)]), (.int .i64 n39)]) ∧
 nwH H33 (.cells true 0 [(.int .i64 0), (.slice none 0 0), (.int .u64 0), (.int .i64 0)]) fun i40 H41 =>
 stc H41 i40 0 [(.int .i64 n34), (.slice a35 i36 0), (.int .u64 n37), (.int .i64 n38)] fun H42 =>
 ∃ a43, H42.cell i7 2 = some (.pointer a43) ∧
 ∃ n44, H42.cell i40 3 = some (.int .i64 n44) ∧
 CA en F.lru_Map_Cell [(.pointer a43), (.int .i64 n44)] H42 fun v45 H46 =>
 ∃ n47, ∃ n48, v45 = (.tuple #[(.int .i64 n47), (.int .i64 n48)]) ∧
 ∃ a49, H46.cell i7 1 = some (.pointer a49) ∧
 CA en F.grace_Grace_Enter [(.pointer a49), (.int .i64 1)] H46 fun v50 H51 =>
 ∃ b52, v50 = (.bool b52) ∧
 CA en F.crossbarkit_Pick [(.int .i64 x0), (.int .i64 3)] H51 fun v53 H54 =>
 ∃ n55, v53 = (.int .i64 n55) ∧
 nwH H54 (.cells true 0 [(.int .i64 0), (.slice none 0 0), (.int .u64 0), (.int .i64 0)]) fun i56 H57 =>
 ∃ J58 : List Value → Heap → Prop, (
 bif (n55 == 0) then (
 ∃ a59, ∃ a60, ∃ a61, H57.cellsAt i7 0 3 = some [(.pointer a59), (.pointer a60), (.pointer a61)] ∧
 CA en F.crossbarlaw16_one_alone [(.agg #[(.pointer a59), (.pointer a60), (.pointer a61)]), (.int .i64 2), (.int .u64 6), (.int .u64 x2), (.int .i64 0)] H57 fun v62 H63 =>
 ∃ n64, ∃ a65 i66, ∃ n67, ∃ n68, ∃ n69, v62 = (.tuple #[(.agg #[(.int .i64 n64), (.slice a65 i66 0), (.int .u64 n67), (.int .i64 n68)]), (.int .i64 n69)]) ∧
 stc H63 i56 0 [(.int .i64 n64), (.slice a65 i66 0), (.int .u64 n67), (.int .i64 n68)] fun H70 =>
 J58 [] H70)
 else (
 bif (n55 == 1) then (
 ∃ a71, ∃ a72, ∃ a73, H57.cellsAt i7 0 3 = some [(.pointer a71), (.pointer a72), (.pointer a73)] ∧
 CA en F.crossbarlaw16_one_alone [(.agg #[(.pointer a71), (.pointer a72), (.pointer a73)]), (.int .i64 3), (.int .u64 5), (.int .u64 0), (.int .i64 0)] H57 fun v74 H75 =>
 ∃ n76, ∃ a77 i78, ∃ n79, ∃ n80, ∃ n81, v74 = (.tuple #[(.agg #[(.int .i64 n76), (.slice a77 i78 0), (.int .u64 n79), (.int .i64 n80)]), (.int .i64 n81)]) ∧
 stc H75 i56 0 [(.int .i64 n76), (.slice a77 i78 0), (.int .u64 n79), (.int .i64 n80)] fun H82 =>
 J58 [] H82)
 else (
 bif (n55 == 2) then (
 ∃ a83, ∃ a84, ∃ a85, H57.cellsAt i7 0 3 = some [(.pointer a83), (.pointer a84), (.pointer a85)] ∧
 CA en F.crossbarlaw16_one_alone [(.agg #[(.pointer a83), (.pointer a84), (.pointer a85)]), (.int .i64 5), (.int .u64 5), (.int .u64 0), (.int .i64 0)] H57 fun v86 H87 =>
 ∃ n88, ∃ a89 i90, ∃ n91, ∃ n92, ∃ n93, v86 = (.tuple #[(.agg #[(.int .i64 n88), (.slice a89 i90 0), (.int .u64 n91), (.int .i64 n92)]), (.int .i64 n93)]) ∧
 stc H87 i56 0 [(.int .i64 n88), (.slice a89 i90 0), (.int .u64 n91), (.int .i64 n92)] fun H94 =>
 J58 [] H94)
 else (
 J58 [] H57)))) ∧
 ∀ (ys95 : Fr) (H96 : Heap), J58 [] H96 →
 ∃ a97, H96.cell i7 0 = some (.pointer a97) ∧
 CA en F.smem_Mem_Load [(.pointer a97), (.int .i64 n47), (.int .i64 n48)] H96 fun v98 H99 =>
 ∃ n100, ∃ b101, v98 = (.tuple #[(.int .u64 n100), (.bool b101)]) ∧
 ∃ a102, H99.cell i7 0 = some (.pointer a102) ∧
 CA en F.smem_Mem_Store [(.pointer a102), (.int .i64 n47), (.int .i64 n48), (.int .u64 x2)] H99 fun v103 H104 =>
 ∃ b105, v103 = (.bool b105) ∧
 ∃ a106, H104.cell i7 0 = some (.pointer a106) ∧
 CA en F.smem_Mem_Load [(.pointer a106), (.int .i64 n47), (.int .i64 n48)] H104 fun v107 H108 =>
 ∃ n109, ∃ b110, v107 = (.tuple #[(.int .u64 n109), (.bool b110)]) ∧
 ∃ a111, ∃ a112, ∃ a113, H108.cellsAt i7 0 3 = some [(.pointer a111), (.pointer a112), (.pointer a113)] ∧
 CA en F.crossbarlaw16_one_alone [(.agg #[(.pointer a111), (.pointer a112), (.pointer a113)]), (.int .i64 1), (.int .u64 5), (.int .u64 0), (.int .i64 0)] H108 fun v114 H115 =>
 ∃ n116, ∃ a117 i118, ∃ n119, ∃ n120, ∃ n121, v114 = (.tuple #[(.agg #[(.int .i64 n116), (.slice a117 i118 0), (.int .u64 n119), (.int .i64 n120)]), (.int .i64 n121)]) ∧
 nwH H115 (.cells true 0 [(.int .i64 0), (.slice none 0 0), (.int .u64 0), (.int .i64 0)]) fun i122 H123 =>
 stc H123 i122 0 [(.int .i64 n116), (.slice a117 i118 0), (.int .u64 n119), (.int .i64 n120)] fun H124 =>
 ∃ J125 : List Value → Heap → Prop, (
 ∃ n126, H124.cell i56 0 = some (.int .i64 n126) ∧
 bif (n126 != 0) then (
 R (.bool false) H124)
 else (
 bif (n55 == 2) then (
 ∃ a127 i128, H124.cell i56 1 = some (.slice a127 i128 0) ∧
 nwH H124 (.cells true 1 [(.int .u64 x1)]) fun i129 H130 =>
 CA en F.crossbarkit_SameWords [(.slice a127 i128 0), (.slice (some ⟨i129, 0, none⟩) 1 0)] H130 fun v131 H132 =>
 ∃ b133, v131 = (.bool b133) ∧
 bif (!b133) then (
 R (.bool false) H132)
 else (
 bif (!b101) then (
 R (.bool false) H132)
 else (
 bif (n100 != x1) then (
 R (.bool false) H132)
 else (
 bif (!b105) then (
 R (.bool false) H132)
 else (
 bif (!b110) then (
 R (.bool false) H132)
 else (
 bif (n109 != x2) then (
 R (.bool false) H132)
 else (
 ∃ n134, H132.cell i122 0 = some (.int .i64 n134) ∧
 bif (n134 != 2) then (
 R (.bool false) H132)
 else (
 ∃ a135, H132.cell i7 1 = some (.pointer a135) ∧
 CA en F.grace_Grace_Waits [(.pointer a135)] H132 fun v136 H137 =>
 ∃ n138, v136 = (.int .i64 n138) ∧
 bif (n138 != 1) then (
 R (.bool false) H137)
 else (
 J125 [(.bool b13)] H137)))))))))
 else (
 bif (!b101) then (
 R (.bool false) H124)
 else (
 bif (n100 != x1) then (
 R (.bool false) H124)
 else (
 bif (!b105) then (
 R (.bool false) H124)
 else (
 bif (!b110) then (
 R (.bool false) H124)
 else (
 bif (n109 != x2) then (
 R (.bool false) H124)
 else (
 ∃ n139, H124.cell i122 0 = some (.int .i64 n139) ∧
 bif (n139 != 2) then (
 R (.bool false) H124)
 else (
 ∃ a140, H124.cell i7 1 = some (.pointer a140) ∧
 CA en F.grace_Grace_Waits [(.pointer a140)] H124 fun v141 H142 =>
 ∃ n143, v141 = (.int .i64 n143) ∧
 bif (n143 != 1) then (
 R (.bool false) H142)
 else (
 J125 [(.bool b13)] H142)))))))))) ∧
 ∀ (ys144 : Fr) (H145 : Heap), ∀ b146, J125 [(.bool b146)] H145 →
 ∃ a147, H145.cell i7 1 = some (.pointer a147) ∧
 CA en F.grace_Grace_Leave [(.pointer a147), (.int .i64 1)] H145 fun v148 H149 =>
 ∃ a150 i151, v148 = (.slice a150 i151 0) ∧
 ∃ a152, H149.cell i7 0 = some (.pointer a152) ∧
 CA en F.smem_Mem_Load [(.pointer a152), (.int .i64 n47), (.int .i64 n48)] H149 fun v153 H154 =>
 ∃ n155, ∃ b156, v153 = (.tuple #[(.int .u64 n155), (.bool b156)]) ∧
 ∃ J157 : List Value → Heap → Prop, (
 bif (n55 == 0) then (
 J157 [(.int .i64 (IntKind.i64.wrap (n17 + 1)))] H154)
 else (
 J157 [(.int .i64 n17)] H154)) ∧
 ∀ (ys158 : Fr) (H159 : Heap), ∀ n160, J157 [(.int .i64 n160)] H159 →
 ∃ J161 : List Value → Heap → Prop, (
 bif b156 then (
 R (.bool false) H159)
 else (
 ∃ a162, H159.cell i7 0 = some (.pointer a162) ∧
 CA en F.smem_Mem_Live [(.pointer a162)] H159 fun v163 H164 =>
 ∃ n165, v163 = (.int .i64 n165) ∧
 bif (n165 != n160) then (
 R (.bool false) H164)
 else (
 ∃ a166, H164.cell i7 1 = some (.pointer a166) ∧
 CA en F.grace_Grace_Waits [(.pointer a166)] H164 fun v167 H168 =>
 ∃ n169, v167 = (.int .i64 n169) ∧
 bif (n169 != 0) then (
 R (.bool false) H168)
 else (
 J161 [(.bool b146)] H168)))) ∧
 ∀ (ys170 : Fr) (H171 : Heap), ∀ b172, J161 [(.bool b172)] H171 →
 CA en F.crossbarlaw16_made [(.int .i64 4), (.int .i64 16)] H171 fun v173 H174 =>
 ∃ a175, ∃ a176, ∃ a177, ∃ b178, v173 = (.tuple #[(.agg #[(.pointer a175), (.pointer a176), (.pointer a177)]), (.bool b178)]) ∧
 nwH H174 (.cells true 0 [(.pointer none), (.pointer none), (.pointer none)]) fun i179 H180 =>
 stc H180 i179 0 [(.pointer a175), (.pointer a176), (.pointer a177)] fun H181 =>
 ∃ J182 : List Value → Heap → Prop, (
 bif (!b178) then (
 R (.bool false) H181)
 else (
 J182 [(.bool b172)] H181)) ∧
 ∀ (ys183 : Fr) (H184 : Heap), ∀ b185, J182 [(.bool b185)] H184 →
 LA en L_crossbarlaw16_LruGoes_0 [(.int .i64 n55), (.int .u64 x1), (.int .u64 x2), undef, undef, undef, (.bool b185), (.pointer (some ⟨i7, 0, none⟩)), (.bool b6), (.int .i64 n17), (.pointer (some ⟨i40, 0, none⟩)), (.int .i64 n39), (.int .i64 n47), (.int .i64 n48), (.pointer (some ⟨i56, 0, none⟩)), (.int .u64 n100), (.bool b101), (.bool b105), (.int .u64 n109), (.bool b110), (.pointer (some ⟨i122, 0, none⟩)), (.int .i64 n121), (.int .u64 n155), (.bool b156), (.int .i64 n160), (.pointer (some ⟨i179, 0, none⟩)), (.bool b178), (.int .u64 0), undef, undef, undef, undef, (.tuple #[(.agg #[(.pointer a3), (.pointer a4), (.pointer a5)]), (.bool b6)]), (.tuple #[(.agg #[(.pointer a3), (.pointer a4), (.pointer a5)]), (.bool b6)]), (.agg #[(.pointer a3), (.pointer a4), (.pointer a5)]), (.bool b6), (ys11.getD 36 undef), (ys11.getD 37 undef), (.pointer (some ⟨i7, 0, none⟩)), (.pointer a14), (.int .i64 n17), (.agg #[(.pointer a18), (.pointer a19), (.pointer a20)]), (.int .u64 x1), (.tuple #[(.agg #[(.int .i64 n23), (.slice a24 i25 0), (.int .u64 n26), (.int .i64 n27)]), (.int .i64 n28)]), (.tuple #[(.agg #[(.int .i64 n34), (.slice a35 i36 0), (.int .u64 n37), (.int .i64 n38)]), (.int .i64 n39)]), (.agg #[(.pointer a29), (.pointer a30), (.pointer a31)]), (.tuple #[(.agg #[(.int .i64 n34), (.slice a35 i36 0), (.int .u64 n37), (.int .i64 n38)]), (.int .i64 n39)]), (.agg #[(.int .i64 n34), (.slice a35 i36 0), (.int .u64 n37), (.int .i64 n38)]), (.int .i64 n39), (.tuple #[(.int .i64 n47), (.int .i64 n48)]), (.pointer (some ⟨i7, 2, none⟩)), (.pointer a43), (.pointer (some ⟨i40, 3, none⟩)), (.int .i64 n44), (.tuple #[(.int .i64 n47), (.int .i64 n48)]), (.int .i64 n47), (.int .i64 n48), (.pointer (some ⟨i7, 1, none⟩)), (.pointer a49), (.bool b52), (.int .i64 x0), (.int .i64 n55), (ys95.getD 62 undef), (ys95.getD 63 undef), (ys95.getD 64 undef), (ys95.getD 65 undef), (ys95.getD 66 undef), (ys95.getD 67 undef), (ys95.getD 68 undef), (ys95.getD 69 undef), (ys95.getD 70 undef), (ys95.getD 71 undef), (ys95.getD 72 undef), (ys95.getD 73 undef), (ys95.getD 74 undef), (ys95.getD 75 undef), (ys95.getD 76 undef), (ys95.getD 77 undef), (ys95.getD 78 undef), (ys95.getD 79 undef), (ys95.getD 80 undef), (ys95.getD 81 undef), (ys95.getD 82 undef), (ys95.getD 83 undef), (ys95.getD 84 undef), (.tuple #[(.int .u64 n100), (.bool b101)]), (.pointer (some ⟨i7, 0, none⟩)), (.pointer a97), (.int .i64 n47), (.int .i64 n48), (.tuple #[(.int .u64 n100), (.bool b101)]), (.int .u64 n100), (.bool b101), (.pointer (some ⟨i7, 0, none⟩)), (.pointer a102), (.int .i64 n47), (.int .i64 n48), (.int .u64 x2), (.bool b105), (.tuple #[(.int .u64 n109), (.bool b110)]), (.pointer (some ⟨i7, 0, none⟩)), (.pointer a106), (.int .i64 n47), (.int .i64 n48), (.tuple #[(.int .u64 n109), (.bool b110)]), (.int .u64 n109), (.bool b110), (.tuple #[(.agg #[(.int .i64 n116), (.slice a117 i118 0), (.int .u64 n119), (.int .i64 n120)]), (.int .i64 n121)]), (.agg #[(.pointer a111), (.pointer a112), (.pointer a113)]), (.tuple #[(.agg #[(.int .i64 n116), (.slice a117 i118 0), (.int .u64 n119), (.int .i64 n120)]), (.int .i64 n121)]), (.agg #[(.int .i64 n116), (.slice a117 i118 0), (.int .u64 n119), (.int .i64 n120)]), (.int .i64 n121), (ys144.getD 112 undef), (ys144.getD 113 undef), (ys144.getD 114 undef), (ys144.getD 115 undef), (ys144.getD 116 undef), (ys144.getD 117 undef), (ys144.getD 118 undef), (ys144.getD 119 undef), (ys144.getD 120 undef), (ys144.getD 121 undef), (ys144.getD 122 undef), (ys144.getD 123 undef), (ys144.getD 124 undef), (ys144.getD 125 undef), (ys144.getD 126 undef), (ys144.getD 127 undef), (ys144.getD 128 undef), (ys144.getD 129 undef), (ys144.getD 130 undef), (ys144.getD 131 undef), (ys144.getD 132 undef), (ys144.getD 133 undef), (ys144.getD 134 undef), (ys144.getD 135 undef), (ys144.getD 136 undef), (ys144.getD 137 undef), (ys144.getD 138 undef), (ys144.getD 139 undef), (ys144.getD 140 undef), (ys144.getD 141 undef), (ys144.getD 142 undef), (ys144.getD 143 undef), (ys144.getD 144 undef), (ys144.getD 145 undef), (ys144.getD 146 undef), (ys144.getD 147 undef), (ys144.getD 148 undef), (ys144.getD 149 undef), (ys144.getD 150 undef), (ys144.getD 151 undef), (ys144.getD 152 undef), (ys144.getD 153 undef), (ys144.getD 154 undef), (ys144.getD 155 undef), (ys144.getD 156 undef), (ys144.getD 157 undef), (ys144.getD 158 undef), (ys144.getD 159 undef), (.pointer (some ⟨i7, 1, none⟩)), (.pointer a147), (.slice a150 i151 0), (.tuple #[(.int .u64 n155), (.bool b156)]), (.pointer (some ⟨i7, 0, none⟩)), (.pointer a152), (.int .i64 n47), (.int .i64 n48), (.tuple #[(.int .u64 n155), (.bool b156)]), (.int .u64 n155), (.bool b156), (.int .i64 n17), (ys158.getD 172 undef), (ys158.getD 173 undef), (ys158.getD 174 undef), (ys158.getD 175 undef), (ys170.getD 176 undef), (ys170.getD 177 undef), (ys170.getD 178 undef), (ys170.getD 179 undef), (ys170.getD 180 undef), (ys170.getD 181 undef), (ys170.getD 182 undef), (ys170.getD 183 undef), (ys170.getD 184 undef), (ys170.getD 185 undef), (ys170.getD 186 undef), (ys170.getD 187 undef), (ys170.getD 188 undef), (ys170.getD 189 undef), (.tuple #[(.agg #[(.pointer a175), (.pointer a176), (.pointer a177)]), (.bool b178)]), (.tuple #[(.agg #[(.pointer a175), (.pointer a176), (.pointer a177)]), (.bool b178)]), (.agg #[(.pointer a175), (.pointer a176), (.pointer a177)]), (.bool b178), (ys183.getD 194 undef), (ys183.getD 195 undef), undef, undef, undef, undef, undef, undef, undef, undef, undef, undef, undef, undef, undef, undef, undef, undef, undef, undef, undef, undef, undef, undef, undef, undef, undef, undef, undef, undef, undef, undef, undef, undef, undef, undef, undef, undef, undef, undef, undef, undef, undef, undef, undef, undef, undef, undef, undef, undef, undef, undef, undef, undef] H184 [(X.exit 1, fun (y186 : Fr) (H187 : Heap) =>
 AS.asBool (y186.getD 6 undef) fun b188 =>
 ∃ a189, H187.cell i179 0 = some (.pointer a189) ∧
 CA en F.smem_Mem_Bad [(.pointer a189)] H187 fun v190 H191 =>
 ∃ n192, v190 = (.int .i64 n192) ∧
 bif (n192 == 0) then (
 CA en F.crossbarlaw16_known [] H191 fun v193 H194 =>
 ∃ b195, v193 = (.bool b195) ∧
 R (.bool b195) H194)
 else (
 R (.bool false) H191)),
 (X.ret, fun (y196 : Fr) (H197 : Heap) =>
 AS.asBool (y196.getD 6 undef) fun b198 =>
 R (.bool b198) H197)]) →
    CA en F.crossbarlaw16_LruGoes [(.int .i64 x0), (.int .u64 x1), (.int .u64 x2)] H R := by
  intro h
  refine wpFnC_ok (C := [none, none, some [(6, (.bool false))], none, none, none, none, none, none, none, none, none, some [], none, none, none, none, none, none, none, none, some [(6, (.bool false))], none, none, none, none, none, some [(24, (.int .i64 0))], none, some [(6, (.bool false))], none, none, none, some [(6, (.bool false))], none, none, none, none, none]) (Z := [[(6, (.bool false))]]) (fn := Go.Proofs.Tryz.f4) ?_ ?_ ?_
  · kernel_rfl
  · kernel_rfl
  · apply turnInto h
    kernel_rfl

theorem use_crossbarlaw16_LruGoes_0 {t0 : Int} {t1 : Int} {t2 : Int} {t7 : Nat} {t8 : Bool} {t9 : Int} {t10 : Nat} {t11 : Int} {t12 : Int} {t13 : Int} {t14 : Nat} {t15 : Int} {t16 : Bool} {t17 : Bool} {t18 : Int} {t19 : Bool} {t20 : Nat} {t21 : Int} {t22 : Int} {t23 : Bool} {t24 : Int} {t25 : Nat} {t26 : Bool} {t32_0_0 : Option Addr} {t32_0_1 : Option Addr} {t32_0_2 : Option Addr} {t32_1 : Bool} {t33_0_0 : Option Addr} {t33_0_1 : Option Addr} {t33_0_2 : Option Addr} {t33_1 : Bool} {t34_0 : Option Addr} {t34_1 : Option Addr} {t34_2 : Option Addr} {t35 : Bool} {t36 : Value} {t37 : Value} {t38 : Nat} {t39 : Option Addr} {t40 : Int} {t41_0 : Option Addr} {t41_1 : Option Addr} {t41_2 : Option Addr} {t42 : Int} {t43_0_0 : Int} {t43_0_1 : Option Addr} {t43_0_1l : Nat} {t43_0_2 : Int} {t43_0_3 : Int} {t43_1 : Int} {t44_0_0 : Int} {t44_0_1 : Option Addr} {t44_0_1l : Nat} {t44_0_2 : Int} {t44_0_3 : Int} {t44_1 : Int} {t45_0 : Option Addr} {t45_1 : Option Addr} {t45_2 : Option Addr} {t46_0_0 : Int} {t46_0_1 : Option Addr} {t46_0_1l : Nat} {t46_0_2 : Int} {t46_0_3 : Int} {t46_1 : Int} {t47_0 : Int} {t47_1 : Option Addr} {t47_1l : Nat} {t47_2 : Int} {t47_3 : Int} {t48 : Int} {t49_0 : Int} {t49_1 : Int} {t50 : Nat} {t51 : Option Addr} {t52 : Nat} {t53 : Int} {t54_0 : Int} {t54_1 : Int} {t55 : Int} {t56 : Int} {t57 : Nat} {t58 : Option Addr} {t59 : Bool} {t60 : Int} {t61 : Int} {t62 : Value} {t63 : Value} {t64 : Value} {t65 : Value} {t66 : Value} {t67 : Value} {t68 : Value} {t69 : Value} {t70 : Value} {t71 : Value} {t72 : Value} {t73 : Value} {t74 : Value} {t75 : Value} {t76 : Value} {t77 : Value} {t78 : Value} {t79 : Value} {t80 : Value} {t81 : Value} {t82 : Value} {t83 : Value} {t84 : Value} {t85_0 : Int} {t85_1 : Bool} {t86 : Nat} {t87 : Option Addr} {t88 : Int} {t89 : Int} {t90_0 : Int} {t90_1 : Bool} {t91 : Int} {t92 : Bool} {t93 : Nat} {t94 : Option Addr} {t95 : Int} {t96 : Int} {t97 : Int} {t98 : Bool} {t99_0 : Int} {t99_1 : Bool} {t100 : Nat} {t101 : Option Addr} {t102 : Int} {t103 : Int} {t104_0 : Int} {t104_1 : Bool} {t105 : Int} {t106 : Bool} {t107_0_0 : Int} {t107_0_1 : Option Addr} {t107_0_1l : Nat} {t107_0_2 : Int} {t107_0_3 : Int} {t107_1 : Int} {t108_0 : Option Addr} {t108_1 : Option Addr} {t108_2 : Option Addr} {t109_0_0 : Int} {t109_0_1 : Option Addr} {t109_0_1l : Nat} {t109_0_2 : Int} {t109_0_3 : Int} {t109_1 : Int} {t110_0 : Int} {t110_1 : Option Addr} {t110_1l : Nat} {t110_2 : Int} {t110_3 : Int} {t111 : Int} {t112 : Value} {t113 : Value} {t114 : Value} {t115 : Value} {t116 : Value} {t117 : Value} {t118 : Value} {t119 : Value} {t120 : Value} {t121 : Value} {t122 : Value} {t123 : Value} {t124 : Value} {t125 : Value} {t126 : Value} {t127 : Value} {t128 : Value} {t129 : Value} {t130 : Value} {t131 : Value} {t132 : Value} {t133 : Value} {t134 : Value} {t135 : Value} {t136 : Value} {t137 : Value} {t138 : Value} {t139 : Value} {t140 : Value} {t141 : Value} {t142 : Value} {t143 : Value} {t144 : Value} {t145 : Value} {t146 : Value} {t147 : Value} {t148 : Value} {t149 : Value} {t150 : Value} {t151 : Value} {t152 : Value} {t153 : Value} {t154 : Value} {t155 : Value} {t156 : Value} {t157 : Value} {t158 : Value} {t159 : Value} {t160 : Nat} {t161 : Option Addr} {t162 : Option Addr} {t162l : Nat} {t163_0 : Int} {t163_1 : Bool} {t164 : Nat} {t165 : Option Addr} {t166 : Int} {t167 : Int} {t168_0 : Int} {t168_1 : Bool} {t169 : Int} {t170 : Bool} {t171 : Int} {t172 : Value} {t173 : Value} {t174 : Value} {t175 : Value} {t176 : Value} {t177 : Value} {t178 : Value} {t179 : Value} {t180 : Value} {t181 : Value} {t182 : Value} {t183 : Value} {t184 : Value} {t185 : Value} {t186 : Value} {t187 : Value} {t188 : Value} {t189 : Value} {t190_0_0 : Option Addr} {t190_0_1 : Option Addr} {t190_0_2 : Option Addr} {t190_1 : Bool} {t191_0_0 : Option Addr} {t191_0_1 : Option Addr} {t191_0_2 : Option Addr} {t191_1 : Bool} {t192_0 : Option Addr} {t192_1 : Option Addr} {t192_2 : Option Addr} {t193 : Bool} {t194 : Value} {t195 : Value} {K0 : Fr → Heap → Prop} {K1 : Fr → Heap → Prop} {t6 : Bool} {t27 : Int} {t28 : Value} {t29 : Value} {t30 : Value} {t31 : Value} {t196 : Value} {t197 : Value} {t198 : Value} {t199 : Value} {t200 : Value} {t201 : Value} {t202 : Value} {t203 : Value} {t204 : Value} {t205 : Value} {t206 : Value} {t207 : Value} {t208 : Value} {t209 : Value} {t210 : Value} {t211 : Value} {t212 : Value} {t213 : Value} {t214 : Value} {t215 : Value} {t216 : Value} {t217 : Value} {t218 : Value} {t219 : Value} {t220 : Value} {t221 : Value} {t222 : Value} {t223 : Value} {t224 : Value} {t225 : Value} {t226 : Value} {t227 : Value} {t228 : Value} {t229 : Value} {t230 : Value} {t231 : Value} {t232 : Value} {t233 : Value} {t234 : Value} {t235 : Value} {t236 : Value} {t237 : Value} {t238 : Value} {t239 : Value} {t240 : Value} {H : Heap} (I : Nat → Bool → Int → Heap → Prop) (n : Nat) (h0 : I n t6 t27 H)
    (hstep : ∀ (n : Nat) (t6 : Bool) (t27 : Int) (ys : Fr) (H : Heap), I n t6 t27 H →
    (
 bif (decide (t27 < 9)) then (
 ∃ a1, ∃ a2, ∃ a3, H.cellsAt t25 0 3 = some [(.pointer a1), (.pointer a2), (.pointer a3)] ∧
 CA en F.crossbarlaw16_one_alone [(.agg #[(.pointer a1), (.pointer a2), (.pointer a3)]), (.int .i64 2), (.int .u64 t27), (.int .u64 t27), (.int .i64 0)] H fun v4 H5 =>
 ∃ n6, ∃ a7 i8, ∃ n9, ∃ n10, ∃ n11, v4 = (.tuple #[(.agg #[(.int .i64 n6), (.slice a7 i8 0), (.int .u64 n9), (.int .i64 n10)]), (.int .i64 n11)]) ∧
 nwH H5 (.cells true 0 [(.int .i64 0), (.slice none 0 0), (.int .u64 0), (.int .i64 0)]) fun i12 H13 =>
 stc H13 i12 0 [(.int .i64 n6), (.slice a7 i8 0), (.int .u64 n9), (.int .i64 n10)] fun H14 =>
 ∃ a15, ∃ a16, ∃ a17, H14.cellsAt t25 0 3 = some [(.pointer a15), (.pointer a16), (.pointer a17)] ∧
 CA en F.crossbarlaw16_one_alone [(.agg #[(.pointer a15), (.pointer a16), (.pointer a17)]), (.int .i64 1), (.int .u64 t27), (.int .u64 0), (.int .i64 0)] H14 fun v18 H19 =>
 ∃ n20, ∃ a21 i22, ∃ n23, ∃ n24, ∃ n25, v18 = (.tuple #[(.agg #[(.int .i64 n20), (.slice a21 i22 0), (.int .u64 n23), (.int .i64 n24)]), (.int .i64 n25)]) ∧
 nwH H19 (.cells true 0 [(.int .i64 0), (.slice none 0 0), (.int .u64 0), (.int .i64 0)]) fun i26 H27 =>
 stc H27 i26 0 [(.int .i64 n20), (.slice a21 i22 0), (.int .u64 n23), (.int .i64 n24)] fun H28 =>
 ∃ J29 : List Value → Heap → Prop, (
 ∃ n30, H28.cell i12 0 = some (.int .i64 n30) ∧
 bif (n30 != 0) then (
 ∃ n31, H28.cell i12 0 = some (.int .i64 n31) ∧
 bif (n31 != 5) then (
 J29 [(.bool true)] H28)
 else (
 ∃ n32, H28.cell i12 0 = some (.int .i64 n32) ∧
 ∃ n33, H28.cell i26 0 = some (.int .i64 n33) ∧
 bif (!((n32 == 0) == (n33 == 0))) then (
 J29 [(.bool true)] H28)
 else (
 ∃ n34, H28.cell i12 0 = some (.int .i64 n34) ∧
 bif (n34 == 5) then (
 ∃ a35, H28.cell t25 0 = some (.pointer a35) ∧
 CA en F.smem_Mem_Room [(.pointer a35)] H28 fun v36 H37 =>
 ∃ n38, v36 = (.int .i64 n38) ∧
 J29 [(.bool (decide (n38 ≥ 8)))] H37)
 else (
 J29 [(.bool false)] H28))))
 else (
 ∃ n39, H28.cell i12 0 = some (.int .i64 n39) ∧
 ∃ n40, H28.cell i26 0 = some (.int .i64 n40) ∧
 bif (!((n39 == 0) == (n40 == 0))) then (
 J29 [(.bool true)] H28)
 else (
 ∃ n41, H28.cell i12 0 = some (.int .i64 n41) ∧
 bif (n41 == 5) then (
 ∃ a42, H28.cell t25 0 = some (.pointer a42) ∧
 CA en F.smem_Mem_Room [(.pointer a42)] H28 fun v43 H44 =>
 ∃ n45, v43 = (.int .i64 n45) ∧
 J29 [(.bool (decide (n45 ≥ 8)))] H44)
 else (
 J29 [(.bool false)] H28)))) ∧
 ∀ (ys46 : Fr) (H47 : Heap), ∀ b48, J29 [(.bool b48)] H47 →
 bif b48 then (
 K1 [(.int .i64 t0), (.int .u64 t1), (.int .u64 t2), undef, undef, undef, (.bool false), (.pointer (some ⟨t7, 0, none⟩)), (.bool t8), (.int .i64 t9), (.pointer (some ⟨t10, 0, none⟩)), (.int .i64 t11), (.int .i64 t12), (.int .i64 t13), (.pointer (some ⟨t14, 0, none⟩)), (.int .u64 t15), (.bool t16), (.bool t17), (.int .u64 t18), (.bool t19), (.pointer (some ⟨t20, 0, none⟩)), (.int .i64 t21), (.int .u64 t22), (.bool t23), (.int .i64 t24), (.pointer (some ⟨t25, 0, none⟩)), (.bool t26), (.int .u64 t27), (.pointer (some ⟨i12, 0, none⟩)), (.int .i64 n11), (.pointer (some ⟨i26, 0, none⟩)), (.int .i64 n25), (.tuple #[(.agg #[(.pointer t32_0_0), (.pointer t32_0_1), (.pointer t32_0_2)]), (.bool t32_1)]), (.tuple #[(.agg #[(.pointer t33_0_0), (.pointer t33_0_1), (.pointer t33_0_2)]), (.bool t33_1)]), (.agg #[(.pointer t34_0), (.pointer t34_1), (.pointer t34_2)]), (.bool t35), t36, t37, (.pointer (some ⟨t38, 0, none⟩)), (.pointer t39), (.int .i64 t40), (.agg #[(.pointer t41_0), (.pointer t41_1), (.pointer t41_2)]), (.int .u64 t42), (.tuple #[(.agg #[(.int .i64 t43_0_0), (.slice t43_0_1 t43_0_1l 0), (.int .u64 t43_0_2), (.int .i64 t43_0_3)]), (.int .i64 t43_1)]), (.tuple #[(.agg #[(.int .i64 t44_0_0), (.slice t44_0_1 t44_0_1l 0), (.int .u64 t44_0_2), (.int .i64 t44_0_3)]), (.int .i64 t44_1)]), (.agg #[(.pointer t45_0), (.pointer t45_1), (.pointer t45_2)]), (.tuple #[(.agg #[(.int .i64 t46_0_0), (.slice t46_0_1 t46_0_1l 0), (.int .u64 t46_0_2), (.int .i64 t46_0_3)]), (.int .i64 t46_1)]), (.agg #[(.int .i64 t47_0), (.slice t47_1 t47_1l 0), (.int .u64 t47_2), (.int .i64 t47_3)]), (.int .i64 t48), (.tuple #[(.int .i64 t49_0), (.int .i64 t49_1)]), (.pointer (some ⟨t50, 2, none⟩)), (.pointer t51), (.pointer (some ⟨t52, 3, none⟩)), (.int .i64 t53), (.tuple #[(.int .i64 t54_0), (.int .i64 t54_1)]), (.int .i64 t55), (.int .i64 t56), (.pointer (some ⟨t57, 1, none⟩)), (.pointer t58), (.bool t59), (.int .i64 t60), (.int .i64 t61), t62, t63, t64, t65, t66, t67, t68, t69, t70, t71, t72, t73, t74, t75, t76, t77, t78, t79, t80, t81, t82, t83, t84, (.tuple #[(.int .u64 t85_0), (.bool t85_1)]), (.pointer (some ⟨t86, 0, none⟩)), (.pointer t87), (.int .i64 t88), (.int .i64 t89), (.tuple #[(.int .u64 t90_0), (.bool t90_1)]), (.int .u64 t91), (.bool t92), (.pointer (some ⟨t93, 0, none⟩)), (.pointer t94), (.int .i64 t95), (.int .i64 t96), (.int .u64 t97), (.bool t98), (.tuple #[(.int .u64 t99_0), (.bool t99_1)]), (.pointer (some ⟨t100, 0, none⟩)), (.pointer t101), (.int .i64 t102), (.int .i64 t103), (.tuple #[(.int .u64 t104_0), (.bool t104_1)]), (.int .u64 t105), (.bool t106), (.tuple #[(.agg #[(.int .i64 t107_0_0), (.slice t107_0_1 t107_0_1l 0), (.int .u64 t107_0_2), (.int .i64 t107_0_3)]), (.int .i64 t107_1)]), (.agg #[(.pointer t108_0), (.pointer t108_1), (.pointer t108_2)]), (.tuple #[(.agg #[(.int .i64 t109_0_0), (.slice t109_0_1 t109_0_1l 0), (.int .u64 t109_0_2), (.int .i64 t109_0_3)]), (.int .i64 t109_1)]), (.agg #[(.int .i64 t110_0), (.slice t110_1 t110_1l 0), (.int .u64 t110_2), (.int .i64 t110_3)]), (.int .i64 t111), t112, t113, t114, t115, t116, t117, t118, t119, t120, t121, t122, t123, t124, t125, t126, t127, t128, t129, t130, t131, t132, t133, t134, t135, t136, t137, t138, t139, t140, t141, t142, t143, t144, t145, t146, t147, t148, t149, t150, t151, t152, t153, t154, t155, t156, t157, t158, t159, (.pointer (some ⟨t160, 1, none⟩)), (.pointer t161), (.slice t162 t162l 0), (.tuple #[(.int .u64 t163_0), (.bool t163_1)]), (.pointer (some ⟨t164, 0, none⟩)), (.pointer t165), (.int .i64 t166), (.int .i64 t167), (.tuple #[(.int .u64 t168_0), (.bool t168_1)]), (.int .u64 t169), (.bool t170), (.int .i64 t171), t172, t173, t174, t175, t176, t177, t178, t179, t180, t181, t182, t183, t184, t185, t186, t187, t188, t189, (.tuple #[(.agg #[(.pointer t190_0_0), (.pointer t190_0_1), (.pointer t190_0_2)]), (.bool t190_1)]), (.tuple #[(.agg #[(.pointer t191_0_0), (.pointer t191_0_1), (.pointer t191_0_2)]), (.bool t191_1)]), (.agg #[(.pointer t192_0), (.pointer t192_1), (.pointer t192_2)]), (.bool t193), t194, t195, (.int .u64 t27), (.bool true), (ys.getD 198 undef), (ys.getD 199 undef), (.tuple #[(.agg #[(.int .i64 n6), (.slice a7 i8 0), (.int .u64 n9), (.int .i64 n10)]), (.int .i64 n11)]), (.agg #[(.pointer a1), (.pointer a2), (.pointer a3)]), (.int .u64 t27), (.int .u64 t27), (.tuple #[(.agg #[(.int .i64 n6), (.slice a7 i8 0), (.int .u64 n9), (.int .i64 n10)]), (.int .i64 n11)]), (.agg #[(.int .i64 n6), (.slice a7 i8 0), (.int .u64 n9), (.int .i64 n10)]), (.int .i64 n11), (.tuple #[(.agg #[(.int .i64 n20), (.slice a21 i22 0), (.int .u64 n23), (.int .i64 n24)]), (.int .i64 n25)]), (.agg #[(.pointer a15), (.pointer a16), (.pointer a17)]), (.int .u64 t27), (.tuple #[(.agg #[(.int .i64 n20), (.slice a21 i22 0), (.int .u64 n23), (.int .i64 n24)]), (.int .i64 n25)]), (.agg #[(.int .i64 n20), (.slice a21 i22 0), (.int .u64 n23), (.int .i64 n24)]), (.int .i64 n25), (ys46.getD 213 undef), (ys46.getD 214 undef), (ys46.getD 215 undef), (ys46.getD 216 undef), (ys46.getD 217 undef), (ys46.getD 218 undef), (ys46.getD 219 undef), (ys46.getD 220 undef), (ys46.getD 221 undef), (ys46.getD 222 undef), (ys46.getD 223 undef), (ys46.getD 224 undef), (ys46.getD 225 undef), (ys46.getD 226 undef), (ys46.getD 227 undef), (ys46.getD 228 undef), (ys46.getD 229 undef), (ys46.getD 230 undef), (ys46.getD 231 undef), (ys46.getD 232 undef), (ys46.getD 233 undef), (ys46.getD 234 undef), (ys46.getD 235 undef), (ys46.getD 236 undef), (ys46.getD 237 undef), (ys46.getD 238 undef), (ys46.getD 239 undef), (.bool true), undef, undef, undef, undef, undef, undef, undef] H47)
 else (
 ∃ k49, k49 < n ∧
 I k49 t6 (IntKind.u64.wrap (t27 + 1)) H47))
 else (
 K0 [(.int .i64 t0), (.int .u64 t1), (.int .u64 t2), undef, undef, undef, (.bool t6), (.pointer (some ⟨t7, 0, none⟩)), (.bool t8), (.int .i64 t9), (.pointer (some ⟨t10, 0, none⟩)), (.int .i64 t11), (.int .i64 t12), (.int .i64 t13), (.pointer (some ⟨t14, 0, none⟩)), (.int .u64 t15), (.bool t16), (.bool t17), (.int .u64 t18), (.bool t19), (.pointer (some ⟨t20, 0, none⟩)), (.int .i64 t21), (.int .u64 t22), (.bool t23), (.int .i64 t24), (.pointer (some ⟨t25, 0, none⟩)), (.bool t26), (.int .u64 t27), (ys.getD 28 undef), (ys.getD 29 undef), (ys.getD 30 undef), (ys.getD 31 undef), (.tuple #[(.agg #[(.pointer t32_0_0), (.pointer t32_0_1), (.pointer t32_0_2)]), (.bool t32_1)]), (.tuple #[(.agg #[(.pointer t33_0_0), (.pointer t33_0_1), (.pointer t33_0_2)]), (.bool t33_1)]), (.agg #[(.pointer t34_0), (.pointer t34_1), (.pointer t34_2)]), (.bool t35), t36, t37, (.pointer (some ⟨t38, 0, none⟩)), (.pointer t39), (.int .i64 t40), (.agg #[(.pointer t41_0), (.pointer t41_1), (.pointer t41_2)]), (.int .u64 t42), (.tuple #[(.agg #[(.int .i64 t43_0_0), (.slice t43_0_1 t43_0_1l 0), (.int .u64 t43_0_2), (.int .i64 t43_0_3)]), (.int .i64 t43_1)]), (.tuple #[(.agg #[(.int .i64 t44_0_0), (.slice t44_0_1 t44_0_1l 0), (.int .u64 t44_0_2), (.int .i64 t44_0_3)]), (.int .i64 t44_1)]), (.agg #[(.pointer t45_0), (.pointer t45_1), (.pointer t45_2)]), (.tuple #[(.agg #[(.int .i64 t46_0_0), (.slice t46_0_1 t46_0_1l 0), (.int .u64 t46_0_2), (.int .i64 t46_0_3)]), (.int .i64 t46_1)]), (.agg #[(.int .i64 t47_0), (.slice t47_1 t47_1l 0), (.int .u64 t47_2), (.int .i64 t47_3)]), (.int .i64 t48), (.tuple #[(.int .i64 t49_0), (.int .i64 t49_1)]), (.pointer (some ⟨t50, 2, none⟩)), (.pointer t51), (.pointer (some ⟨t52, 3, none⟩)), (.int .i64 t53), (.tuple #[(.int .i64 t54_0), (.int .i64 t54_1)]), (.int .i64 t55), (.int .i64 t56), (.pointer (some ⟨t57, 1, none⟩)), (.pointer t58), (.bool t59), (.int .i64 t60), (.int .i64 t61), t62, t63, t64, t65, t66, t67, t68, t69, t70, t71, t72, t73, t74, t75, t76, t77, t78, t79, t80, t81, t82, t83, t84, (.tuple #[(.int .u64 t85_0), (.bool t85_1)]), (.pointer (some ⟨t86, 0, none⟩)), (.pointer t87), (.int .i64 t88), (.int .i64 t89), (.tuple #[(.int .u64 t90_0), (.bool t90_1)]), (.int .u64 t91), (.bool t92), (.pointer (some ⟨t93, 0, none⟩)), (.pointer t94), (.int .i64 t95), (.int .i64 t96), (.int .u64 t97), (.bool t98), (.tuple #[(.int .u64 t99_0), (.bool t99_1)]), (.pointer (some ⟨t100, 0, none⟩)), (.pointer t101), (.int .i64 t102), (.int .i64 t103), (.tuple #[(.int .u64 t104_0), (.bool t104_1)]), (.int .u64 t105), (.bool t106), (.tuple #[(.agg #[(.int .i64 t107_0_0), (.slice t107_0_1 t107_0_1l 0), (.int .u64 t107_0_2), (.int .i64 t107_0_3)]), (.int .i64 t107_1)]), (.agg #[(.pointer t108_0), (.pointer t108_1), (.pointer t108_2)]), (.tuple #[(.agg #[(.int .i64 t109_0_0), (.slice t109_0_1 t109_0_1l 0), (.int .u64 t109_0_2), (.int .i64 t109_0_3)]), (.int .i64 t109_1)]), (.agg #[(.int .i64 t110_0), (.slice t110_1 t110_1l 0), (.int .u64 t110_2), (.int .i64 t110_3)]), (.int .i64 t111), t112, t113, t114, t115, t116, t117, t118, t119, t120, t121, t122, t123, t124, t125, t126, t127, t128, t129, t130, t131, t132, t133, t134, t135, t136, t137, t138, t139, t140, t141, t142, t143, t144, t145, t146, t147, t148, t149, t150, t151, t152, t153, t154, t155, t156, t157, t158, t159, (.pointer (some ⟨t160, 1, none⟩)), (.pointer t161), (.slice t162 t162l 0), (.tuple #[(.int .u64 t163_0), (.bool t163_1)]), (.pointer (some ⟨t164, 0, none⟩)), (.pointer t165), (.int .i64 t166), (.int .i64 t167), (.tuple #[(.int .u64 t168_0), (.bool t168_1)]), (.int .u64 t169), (.bool t170), (.int .i64 t171), t172, t173, t174, t175, t176, t177, t178, t179, t180, t181, t182, t183, t184, t185, t186, t187, t188, t189, (.tuple #[(.agg #[(.pointer t190_0_0), (.pointer t190_0_1), (.pointer t190_0_2)]), (.bool t190_1)]), (.tuple #[(.agg #[(.pointer t191_0_0), (.pointer t191_0_1), (.pointer t191_0_2)]), (.bool t191_1)]), (.agg #[(.pointer t192_0), (.pointer t192_1), (.pointer t192_2)]), (.bool t193), t194, t195, (.int .u64 t27), (.bool false), (ys.getD 198 undef), (ys.getD 199 undef), (ys.getD 200 undef), (ys.getD 201 undef), (ys.getD 202 undef), (ys.getD 203 undef), (ys.getD 204 undef), (ys.getD 205 undef), (ys.getD 206 undef), (ys.getD 207 undef), (ys.getD 208 undef), (ys.getD 209 undef), (ys.getD 210 undef), (ys.getD 211 undef), (ys.getD 212 undef), (ys.getD 213 undef), (ys.getD 214 undef), (ys.getD 215 undef), (ys.getD 216 undef), (ys.getD 217 undef), (ys.getD 218 undef), (ys.getD 219 undef), (ys.getD 220 undef), (ys.getD 221 undef), (ys.getD 222 undef), (ys.getD 223 undef), (ys.getD 224 undef), (ys.getD 225 undef), (ys.getD 226 undef), (ys.getD 227 undef), (ys.getD 228 undef), (ys.getD 229 undef), (ys.getD 230 undef), (ys.getD 231 undef), (ys.getD 232 undef), (ys.getD 233 undef), (ys.getD 234 undef), (ys.getD 235 undef), (ys.getD 236 undef), (ys.getD 237 undef), (ys.getD 238 undef), (ys.getD 239 undef), (ys.getD 240 undef), undef, undef, undef, undef, undef, undef, undef] H))) :
    LA en L_crossbarlaw16_LruGoes_0 [(.int .i64 t0), (.int .u64 t1), (.int .u64 t2), undef, undef, undef, (.bool t6), (.pointer (some ⟨t7, 0, none⟩)), (.bool t8), (.int .i64 t9), (.pointer (some ⟨t10, 0, none⟩)), (.int .i64 t11), (.int .i64 t12), (.int .i64 t13), (.pointer (some ⟨t14, 0, none⟩)), (.int .u64 t15), (.bool t16), (.bool t17), (.int .u64 t18), (.bool t19), (.pointer (some ⟨t20, 0, none⟩)), (.int .i64 t21), (.int .u64 t22), (.bool t23), (.int .i64 t24), (.pointer (some ⟨t25, 0, none⟩)), (.bool t26), (.int .u64 t27), t28, t29, t30, t31, (.tuple #[(.agg #[(.pointer t32_0_0), (.pointer t32_0_1), (.pointer t32_0_2)]), (.bool t32_1)]), (.tuple #[(.agg #[(.pointer t33_0_0), (.pointer t33_0_1), (.pointer t33_0_2)]), (.bool t33_1)]), (.agg #[(.pointer t34_0), (.pointer t34_1), (.pointer t34_2)]), (.bool t35), t36, t37, (.pointer (some ⟨t38, 0, none⟩)), (.pointer t39), (.int .i64 t40), (.agg #[(.pointer t41_0), (.pointer t41_1), (.pointer t41_2)]), (.int .u64 t42), (.tuple #[(.agg #[(.int .i64 t43_0_0), (.slice t43_0_1 t43_0_1l 0), (.int .u64 t43_0_2), (.int .i64 t43_0_3)]), (.int .i64 t43_1)]), (.tuple #[(.agg #[(.int .i64 t44_0_0), (.slice t44_0_1 t44_0_1l 0), (.int .u64 t44_0_2), (.int .i64 t44_0_3)]), (.int .i64 t44_1)]), (.agg #[(.pointer t45_0), (.pointer t45_1), (.pointer t45_2)]), (.tuple #[(.agg #[(.int .i64 t46_0_0), (.slice t46_0_1 t46_0_1l 0), (.int .u64 t46_0_2), (.int .i64 t46_0_3)]), (.int .i64 t46_1)]), (.agg #[(.int .i64 t47_0), (.slice t47_1 t47_1l 0), (.int .u64 t47_2), (.int .i64 t47_3)]), (.int .i64 t48), (.tuple #[(.int .i64 t49_0), (.int .i64 t49_1)]), (.pointer (some ⟨t50, 2, none⟩)), (.pointer t51), (.pointer (some ⟨t52, 3, none⟩)), (.int .i64 t53), (.tuple #[(.int .i64 t54_0), (.int .i64 t54_1)]), (.int .i64 t55), (.int .i64 t56), (.pointer (some ⟨t57, 1, none⟩)), (.pointer t58), (.bool t59), (.int .i64 t60), (.int .i64 t61), t62, t63, t64, t65, t66, t67, t68, t69, t70, t71, t72, t73, t74, t75, t76, t77, t78, t79, t80, t81, t82, t83, t84, (.tuple #[(.int .u64 t85_0), (.bool t85_1)]), (.pointer (some ⟨t86, 0, none⟩)), (.pointer t87), (.int .i64 t88), (.int .i64 t89), (.tuple #[(.int .u64 t90_0), (.bool t90_1)]), (.int .u64 t91), (.bool t92), (.pointer (some ⟨t93, 0, none⟩)), (.pointer t94), (.int .i64 t95), (.int .i64 t96), (.int .u64 t97), (.bool t98), (.tuple #[(.int .u64 t99_0), (.bool t99_1)]), (.pointer (some ⟨t100, 0, none⟩)), (.pointer t101), (.int .i64 t102), (.int .i64 t103), (.tuple #[(.int .u64 t104_0), (.bool t104_1)]), (.int .u64 t105), (.bool t106), (.tuple #[(.agg #[(.int .i64 t107_0_0), (.slice t107_0_1 t107_0_1l 0), (.int .u64 t107_0_2), (.int .i64 t107_0_3)]), (.int .i64 t107_1)]), (.agg #[(.pointer t108_0), (.pointer t108_1), (.pointer t108_2)]), (.tuple #[(.agg #[(.int .i64 t109_0_0), (.slice t109_0_1 t109_0_1l 0), (.int .u64 t109_0_2), (.int .i64 t109_0_3)]), (.int .i64 t109_1)]), (.agg #[(.int .i64 t110_0), (.slice t110_1 t110_1l 0), (.int .u64 t110_2), (.int .i64 t110_3)]), (.int .i64 t111), t112, t113, t114, t115, t116, t117, t118, t119, t120, t121, t122, t123, t124, t125, t126, t127, t128, t129, t130, t131, t132, t133, t134, t135, t136, t137, t138, t139, t140, t141, t142, t143, t144, t145, t146, t147, t148, t149, t150, t151, t152, t153, t154, t155, t156, t157, t158, t159, (.pointer (some ⟨t160, 1, none⟩)), (.pointer t161), (.slice t162 t162l 0), (.tuple #[(.int .u64 t163_0), (.bool t163_1)]), (.pointer (some ⟨t164, 0, none⟩)), (.pointer t165), (.int .i64 t166), (.int .i64 t167), (.tuple #[(.int .u64 t168_0), (.bool t168_1)]), (.int .u64 t169), (.bool t170), (.int .i64 t171), t172, t173, t174, t175, t176, t177, t178, t179, t180, t181, t182, t183, t184, t185, t186, t187, t188, t189, (.tuple #[(.agg #[(.pointer t190_0_0), (.pointer t190_0_1), (.pointer t190_0_2)]), (.bool t190_1)]), (.tuple #[(.agg #[(.pointer t191_0_0), (.pointer t191_0_1), (.pointer t191_0_2)]), (.bool t191_1)]), (.agg #[(.pointer t192_0), (.pointer t192_1), (.pointer t192_2)]), (.bool t193), t194, t195, t196, t197, t198, t199, t200, t201, t202, t203, t204, t205, t206, t207, t208, t209, t210, t211, t212, t213, t214, t215, t216, t217, t218, t219, t220, t221, t222, t223, t224, t225, t226, t227, t228, t229, t230, t231, t232, t233, t234, t235, t236, t237, t238, t239, t240, undef, undef, undef, undef, undef, undef, undef] H [(X.exit 1, K0), (X.ret, K1)] := by
  refine LA_ruleC (C := [none, none, none, none, none, some [(240, (.bool false))], none]) (Z := []) (fun m xs H' => AS.asBool (xs.getD 6 undef) fun t6 => AS.asInt .u64 (xs.getD 27 undef) fun t27 => I m t6 t27 H') ?_ n H ?_
  · intro n H
    suffices hs : ∀ s196 : Value, ∀ s197 : Value, ∀ s201 : Value, ∀ s202 : Value, ∀ s203 : Value, ∀ s204 : Value, ∀ s200 : Value, ∀ s205 : Value, ∀ s206 : Value, ∀ s28 : Value, ∀ s29 : Value, ∀ s208 : Value, ∀ s209 : Value, ∀ s210 : Value, ∀ s207 : Value, ∀ s211 : Value, ∀ s212 : Value, ∀ s30 : Value, ∀ s31 : Value, ∀ s213 : Value, ∀ s214 : Value, ∀ s215 : Value, ∀ s216 : Value, ∀ s217 : Value, ∀ s218 : Value, ∀ s219 : Value, ∀ s220 : Value, ∀ s221 : Value, ∀ s222 : Value, ∀ s223 : Value, ∀ s224 : Value, ∀ s225 : Value, ∀ s226 : Value, ∀ s227 : Value, ∀ s228 : Value, ∀ s229 : Value, ∀ s230 : Value, ∀ s231 : Value, ∀ s232 : Value, ∀ s233 : Value, ∀ s234 : Value, ∀ s235 : Value, ∀ s236 : Value, ∀ s237 : Value, ∀ s238 : Value, ∀ s239 : Value, ∀ s240 : Value, ∀ s6 : Value, ∀ s198 : Value, ∀ s199 : Value, ∀ s27 : Value, ((AS.asBool s6 fun t6 => AS.asInt .u64 s27 fun t27 => I n t6 t27 H) → wpCodeC en L_crossbarlaw16_LruGoes_0 [none, none, none, none, none, some [(240, (.bool false))], none] [] [(.int .i64 t0), (.int .u64 t1), (.int .u64 t2), undef, undef, undef, s6, (.pointer (some ⟨t7, 0, none⟩)), (.bool t8), (.int .i64 t9), (.pointer (some ⟨t10, 0, none⟩)), (.int .i64 t11), (.int .i64 t12), (.int .i64 t13), (.pointer (some ⟨t14, 0, none⟩)), (.int .u64 t15), (.bool t16), (.bool t17), (.int .u64 t18), (.bool t19), (.pointer (some ⟨t20, 0, none⟩)), (.int .i64 t21), (.int .u64 t22), (.bool t23), (.int .i64 t24), (.pointer (some ⟨t25, 0, none⟩)), (.bool t26), s27, s28, s29, s30, s31, (.tuple #[(.agg #[(.pointer t32_0_0), (.pointer t32_0_1), (.pointer t32_0_2)]), (.bool t32_1)]), (.tuple #[(.agg #[(.pointer t33_0_0), (.pointer t33_0_1), (.pointer t33_0_2)]), (.bool t33_1)]), (.agg #[(.pointer t34_0), (.pointer t34_1), (.pointer t34_2)]), (.bool t35), t36, t37, (.pointer (some ⟨t38, 0, none⟩)), (.pointer t39), (.int .i64 t40), (.agg #[(.pointer t41_0), (.pointer t41_1), (.pointer t41_2)]), (.int .u64 t42), (.tuple #[(.agg #[(.int .i64 t43_0_0), (.slice t43_0_1 t43_0_1l 0), (.int .u64 t43_0_2), (.int .i64 t43_0_3)]), (.int .i64 t43_1)]), (.tuple #[(.agg #[(.int .i64 t44_0_0), (.slice t44_0_1 t44_0_1l 0), (.int .u64 t44_0_2), (.int .i64 t44_0_3)]), (.int .i64 t44_1)]), (.agg #[(.pointer t45_0), (.pointer t45_1), (.pointer t45_2)]), (.tuple #[(.agg #[(.int .i64 t46_0_0), (.slice t46_0_1 t46_0_1l 0), (.int .u64 t46_0_2), (.int .i64 t46_0_3)]), (.int .i64 t46_1)]), (.agg #[(.int .i64 t47_0), (.slice t47_1 t47_1l 0), (.int .u64 t47_2), (.int .i64 t47_3)]), (.int .i64 t48), (.tuple #[(.int .i64 t49_0), (.int .i64 t49_1)]), (.pointer (some ⟨t50, 2, none⟩)), (.pointer t51), (.pointer (some ⟨t52, 3, none⟩)), (.int .i64 t53), (.tuple #[(.int .i64 t54_0), (.int .i64 t54_1)]), (.int .i64 t55), (.int .i64 t56), (.pointer (some ⟨t57, 1, none⟩)), (.pointer t58), (.bool t59), (.int .i64 t60), (.int .i64 t61), t62, t63, t64, t65, t66, t67, t68, t69, t70, t71, t72, t73, t74, t75, t76, t77, t78, t79, t80, t81, t82, t83, t84, (.tuple #[(.int .u64 t85_0), (.bool t85_1)]), (.pointer (some ⟨t86, 0, none⟩)), (.pointer t87), (.int .i64 t88), (.int .i64 t89), (.tuple #[(.int .u64 t90_0), (.bool t90_1)]), (.int .u64 t91), (.bool t92), (.pointer (some ⟨t93, 0, none⟩)), (.pointer t94), (.int .i64 t95), (.int .i64 t96), (.int .u64 t97), (.bool t98), (.tuple #[(.int .u64 t99_0), (.bool t99_1)]), (.pointer (some ⟨t100, 0, none⟩)), (.pointer t101), (.int .i64 t102), (.int .i64 t103), (.tuple #[(.int .u64 t104_0), (.bool t104_1)]), (.int .u64 t105), (.bool t106), (.tuple #[(.agg #[(.int .i64 t107_0_0), (.slice t107_0_1 t107_0_1l 0), (.int .u64 t107_0_2), (.int .i64 t107_0_3)]), (.int .i64 t107_1)]), (.agg #[(.pointer t108_0), (.pointer t108_1), (.pointer t108_2)]), (.tuple #[(.agg #[(.int .i64 t109_0_0), (.slice t109_0_1 t109_0_1l 0), (.int .u64 t109_0_2), (.int .i64 t109_0_3)]), (.int .i64 t109_1)]), (.agg #[(.int .i64 t110_0), (.slice t110_1 t110_1l 0), (.int .u64 t110_2), (.int .i64 t110_3)]), (.int .i64 t111), t112, t113, t114, t115, t116, t117, t118, t119, t120, t121, t122, t123, t124, t125, t126, t127, t128, t129, t130, t131, t132, t133, t134, t135, t136, t137, t138, t139, t140, t141, t142, t143, t144, t145, t146, t147, t148, t149, t150, t151, t152, t153, t154, t155, t156, t157, t158, t159, (.pointer (some ⟨t160, 1, none⟩)), (.pointer t161), (.slice t162 t162l 0), (.tuple #[(.int .u64 t163_0), (.bool t163_1)]), (.pointer (some ⟨t164, 0, none⟩)), (.pointer t165), (.int .i64 t166), (.int .i64 t167), (.tuple #[(.int .u64 t168_0), (.bool t168_1)]), (.int .u64 t169), (.bool t170), (.int .i64 t171), t172, t173, t174, t175, t176, t177, t178, t179, t180, t181, t182, t183, t184, t185, t186, t187, t188, t189, (.tuple #[(.agg #[(.pointer t190_0_0), (.pointer t190_0_1), (.pointer t190_0_2)]), (.bool t190_1)]), (.tuple #[(.agg #[(.pointer t191_0_0), (.pointer t191_0_1), (.pointer t191_0_2)]), (.bool t191_1)]), (.agg #[(.pointer t192_0), (.pointer t192_1), (.pointer t192_2)]), (.bool t193), t194, t195, s196, s197, s198, s199, s200, s201, s202, s203, s204, s205, s206, s207, s208, s209, s210, s211, s212, s213, s214, s215, s216, s217, s218, s219, s220, s221, s222, s223, s224, s225, s226, s227, s228, s229, s230, s231, s232, s233, s234, s235, s236, s237, s238, s239, s240, undef, undef, undef, undef, undef, undef, undef] H (loopQ (fun m xs H' => AS.asBool (xs.getD 6 undef) fun t6 => AS.asInt .u64 (xs.getD 27 undef) fun t27 => I m t6 t27 H') n [(X.exit 1, K0), (X.ret, K1)])) by
      apply turnInto hs
      kernel_rfl
    intro s196 s197 s201 s202 s203 s204 s200 s205 s206 s28 s29 s208 s209 s210 s207 s211 s212 s30 s31 s213 s214 s215 s216 s217 s218 s219 s220 s221 s222 s223 s224 s225 s226 s227 s228 s229 s230 s231 s232 s233 s234 s235 s236 s237 s238 s239 s240 s6 s198 s199 s27 hP
    replace hP := asBool_elim hP
    obtain ⟨t6, rfl, hP⟩ := hP
    replace hP := asInt_elim hP
    obtain ⟨t27, rfl, hP⟩ := hP
    apply turnInto (hstep n t6 t27 [(.int .i64 t0), (.int .u64 t1), (.int .u64 t2), undef, undef, undef, (.bool t6), (.pointer (some ⟨t7, 0, none⟩)), (.bool t8), (.int .i64 t9), (.pointer (some ⟨t10, 0, none⟩)), (.int .i64 t11), (.int .i64 t12), (.int .i64 t13), (.pointer (some ⟨t14, 0, none⟩)), (.int .u64 t15), (.bool t16), (.bool t17), (.int .u64 t18), (.bool t19), (.pointer (some ⟨t20, 0, none⟩)), (.int .i64 t21), (.int .u64 t22), (.bool t23), (.int .i64 t24), (.pointer (some ⟨t25, 0, none⟩)), (.bool t26), (.int .u64 t27), s28, s29, s30, s31, (.tuple #[(.agg #[(.pointer t32_0_0), (.pointer t32_0_1), (.pointer t32_0_2)]), (.bool t32_1)]), (.tuple #[(.agg #[(.pointer t33_0_0), (.pointer t33_0_1), (.pointer t33_0_2)]), (.bool t33_1)]), (.agg #[(.pointer t34_0), (.pointer t34_1), (.pointer t34_2)]), (.bool t35), t36, t37, (.pointer (some ⟨t38, 0, none⟩)), (.pointer t39), (.int .i64 t40), (.agg #[(.pointer t41_0), (.pointer t41_1), (.pointer t41_2)]), (.int .u64 t42), (.tuple #[(.agg #[(.int .i64 t43_0_0), (.slice t43_0_1 t43_0_1l 0), (.int .u64 t43_0_2), (.int .i64 t43_0_3)]), (.int .i64 t43_1)]), (.tuple #[(.agg #[(.int .i64 t44_0_0), (.slice t44_0_1 t44_0_1l 0), (.int .u64 t44_0_2), (.int .i64 t44_0_3)]), (.int .i64 t44_1)]), (.agg #[(.pointer t45_0), (.pointer t45_1), (.pointer t45_2)]), (.tuple #[(.agg #[(.int .i64 t46_0_0), (.slice t46_0_1 t46_0_1l 0), (.int .u64 t46_0_2), (.int .i64 t46_0_3)]), (.int .i64 t46_1)]), (.agg #[(.int .i64 t47_0), (.slice t47_1 t47_1l 0), (.int .u64 t47_2), (.int .i64 t47_3)]), (.int .i64 t48), (.tuple #[(.int .i64 t49_0), (.int .i64 t49_1)]), (.pointer (some ⟨t50, 2, none⟩)), (.pointer t51), (.pointer (some ⟨t52, 3, none⟩)), (.int .i64 t53), (.tuple #[(.int .i64 t54_0), (.int .i64 t54_1)]), (.int .i64 t55), (.int .i64 t56), (.pointer (some ⟨t57, 1, none⟩)), (.pointer t58), (.bool t59), (.int .i64 t60), (.int .i64 t61), t62, t63, t64, t65, t66, t67, t68, t69, t70, t71, t72, t73, t74, t75, t76, t77, t78, t79, t80, t81, t82, t83, t84, (.tuple #[(.int .u64 t85_0), (.bool t85_1)]), (.pointer (some ⟨t86, 0, none⟩)), (.pointer t87), (.int .i64 t88), (.int .i64 t89), (.tuple #[(.int .u64 t90_0), (.bool t90_1)]), (.int .u64 t91), (.bool t92), (.pointer (some ⟨t93, 0, none⟩)), (.pointer t94), (.int .i64 t95), (.int .i64 t96), (.int .u64 t97), (.bool t98), (.tuple #[(.int .u64 t99_0), (.bool t99_1)]), (.pointer (some ⟨t100, 0, none⟩)), (.pointer t101), (.int .i64 t102), (.int .i64 t103), (.tuple #[(.int .u64 t104_0), (.bool t104_1)]), (.int .u64 t105), (.bool t106), (.tuple #[(.agg #[(.int .i64 t107_0_0), (.slice t107_0_1 t107_0_1l 0), (.int .u64 t107_0_2), (.int .i64 t107_0_3)]), (.int .i64 t107_1)]), (.agg #[(.pointer t108_0), (.pointer t108_1), (.pointer t108_2)]), (.tuple #[(.agg #[(.int .i64 t109_0_0), (.slice t109_0_1 t109_0_1l 0), (.int .u64 t109_0_2), (.int .i64 t109_0_3)]), (.int .i64 t109_1)]), (.agg #[(.int .i64 t110_0), (.slice t110_1 t110_1l 0), (.int .u64 t110_2), (.int .i64 t110_3)]), (.int .i64 t111), t112, t113, t114, t115, t116, t117, t118, t119, t120, t121, t122, t123, t124, t125, t126, t127, t128, t129, t130, t131, t132, t133, t134, t135, t136, t137, t138, t139, t140, t141, t142, t143, t144, t145, t146, t147, t148, t149, t150, t151, t152, t153, t154, t155, t156, t157, t158, t159, (.pointer (some ⟨t160, 1, none⟩)), (.pointer t161), (.slice t162 t162l 0), (.tuple #[(.int .u64 t163_0), (.bool t163_1)]), (.pointer (some ⟨t164, 0, none⟩)), (.pointer t165), (.int .i64 t166), (.int .i64 t167), (.tuple #[(.int .u64 t168_0), (.bool t168_1)]), (.int .u64 t169), (.bool t170), (.int .i64 t171), t172, t173, t174, t175, t176, t177, t178, t179, t180, t181, t182, t183, t184, t185, t186, t187, t188, t189, (.tuple #[(.agg #[(.pointer t190_0_0), (.pointer t190_0_1), (.pointer t190_0_2)]), (.bool t190_1)]), (.tuple #[(.agg #[(.pointer t191_0_0), (.pointer t191_0_1), (.pointer t191_0_2)]), (.bool t191_1)]), (.agg #[(.pointer t192_0), (.pointer t192_1), (.pointer t192_2)]), (.bool t193), t194, t195, s196, s197, s198, s199, s200, s201, s202, s203, s204, s205, s206, s207, s208, s209, s210, s211, s212, s213, s214, s215, s216, s217, s218, s219, s220, s221, s222, s223, s224, s225, s226, s227, s228, s229, s230, s231, s232, s233, s234, s235, s236, s237, s238, s239, s240, undef, undef, undef, undef, undef, undef, undef] H hP)
    kernel_rfl
  · apply turnInto h0
    kernel_rfl

end Go.Proofs.YtjggeoghlicmdaaGreat
