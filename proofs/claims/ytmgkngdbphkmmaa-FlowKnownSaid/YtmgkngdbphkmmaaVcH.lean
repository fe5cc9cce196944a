/-
  What functions of this seat's program need (printed by a program, checked by the kernel).
-/
import Derived.Test.YtmgkngdbphkmmaaNames
import Derived.Test.YtmgkngdbphkmmaaAs41
namespace Go.Proofs.Ytmgkngdbphkmmaa
open Go Go.AS Go.RowKit
set_option linter.unusedVariables false
set_option maxRecDepth 100000
set_option maxHeartbeats 2000000

/-! crossbarlaw06_FlowKnown -/
noncomputable def L_crossbarlaw06_FlowKnown_0 : Code := loopAt Go.Proofs.Try.f3 0

theorem vc_crossbarlaw06_FlowKnown (H : Heap) (R : Value → Heap → Prop) :
    (
 nwH H (.cells true 1 [(.int .i64 (-1)), (.int .i64 (-1))]) fun i1 H2 =>
 CA en F.crossbarlaw06_mov [] H2 fun v3 H4 =>
 ∃ n5, ∃ n6, ∃ n7, ∃ n8, ∃ n9, v3 = (.agg #[(.int .i64 n5), (.int .i64 n6), (.int .i64 n7), (.int .i64 n8), (.int .i64 n9)]) ∧
 CA en F.crossbarlaw06_exit [] H4 fun v10 H11 =>
 ∃ n12, ∃ n13, ∃ n14, ∃ n15, ∃ n16, v10 = (.agg #[(.int .i64 n12), (.int .i64 n13), (.int .i64 n14), (.int .i64 n15), (.int .i64 n16)]) ∧
 nwH H11 (.cells true 5 [(.int .i64 n5), (.int .i64 n6), (.int .i64 n7), (.int .i64 n8), (.int .i64 n9), (.int .i64 n12), (.int .i64 n13), (.int .i64 n14), (.int .i64 n15), (.int .i64 n16)]) fun i17 H18 =>
 CA en F.crossbarlaw06_is [(.slice (some ⟨i1, 0, none⟩) 2 0), (.int .i64 0), (.slice (some ⟨i17, 0, none⟩) 2 0)] H18 fun v19 H20 =>
 ∃ b21, v19 = (.bool b21) ∧
 bif b21 then (
 nwH H20 (.cells true 1 [(.int .i64 2), (.int .i64 (-1)), (.int .i64 (-1))]) fun i22 H23 =>
 CA en F.crossbarlaw06_jump [(.int .i64 1)] H23 fun v24 H25 =>
 ∃ n26, ∃ n27, ∃ n28, ∃ n29, ∃ n30, v24 = (.agg #[(.int .i64 n26), (.int .i64 n27), (.int .i64 n28), (.int .i64 n29), (.int .i64 n30)]) ∧
 CA en F.crossbarlaw06_mov [] H25 fun v31 H32 =>
 ∃ n33, ∃ n34, ∃ n35, ∃ n36, ∃ n37, v31 = (.agg #[(.int .i64 n33), (.int .i64 n34), (.int .i64 n35), (.int .i64 n36), (.int .i64 n37)]) ∧
 CA en F.crossbarlaw06_exit [] H32 fun v38 H39 =>
 ∃ n40, ∃ n41, ∃ n42, ∃ n43, ∃ n44, v38 = (.agg #[(.int .i64 n40), (.int .i64 n41), (.int .i64 n42), (.int .i64 n43), (.int .i64 n44)]) ∧
 nwH H39 (.cells true 5 [(.int .i64 n26), (.int .i64 n27), (.int .i64 n28), (.int .i64 n29), (.int .i64 n30), (.int .i64 n33), (.int .i64 n34), (.int .i64 n35), (.int .i64 n36), (.int .i64 n37), (.int .i64 n40), (.int .i64 n41), (.int .i64 n42), (.int .i64 n43), (.int .i64 n44)]) fun i45 H46 =>
 CA en F.crossbarlaw06_is [(.slice (some ⟨i22, 0, none⟩) 3 0), (.int .i64 0), (.slice (some ⟨i45, 0, none⟩) 3 0)] H46 fun v47 H48 =>
 ∃ b49, v47 = (.bool b49) ∧
 bif b49 then (
 nwH H48 (.cells true 1 [(.int .i64 (-1)), (.int .i64 0)]) fun i50 H51 =>
 CA en F.crossbarlaw06_mov [] H51 fun v52 H53 =>
 ∃ n54, ∃ n55, ∃ n56, ∃ n57, ∃ n58, v52 = (.agg #[(.int .i64 n54), (.int .i64 n55), (.int .i64 n56), (.int .i64 n57), (.int .i64 n58)]) ∧
 CA en F.crossbarlaw06_ja [(.int .i64 (-2))] H53 fun v59 H60 =>
 ∃ n61, ∃ n62, ∃ n63, ∃ n64, ∃ n65, v59 = (.agg #[(.int .i64 n61), (.int .i64 n62), (.int .i64 n63), (.int .i64 n64), (.int .i64 n65)]) ∧
 nwH H60 (.cells true 5 [(.int .i64 n54), (.int .i64 n55), (.int .i64 n56), (.int .i64 n57), (.int .i64 n58), (.int .i64 n61), (.int .i64 n62), (.int .i64 n63), (.int .i64 n64), (.int .i64 n65)]) fun i66 H67 =>
 CA en F.crossbarlaw06_is [(.slice (some ⟨i50, 0, none⟩) 2 0), (.int .i64 0), (.slice (some ⟨i66, 0, none⟩) 2 0)] H67 fun v68 H69 =>
 ∃ b70, v68 = (.bool b70) ∧
 bif b70 then (
 CA en F.crossbarlaw06_exit [] H69 fun v71 H72 =>
 ∃ n73, ∃ n74, ∃ n75, ∃ n76, ∃ n77, v71 = (.agg #[(.int .i64 n73), (.int .i64 n74), (.int .i64 n75), (.int .i64 n76), (.int .i64 n77)]) ∧
 CA en F.crossbarlaw06_mov [] H72 fun v78 H79 =>
 ∃ n80, ∃ n81, ∃ n82, ∃ n83, ∃ n84, v78 = (.agg #[(.int .i64 n80), (.int .i64 n81), (.int .i64 n82), (.int .i64 n83), (.int .i64 n84)]) ∧
 nwH H79 (.cells true 5 [(.int .i64 n73), (.int .i64 n74), (.int .i64 n75), (.int .i64 n76), (.int .i64 n77), (.int .i64 n80), (.int .i64 n81), (.int .i64 n82), (.int .i64 n83), (.int .i64 n84)]) fun i85 H86 =>
 CA en F.crossbarlaw06_is [(.slice none 0 0), (.int .i64 12), (.slice (some ⟨i85, 0, none⟩) 2 0)] H86 fun v87 H88 =>
 ∃ b89, v87 = (.bool b89) ∧
 bif b89 then (
 CA en F.crossbarlaw06_is [(.slice none 0 0), (.int .i64 12), (.slice none 0 0)] H88 fun v90 H91 =>
 ∃ b92, v90 = (.bool b92) ∧
 bif b92 then (
 nwH H91 (.cells true 1 [(.int .i64 0)]) fun i93 H94 =>
 CA en F.crossbarlaw06_ja [(.int .i64 (-1))] H94 fun v95 H96 =>
 ∃ n97, ∃ n98, ∃ n99, ∃ n100, ∃ n101, v95 = (.agg #[(.int .i64 n97), (.int .i64 n98), (.int .i64 n99), (.int .i64 n100), (.int .i64 n101)]) ∧
 nwH H96 (.cells true 5 [(.int .i64 n97), (.int .i64 n98), (.int .i64 n99), (.int .i64 n100), (.int .i64 n101)]) fun i102 H103 =>
 CA en F.crossbarlaw06_is [(.slice (some ⟨i93, 0, none⟩) 1 0), (.int .i64 0), (.slice (some ⟨i102, 0, none⟩) 1 0)] H103 fun v104 H105 =>
 ∃ b106, v104 = (.bool b106) ∧
 bif b106 then (
 nwH H105 (.cells true 1 [(.int .i64 1), (.int .i64 (-1))]) fun i107 H108 =>
 CA en F.crossbarlaw06_jump [(.int .i64 0)] H108 fun v109 H110 =>
 ∃ n111, ∃ n112, ∃ n113, ∃ n114, ∃ n115, v109 = (.agg #[(.int .i64 n111), (.int .i64 n112), (.int .i64 n113), (.int .i64 n114), (.int .i64 n115)]) ∧
 CA en F.crossbarlaw06_exit [] H110 fun v116 H117 =>
 ∃ n118, ∃ n119, ∃ n120, ∃ n121, ∃ n122, v116 = (.agg #[(.int .i64 n118), (.int .i64 n119), (.int .i64 n120), (.int .i64 n121), (.int .i64 n122)]) ∧
 nwH H117 (.cells true 5 [(.int .i64 n111), (.int .i64 n112), (.int .i64 n113), (.int .i64 n114), (.int .i64 n115), (.int .i64 n118), (.int .i64 n119), (.int .i64 n120), (.int .i64 n121), (.int .i64 n122)]) fun i123 H124 =>
 CA en F.crossbarlaw06_is [(.slice (some ⟨i107, 0, none⟩) 2 0), (.int .i64 0), (.slice (some ⟨i123, 0, none⟩) 2 0)] H124 fun v125 H126 =>
 ∃ b127, v125 = (.bool b127) ∧
 ∃ J128 : List Value → Heap → Prop, (
 CA en F.crossbarlaw06_ja [(.int .i64 (-2))] H126 fun v129 H130 =>
 ∃ n131, ∃ n132, ∃ n133, ∃ n134, ∃ n135, v129 = (.agg #[(.int .i64 n131), (.int .i64 n132), (.int .i64 n133), (.int .i64 n134), (.int .i64 n135)]) ∧
 nwH H130 (.cells true 5 [(.int .i64 n131), (.int .i64 n132), (.int .i64 n133), (.int .i64 n134), (.int .i64 n135)]) fun i136 H137 =>
 CA en F.crossbarlaw06_is [(.slice none 0 0), (.int .i64 11), (.slice (some ⟨i136, 0, none⟩) 1 0)] H137 fun v138 H139 =>
 ∃ b140, v138 = (.bool b140) ∧
 bif b140 then (
 CA en F.crossbarlaw06_jump [(.int .i64 1)] H139 fun v141 H142 =>
 ∃ n143, ∃ n144, ∃ n145, ∃ n146, ∃ n147, v141 = (.agg #[(.int .i64 n143), (.int .i64 n144), (.int .i64 n145), (.int .i64 n146), (.int .i64 n147)]) ∧
 CA en F.crossbarlaw06_exit [] H142 fun v148 H149 =>
 ∃ n150, ∃ n151, ∃ n152, ∃ n153, ∃ n154, v148 = (.agg #[(.int .i64 n150), (.int .i64 n151), (.int .i64 n152), (.int .i64 n153), (.int .i64 n154)]) ∧
 nwH H149 (.cells true 5 [(.int .i64 n143), (.int .i64 n144), (.int .i64 n145), (.int .i64 n146), (.int .i64 n147), (.int .i64 n150), (.int .i64 n151), (.int .i64 n152), (.int .i64 n153), (.int .i64 n154)]) fun i155 H156 =>
 CA en F.crossbarlaw06_is [(.slice none 0 0), (.int .i64 11), (.slice (some ⟨i155, 0, none⟩) 2 0)] H156 fun v157 H158 =>
 ∃ b159, v157 = (.bool b159) ∧
 bif b159 then (
 CA en F.crossbarlaw06_jump [(.int .i64 (-1))] H158 fun v160 H161 =>
 ∃ n162, ∃ n163, ∃ n164, ∃ n165, ∃ n166, v160 = (.agg #[(.int .i64 n162), (.int .i64 n163), (.int .i64 n164), (.int .i64 n165), (.int .i64 n166)]) ∧
 nwH H161 (.cells true 5 [(.int .i64 n162), (.int .i64 n163), (.int .i64 n164), (.int .i64 n165), (.int .i64 n166)]) fun i167 H168 =>
 CA en F.crossbarlaw06_is [(.slice none 0 0), (.int .i64 12), (.slice (some ⟨i167, 0, none⟩) 1 0)] H168 fun v169 H170 =>
 ∃ b171, v169 = (.bool b171) ∧
 bif b171 then (
 CA en F.crossbarlaw06_exit [] H170 fun v172 H173 =>
 ∃ n174, ∃ n175, ∃ n176, ∃ n177, ∃ n178, v172 = (.agg #[(.int .i64 n174), (.int .i64 n175), (.int .i64 n176), (.int .i64 n177), (.int .i64 n178)]) ∧
 CA en F.crossbarlaw06_exit [] H173 fun v179 H180 =>
 ∃ n181, ∃ n182, ∃ n183, ∃ n184, ∃ n185, v179 = (.agg #[(.int .i64 n181), (.int .i64 n182), (.int .i64 n183), (.int .i64 n184), (.int .i64 n185)]) ∧
 nwH H180 (.cells true 5 [(.int .i64 n174), (.int .i64 n175), (.int .i64 n176), (.int .i64 n177), (.int .i64 n178), (.int .i64 n181), (.int .i64 n182), (.int .i64 n183), (.int .i64 n184), (.int .i64 n185)]) fun i186 H187 =>
 CA en F.crossbarlaw06_is [(.slice none 0 0), (.int .i64 13), (.slice (some ⟨i186, 0, none⟩) 2 0)] H187 fun v188 H189 =>
 ∃ b190, v188 = (.bool b190) ∧
 bif b190 then (
 CA en F.crossbarlaw06_wide [] H189 fun v191 H192 =>
 ∃ n193, ∃ n194, ∃ n195, ∃ n196, ∃ n197, v191 = (.agg #[(.int .i64 n193), (.int .i64 n194), (.int .i64 n195), (.int .i64 n196), (.int .i64 n197)]) ∧
 CA en F.crossbarlaw06_jump [(.int .i64 (-2))] H192 fun v198 H199 =>
 ∃ n200, ∃ n201, ∃ n202, ∃ n203, ∃ n204, v198 = (.agg #[(.int .i64 n200), (.int .i64 n201), (.int .i64 n202), (.int .i64 n203), (.int .i64 n204)]) ∧
 CA en F.crossbarlaw06_exit [] H199 fun v205 H206 =>
 ∃ n207, ∃ n208, ∃ n209, ∃ n210, ∃ n211, v205 = (.agg #[(.int .i64 n207), (.int .i64 n208), (.int .i64 n209), (.int .i64 n210), (.int .i64 n211)]) ∧
 nwH H206 (.cells true 5 [(.int .i64 n193), (.int .i64 n194), (.int .i64 n195), (.int .i64 n196), (.int .i64 n197), (.int .i64 n200), (.int .i64 n201), (.int .i64 n202), (.int .i64 n203), (.int .i64 n204), (.int .i64 n207), (.int .i64 n208), (.int .i64 n209), (.int .i64 n210), (.int .i64 n211)]) fun i212 H213 =>
 CA en F.crossbarlaw06_is [(.slice none 0 0), (.int .i64 11), (.slice (some ⟨i212, 0, none⟩) 3 0)] H213 fun v214 H215 =>
 ∃ b216, v214 = (.bool b216) ∧
 bif b216 then (
 nwH H215 (.cells true 1 [(.int .i64 (-1)), (.int .i64 0), (.int .i64 (-1))]) fun i217 H218 =>
 CA en F.crossbarlaw06_wide [] H218 fun v219 H220 =>
 ∃ n221, ∃ n222, ∃ n223, ∃ n224, ∃ n225, v219 = (.agg #[(.int .i64 n221), (.int .i64 n222), (.int .i64 n223), (.int .i64 n224), (.int .i64 n225)]) ∧
 CA en F.crossbarlaw06_jump [(.int .i64 (-3))] H220 fun v226 H227 =>
 ∃ n228, ∃ n229, ∃ n230, ∃ n231, ∃ n232, v226 = (.agg #[(.int .i64 n228), (.int .i64 n229), (.int .i64 n230), (.int .i64 n231), (.int .i64 n232)]) ∧
 CA en F.crossbarlaw06_exit [] H227 fun v233 H234 =>
 ∃ n235, ∃ n236, ∃ n237, ∃ n238, ∃ n239, v233 = (.agg #[(.int .i64 n235), (.int .i64 n236), (.int .i64 n237), (.int .i64 n238), (.int .i64 n239)]) ∧
 nwH H234 (.cells true 5 [(.int .i64 n221), (.int .i64 n222), (.int .i64 n223), (.int .i64 n224), (.int .i64 n225), (.int .i64 n228), (.int .i64 n229), (.int .i64 n230), (.int .i64 n231), (.int .i64 n232), (.int .i64 n235), (.int .i64 n236), (.int .i64 n237), (.int .i64 n238), (.int .i64 n239)]) fun i240 H241 =>
 CA en F.crossbarlaw06_is [(.slice (some ⟨i217, 0, none⟩) 3 0), (.int .i64 0), (.slice (some ⟨i240, 0, none⟩) 3 0)] H241 fun v242 H243 =>
 ∃ b244, v242 = (.bool b244) ∧
 bif b244 then (
 CA en F.crossbarlaw06_jump [(.int .i64 5)] H243 fun v245 H246 =>
 ∃ n247, ∃ n248, ∃ n249, ∃ n250, ∃ n251, v245 = (.agg #[(.int .i64 n247), (.int .i64 n248), (.int .i64 n249), (.int .i64 n250), (.int .i64 n251)]) ∧
 CA en F.crossbarlaw06_mov [] H246 fun v252 H253 =>
 ∃ n254, ∃ n255, ∃ n256, ∃ n257, ∃ n258, v252 = (.agg #[(.int .i64 n254), (.int .i64 n255), (.int .i64 n256), (.int .i64 n257), (.int .i64 n258)]) ∧
 nwH H253 (.cells true 5 [(.int .i64 n247), (.int .i64 n248), (.int .i64 n249), (.int .i64 n250), (.int .i64 n251), (.int .i64 n254), (.int .i64 n255), (.int .i64 n256), (.int .i64 n257), (.int .i64 n258)]) fun i259 H260 =>
 CA en F.crossbarlaw06_is [(.slice none 0 0), (.int .i64 11), (.slice (some ⟨i259, 0, none⟩) 2 0)] H260 fun v261 H262 =>
 ∃ b263, v261 = (.bool b263) ∧
 J128 [(.bool b263)] H262)
 else (
 J128 [(.bool false)] H243))
 else (
 J128 [(.bool false)] H215))
 else (
 J128 [(.bool false)] H189))
 else (
 J128 [(.bool false)] H170))
 else (
 J128 [(.bool false)] H158))
 else (
 J128 [(.bool false)] H139)) ∧
 ∀ (ys264 : Fr) (H265 : Heap), ∀ b266, J128 [(.bool b266)] H265 →
 ∃ J267 : List Value → Heap → Prop, (
 CA en F.crossbarlaw06_jump [(.int .i64 0)] H265 fun v268 H269 =>
 ∃ n270, ∃ n271, ∃ n272, ∃ n273, ∃ n274, v268 = (.agg #[(.int .i64 n270), (.int .i64 n271), (.int .i64 n272), (.int .i64 n273), (.int .i64 n274)]) ∧
 CA en F.crossbarlaw06_exit [] H269 fun v275 H276 =>
 ∃ n277, ∃ n278, ∃ n279, ∃ n280, ∃ n281, v275 = (.agg #[(.int .i64 n277), (.int .i64 n278), (.int .i64 n279), (.int .i64 n280), (.int .i64 n281)]) ∧
 nwH H276 (.cells true 5 [(.int .i64 n270), (.int .i64 n271), (.int .i64 n272), (.int .i64 n273), (.int .i64 n274), (.int .i64 n277), (.int .i64 n278), (.int .i64 n279), (.int .i64 n280), (.int .i64 n281)]) fun i282 H283 =>
 nwH H283 (.cells true 1 [(.int .i64 1), (.int .i64 (-1))]) fun i284 H285 =>
 CA en F.flow_Next [(.slice (some ⟨i282, 0, none⟩) 2 0), (.slice (some ⟨i284, 0, none⟩) 2 0), (.int .i64 0)] H285 fun v286 H287 =>
 ∃ a288 i289, v286 = (.slice a288 i289 0) ∧
 J267 [(.slice a288 i289 0)] H287) ∧
 ∀ (ys290 : Fr) (H291 : Heap), ∀ a292 i293, J267 [(.slice a292 i293 0)] H291 →
 ∃ J294 : List Value → Heap → Prop, (
 CA en F.crossbarlaw06_jump [(.int .i64 1)] H291 fun v295 H296 =>
 ∃ n297, ∃ n298, ∃ n299, ∃ n300, ∃ n301, v295 = (.agg #[(.int .i64 n297), (.int .i64 n298), (.int .i64 n299), (.int .i64 n300), (.int .i64 n301)]) ∧
 CA en F.crossbarlaw06_mov [] H296 fun v302 H303 =>
 ∃ n304, ∃ n305, ∃ n306, ∃ n307, ∃ n308, v302 = (.agg #[(.int .i64 n304), (.int .i64 n305), (.int .i64 n306), (.int .i64 n307), (.int .i64 n308)]) ∧
 CA en F.crossbarlaw06_exit [] H303 fun v309 H310 =>
 ∃ n311, ∃ n312, ∃ n313, ∃ n314, ∃ n315, v309 = (.agg #[(.int .i64 n311), (.int .i64 n312), (.int .i64 n313), (.int .i64 n314), (.int .i64 n315)]) ∧
 nwH H310 (.cells true 5 [(.int .i64 n297), (.int .i64 n298), (.int .i64 n299), (.int .i64 n300), (.int .i64 n301), (.int .i64 n304), (.int .i64 n305), (.int .i64 n306), (.int .i64 n307), (.int .i64 n308), (.int .i64 n311), (.int .i64 n312), (.int .i64 n313), (.int .i64 n314), (.int .i64 n315)]) fun i316 H317 =>
 nwH H317 (.cells true 1 [(.int .i64 2), (.int .i64 (-1)), (.int .i64 (-1))]) fun i318 H319 =>
 CA en F.flow_Next [(.slice (some ⟨i316, 0, none⟩) 3 0), (.slice (some ⟨i318, 0, none⟩) 3 0), (.int .i64 0)] H319 fun v320 H321 =>
 ∃ a322 i323, v320 = (.slice a322 i323 0) ∧
 J294 [(.slice a322 i323 0)] H321) ∧
 ∀ (ys324 : Fr) (H325 : Heap), ∀ a326 i327, J294 [(.slice a326 i327 0)] H325 →
 ∃ J328 : List Value → Heap → Prop, (
 nwH H325 (.cells true 0 [(.int .i64 0), (.int .i64 0), (.int .i64 0), (.int .i64 0), (.int .i64 0)]) fun i329 H330 =>
 stc H330 i329 0 [(.int .i64 133), (.int .i64 0), (.int .i64 0), (.int .i64 0), (.int .i64 1)] fun H331 =>
 J328 [(.pointer (some ⟨i329, 0, none⟩))] H331) ∧
 ∀ (ys332 : Fr) (H333 : Heap), ∀ v334, J328 [v334] H333 →
 LA en L_crossbarlaw06_FlowKnown_0 [(.bool false), (.bool b127), (.bool b266), (.slice a292 i293 0), (.slice a326 i327 0), v334, (.slice none 0 0), (.int .i64 0), (.slice (some ⟨i1, 0, none⟩) 2 0), (.agg #[(.int .i64 n5), (.int .i64 n6), (.int .i64 n7), (.int .i64 n8), (.int .i64 n9)]), (.agg #[(.int .i64 n12), (.int .i64 n13), (.int .i64 n14), (.int .i64 n15), (.int .i64 n16)]), (.slice (some ⟨i17, 0, none⟩) 2 0), (.bool b21), (.bool true), (.slice (some ⟨i22, 0, none⟩) 3 0), (.agg #[(.int .i64 n26), (.int .i64 n27), (.int .i64 n28), (.int .i64 n29), (.int .i64 n30)]), (.agg #[(.int .i64 n33), (.int .i64 n34), (.int .i64 n35), (.int .i64 n36), (.int .i64 n37)]), (.agg #[(.int .i64 n40), (.int .i64 n41), (.int .i64 n42), (.int .i64 n43), (.int .i64 n44)]), (.slice (some ⟨i45, 0, none⟩) 3 0), (.bool b49), (.bool b49), (.bool true), (.slice (some ⟨i50, 0, none⟩) 2 0), (.agg #[(.int .i64 n54), (.int .i64 n55), (.int .i64 n56), (.int .i64 n57), (.int .i64 n58)]), (.agg #[(.int .i64 n61), (.int .i64 n62), (.int .i64 n63), (.int .i64 n64), (.int .i64 n65)]), (.slice (some ⟨i66, 0, none⟩) 2 0), (.bool b70), (.bool b70), (.bool true), (.agg #[(.int .i64 n73), (.int .i64 n74), (.int .i64 n75), (.int .i64 n76), (.int .i64 n77)]), (.agg #[(.int .i64 n80), (.int .i64 n81), (.int .i64 n82), (.int .i64 n83), (.int .i64 n84)]), (.slice (some ⟨i85, 0, none⟩) 2 0), (.bool b89), (.bool b89), (.bool true), (.bool b92), (.bool b92), (.bool true), (.slice (some ⟨i93, 0, none⟩) 1 0), (.agg #[(.int .i64 n97), (.int .i64 n98), (.int .i64 n99), (.int .i64 n100), (.int .i64 n101)]), (.slice (some ⟨i102, 0, none⟩) 1 0), (.bool b106), (.bool b106), (.bool true), (.slice (some ⟨i107, 0, none⟩) 2 0), (.agg #[(.int .i64 n111), (.int .i64 n112), (.int .i64 n113), (.int .i64 n114), (.int .i64 n115)]), (.agg #[(.int .i64 n118), (.int .i64 n119), (.int .i64 n120), (.int .i64 n121), (.int .i64 n122)]), (.slice (some ⟨i123, 0, none⟩) 2 0), (.bool b127), (.bool b127), (ys264.getD 50 undef), (ys264.getD 51 undef), (ys264.getD 52 undef), (ys264.getD 53 undef), (ys264.getD 54 undef), (ys264.getD 55 undef), (ys264.getD 56 undef), (ys264.getD 57 undef), (ys264.getD 58 undef), (ys264.getD 59 undef), (ys264.getD 60 undef), (ys264.getD 61 undef), (ys264.getD 62 undef), (ys264.getD 63 undef), (ys264.getD 64 undef), (ys264.getD 65 undef), (ys264.getD 66 undef), (ys264.getD 67 undef), (ys264.getD 68 undef), (ys264.getD 69 undef), (ys264.getD 70 undef), (ys264.getD 71 undef), (ys264.getD 72 undef), (ys264.getD 73 undef), (ys264.getD 74 undef), (ys264.getD 75 undef), (ys264.getD 76 undef), (ys264.getD 77 undef), (ys264.getD 78 undef), (ys264.getD 79 undef), (ys264.getD 80 undef), (ys264.getD 81 undef), (ys264.getD 82 undef), (ys264.getD 83 undef), (ys264.getD 84 undef), (ys264.getD 85 undef), (ys264.getD 86 undef), (ys264.getD 87 undef), (ys264.getD 88 undef), (ys264.getD 89 undef), (ys264.getD 90 undef), (ys290.getD 91 undef), (ys290.getD 92 undef), (ys290.getD 93 undef), (ys290.getD 94 undef), (ys290.getD 95 undef), (ys324.getD 96 undef), (ys324.getD 97 undef), (ys324.getD 98 undef), (ys324.getD 99 undef), (ys324.getD 100 undef), (ys324.getD 101 undef), (ys332.getD 102 undef), undef, undef, undef, undef, undef, undef, undef, undef, undef, undef, undef, undef, undef, undef, undef, undef, undef, undef, undef, undef, undef, undef, undef, undef, undef, undef, undef, undef, undef, undef, undef, undef, undef, undef, undef, undef, undef, undef, undef, undef, undef, undef, undef, undef, undef, undef, undef, undef, undef, undef] H333 [(X.exit 0, fun (y335 : Fr) (H336 : Heap) =>
 asSl (y335.getD 6 undef) fun a337 i338 =>
 ∃ J339 : List Value → Heap → Prop, (
 bif b127 then (
 bif b266 then (
 nwH H336 (.cells true 1 [(.int .i64 1)]) fun i340 H341 =>
 CA en F.crossbarkit_SameInts [(.slice a292 i293 0), (.slice (some ⟨i340, 0, none⟩) 1 0)] H341 fun v342 H343 =>
 ∃ b344, v342 = (.bool b344) ∧
 bif b344 then (
 nwH H343 (.cells true 1 [(.int .i64 1), (.int .i64 2)]) fun i345 H346 =>
 CA en F.crossbarkit_SameInts [(.slice a326 i327 0), (.slice (some ⟨i345, 0, none⟩) 2 0)] H346 fun v347 H348 =>
 ∃ b349, v347 = (.bool b349) ∧
 bif b349 then (
 AS.asAddr v334 fun i350 i351 =>
 ∃ n352, ∃ n353, ∃ n354, ∃ n355, ∃ n356, H348.cellsAt i350 i351 5 = some [(.int .i64 n352), (.int .i64 n353), (.int .i64 n354), (.int .i64 n355), (.int .i64 n356)] ∧
 CA en F.flow_Jumps [(.agg #[(.int .i64 n352), (.int .i64 n353), (.int .i64 n354), (.int .i64 n355), (.int .i64 n356)])] H348 fun v357 H358 =>
 ∃ b359, v357 = (.bool b359) ∧
 bif (!b359) then (
 CA en F.crossbarlaw06_exit [] H358 fun v360 H361 =>
 ∃ n362, ∃ n363, ∃ n364, ∃ n365, ∃ n366, v360 = (.agg #[(.int .i64 n362), (.int .i64 n363), (.int .i64 n364), (.int .i64 n365), (.int .i64 n366)]) ∧
 CA en F.flow_Jumps [(.agg #[(.int .i64 n362), (.int .i64 n363), (.int .i64 n364), (.int .i64 n365), (.int .i64 n366)])] H361 fun v367 H368 =>
 ∃ b369, v367 = (.bool b369) ∧
 bif (!b369) then (
 CA en F.flow_Jumps [(.agg #[(.int .i64 222), (.int .i64 0), (.int .i64 0), (.int .i64 0), (.int .i64 0)])] H368 fun v370 H371 =>
 ∃ b372, v370 = (.bool b372) ∧
 bif b372 then (
 CA en F.crossbarlaw06_exit [] H371 fun v373 H374 =>
 ∃ n375, ∃ n376, ∃ n377, ∃ n378, ∃ n379, v373 = (.agg #[(.int .i64 n375), (.int .i64 n376), (.int .i64 n377), (.int .i64 n378), (.int .i64 n379)]) ∧
 nwH H374 (.cells true 5 [(.int .i64 n375), (.int .i64 n376), (.int .i64 n377), (.int .i64 n378), (.int .i64 n379)]) fun i380 H381 =>
 ∃ l382, rowOf H381 5 (some ⟨i380, 0, none⟩) 1 = some l382 ∧
 apdF H381 40 5 a337 i338 1 l382 fun a383 i384 H385 =>
 CA en F.crossbarlaw06_is [(.slice none 0 0), (.int .i64 19), (.slice a383 i384 0)] H385 fun v386 H387 =>
 ∃ b388, v386 = (.bool b388) ∧
 bif b388 then (
 CA en F.crossbarlaw06_is [(.slice none 0 0), (.int .i64 12), (.slice a337 i338 0)] H387 fun v389 H390 =>
 ∃ b391, v389 = (.bool b391) ∧
 bif b391 then (
 CA en F.crossbarlaw06_known [] H390 fun v392 H393 =>
 ∃ b394, v392 = (.bool b394) ∧
 J339 [(.bool b394)] H393)
 else (
 J339 [(.bool false)] H390))
 else (
 J339 [(.bool false)] H387))
 else (
 J339 [(.bool false)] H371))
 else (
 J339 [(.bool false)] H368))
 else (
 J339 [(.bool false)] H358))
 else (
 J339 [(.bool false)] H348))
 else (
 J339 [(.bool false)] H343))
 else (
 J339 [(.bool false)] H336))
 else (
 J339 [(.bool false)] H336)) ∧
 ∀ (ys395 : Fr) (H396 : Heap), ∀ b397, J339 [(.bool b397)] H396 →
 R (.bool b397) H396)])
 else (
 ∃ J398 : List Value → Heap → Prop, (
 CA en F.crossbarlaw06_ja [(.int .i64 (-2))] H105 fun v399 H400 =>
 ∃ n401, ∃ n402, ∃ n403, ∃ n404, ∃ n405, v399 = (.agg #[(.int .i64 n401), (.int .i64 n402), (.int .i64 n403), (.int .i64 n404), (.int .i64 n405)]) ∧
 nwH H400 (.cells true 5 [(.int .i64 n401), (.int .i64 n402), (.int .i64 n403), (.int .i64 n404), (.int .i64 n405)]) fun i406 H407 =>
 CA en F.crossbarlaw06_is [(.slice none 0 0), (.int .i64 11), (.slice (some ⟨i406, 0, none⟩) 1 0)] H407 fun v408 H409 =>
 ∃ b410, v408 = (.bool b410) ∧
 bif b410 then (
 CA en F.crossbarlaw06_jump [(.int .i64 1)] H409 fun v411 H412 =>
 ∃ n413, ∃ n414, ∃ n415, ∃ n416, ∃ n417, v411 = (.agg #[(.int .i64 n413), (.int .i64 n414), (.int .i64 n415), (.int .i64 n416), (.int .i64 n417)]) ∧
 CA en F.crossbarlaw06_exit [] H412 fun v418 H419 =>
 ∃ n420, ∃ n421, ∃ n422, ∃ n423, ∃ n424, v418 = (.agg #[(.int .i64 n420), (.int .i64 n421), (.int .i64 n422), (.int .i64 n423), (.int .i64 n424)]) ∧
 nwH H419 (.cells true 5 [(.int .i64 n413), (.int .i64 n414), (.int .i64 n415), (.int .i64 n416), (.int .i64 n417), (.int .i64 n420), (.int .i64 n421), (.int .i64 n422), (.int .i64 n423), (.int .i64 n424)]) fun i425 H426 =>
 CA en F.crossbarlaw06_is [(.slice none 0 0), (.int .i64 11), (.slice (some ⟨i425, 0, none⟩) 2 0)] H426 fun v427 H428 =>
 ∃ b429, v427 = (.bool b429) ∧
 bif b429 then (
 CA en F.crossbarlaw06_jump [(.int .i64 (-1))] H428 fun v430 H431 =>
 ∃ n432, ∃ n433, ∃ n434, ∃ n435, ∃ n436, v430 = (.agg #[(.int .i64 n432), (.int .i64 n433), (.int .i64 n434), (.int .i64 n435), (.int .i64 n436)]) ∧
 nwH H431 (.cells true 5 [(.int .i64 n432), (.int .i64 n433), (.int .i64 n434), (.int .i64 n435), (.int .i64 n436)]) fun i437 H438 =>
 CA en F.crossbarlaw06_is [(.slice none 0 0), (.int .i64 12), (.slice (some ⟨i437, 0, none⟩) 1 0)] H438 fun v439 H440 =>
 ∃ b441, v439 = (.bool b441) ∧
 bif b441 then (
 CA en F.crossbarlaw06_exit [] H440 fun v442 H443 =>
 ∃ n444, ∃ n445, ∃ n446, ∃ n447, ∃ n448, v442 = (.agg #[(.int .i64 n444), (.int .i64 n445), (.int .i64 n446), (.int .i64 n447), (.int .i64 n448)]) ∧
 CA en F.crossbarlaw06_exit [] H443 fun v449 H450 =>
 ∃ n451, ∃ n452, ∃ n453, ∃ n454, ∃ n455, v449 = (.agg #[(.int .i64 n451), (.int .i64 n452), (.int .i64 n453), (.int .i64 n454), (.int .i64 n455)]) ∧
 nwH H450 (.cells true 5 [(.int .i64 n444), (.int .i64 n445), (.int .i64 n446), (.int .i64 n447), (.int .i64 n448), (.int .i64 n451), (.int .i64 n452), (.int .i64 n453), (.int .i64 n454), (.int .i64 n455)]) fun i456 H457 =>
 CA en F.crossbarlaw06_is [(.slice none 0 0), (.int .i64 13), (.slice (some ⟨i456, 0, none⟩) 2 0)] H457 fun v458 H459 =>
 ∃ b460, v458 = (.bool b460) ∧
 bif b460 then (
 CA en F.crossbarlaw06_wide [] H459 fun v461 H462 =>
 ∃ n463, ∃ n464, ∃ n465, ∃ n466, ∃ n467, v461 = (.agg #[(.int .i64 n463), (.int .i64 n464), (.int .i64 n465), (.int .i64 n466), (.int .i64 n467)]) ∧
 CA en F.crossbarlaw06_jump [(.int .i64 (-2))] H462 fun v468 H469 =>
 ∃ n470, ∃ n471, ∃ n472, ∃ n473, ∃ n474, v468 = (.agg #[(.int .i64 n470), (.int .i64 n471), (.int .i64 n472), (.int .i64 n473), (.int .i64 n474)]) ∧
 CA en F.crossbarlaw06_exit [] H469 fun v475 H476 =>
 ∃ n477, ∃ n478, ∃ n479, ∃ n480, ∃ n481, v475 = (.agg #[(.int .i64 n477), (.int .i64 n478), (.int .i64 n479), (.int .i64 n480), (.int .i64 n481)]) ∧
 nwH H476 (.cells true 5 [(.int .i64 n463), (.int .i64 n464), (.int .i64 n465), (.int .i64 n466), (.int .i64 n467), (.int .i64 n470), (.int .i64 n471), (.int .i64 n472), (.int .i64 n473), (.int .i64 n474), (.int .i64 n477), (.int .i64 n478), (.int .i64 n479), (.int .i64 n480), (.int .i64 n481)]) fun i482 H483 =>
 CA en F.crossbarlaw06_is [(.slice none 0 0), (.int .i64 11), (.slice (some ⟨i482, 0, none⟩) 3 0)] H483 fun v484 H485 =>
 ∃ b486, v484 = (.bool b486) ∧
 bif b486 then (
 nwH H485 (.cells true 1 [(.int .i64 (-1)), (.int .i64 0), (.int .i64 (-1))]) fun i487 H488 =>
 CA en F.crossbarlaw06_wide [] H488 fun v489 H490 =>
 ∃ n491, ∃ n492, ∃ n493, ∃ n494, ∃ n495, v489 = (.agg #[(.int .i64 n491), (.int .i64 n492), (.int .i64 n493), (.int .i64 n494), (.int .i64 n495)]) ∧
 CA en F.crossbarlaw06_jump [(.int .i64 (-3))] H490 fun v496 H497 =>
 ∃ n498, ∃ n499, ∃ n500, ∃ n501, ∃ n502, v496 = (.agg #[(.int .i64 n498), (.int .i64 n499), (.int .i64 n500), (.int .i64 n501), (.int .i64 n502)]) ∧
 CA en F.crossbarlaw06_exit [] H497 fun v503 H504 =>
 ∃ n505, ∃ n506, ∃ n507, ∃ n508, ∃ n509, v503 = (.agg #[(.int .i64 n505), (.int .i64 n506), (.int .i64 n507), (.int .i64 n508), (.int .i64 n509)]) ∧
 nwH H504 (.cells true 5 [(.int .i64 n491), (.int .i64 n492), (.int .i64 n493), (.int .i64 n494), (.int .i64 n495), (.int .i64 n498), (.int .i64 n499), (.int .i64 n500), (.int .i64 n501), (.int .i64 n502), (.int .i64 n505), (.int .i64 n506), (.int .i64 n507), (.int .i64 n508), (.int .i64 n509)]) fun i510 H511 =>
 CA en F.crossbarlaw06_is [(.slice (some ⟨i487, 0, none⟩) 3 0), (.int .i64 0), (.slice (some ⟨i510, 0, none⟩) 3 0)] H511 fun v512 H513 =>
 ∃ b514, v512 = (.bool b514) ∧
 bif b514 then (
 CA en F.crossbarlaw06_jump [(.int .i64 5)] H513 fun v515 H516 =>
 ∃ n517, ∃ n518, ∃ n519, ∃ n520, ∃ n521, v515 = (.agg #[(.int .i64 n517), (.int .i64 n518), (.int .i64 n519), (.int .i64 n520), (.int .i64 n521)]) ∧
 CA en F.crossbarlaw06_mov [] H516 fun v522 H523 =>
 ∃ n524, ∃ n525, ∃ n526, ∃ n527, ∃ n528, v522 = (.agg #[(.int .i64 n524), (.int .i64 n525), (.int .i64 n526), (.int .i64 n527), (.int .i64 n528)]) ∧
 nwH H523 (.cells true 5 [(.int .i64 n517), (.int .i64 n518), (.int .i64 n519), (.int .i64 n520), (.int .i64 n521), (.int .i64 n524), (.int .i64 n525), (.int .i64 n526), (.int .i64 n527), (.int .i64 n528)]) fun i529 H530 =>
 CA en F.crossbarlaw06_is [(.slice none 0 0), (.int .i64 11), (.slice (some ⟨i529, 0, none⟩) 2 0)] H530 fun v531 H532 =>
 ∃ b533, v531 = (.bool b533) ∧
 J398 [(.bool b533)] H532)
 else (
 J398 [(.bool false)] H513))
 else (
 J398 [(.bool false)] H485))
 else (
 J398 [(.bool false)] H459))
 else (
 J398 [(.bool false)] H440))
 else (
 J398 [(.bool false)] H428))
 else (
 J398 [(.bool false)] H409)) ∧
 ∀ (ys534 : Fr) (H535 : Heap), ∀ b536, J398 [(.bool b536)] H535 →
 ∃ J537 : List Value → Heap → Prop, (
 CA en F.crossbarlaw06_jump [(.int .i64 0)] H535 fun v538 H539 =>
 ∃ n540, ∃ n541, ∃ n542, ∃ n543, ∃ n544, v538 = (.agg #[(.int .i64 n540), (.int .i64 n541), (.int .i64 n542), (.int .i64 n543), (.int .i64 n544)]) ∧
 CA en F.crossbarlaw06_exit [] H539 fun v545 H546 =>
 ∃ n547, ∃ n548, ∃ n549, ∃ n550, ∃ n551, v545 = (.agg #[(.int .i64 n547), (.int .i64 n548), (.int .i64 n549), (.int .i64 n550), (.int .i64 n551)]) ∧
 nwH H546 (.cells true 5 [(.int .i64 n540), (.int .i64 n541), (.int .i64 n542), (.int .i64 n543), (.int .i64 n544), (.int .i64 n547), (.int .i64 n548), (.int .i64 n549), (.int .i64 n550), (.int .i64 n551)]) fun i552 H553 =>
 nwH H553 (.cells true 1 [(.int .i64 1), (.int .i64 (-1))]) fun i554 H555 =>
 CA en F.flow_Next [(.slice (some ⟨i552, 0, none⟩) 2 0), (.slice (some ⟨i554, 0, none⟩) 2 0), (.int .i64 0)] H555 fun v556 H557 =>
 ∃ a558 i559, v556 = (.slice a558 i559 0) ∧
 J537 [(.slice a558 i559 0)] H557) ∧
 ∀ (ys560 : Fr) (H561 : Heap), ∀ a562 i563, J537 [(.slice a562 i563 0)] H561 →
 ∃ J564 : List Value → Heap → Prop, (
 CA en F.crossbarlaw06_jump [(.int .i64 1)] H561 fun v565 H566 =>
 ∃ n567, ∃ n568, ∃ n569, ∃ n570, ∃ n571, v565 = (.agg #[(.int .i64 n567), (.int .i64 n568), (.int .i64 n569), (.int .i64 n570), (.int .i64 n571)]) ∧
 CA en F.crossbarlaw06_mov [] H566 fun v572 H573 =>
 ∃ n574, ∃ n575, ∃ n576, ∃ n577, ∃ n578, v572 = (.agg #[(.int .i64 n574), (.int .i64 n575), (.int .i64 n576), (.int .i64 n577), (.int .i64 n578)]) ∧
 CA en F.crossbarlaw06_exit [] H573 fun v579 H580 =>
 ∃ n581, ∃ n582, ∃ n583, ∃ n584, ∃ n585, v579 = (.agg #[(.int .i64 n581), (.int .i64 n582), (.int .i64 n583), (.int .i64 n584), (.int .i64 n585)]) ∧
 nwH H580 (.cells true 5 [(.int .i64 n567), (.int .i64 n568), (.int .i64 n569), (.int .i64 n570), (.int .i64 n571), (.int .i64 n574), (.int .i64 n575), (.int .i64 n576), (.int .i64 n577), (.int .i64 n578), (.int .i64 n581), (.int .i64 n582), (.int .i64 n583), (.int .i64 n584), (.int .i64 n585)]) fun i586 H587 =>
 nwH H587 (.cells true 1 [(.int .i64 2), (.int .i64 (-1)), (.int .i64 (-1))]) fun i588 H589 =>
 CA en F.flow_Next [(.slice (some ⟨i586, 0, none⟩) 3 0), (.slice (some ⟨i588, 0, none⟩) 3 0), (.int .i64 0)] H589 fun v590 H591 =>
 ∃ a592 i593, v590 = (.slice a592 i593 0) ∧
 J564 [(.slice a592 i593 0)] H591) ∧
 ∀ (ys594 : Fr) (H595 : Heap), ∀ a596 i597, J564 [(.slice a596 i597 0)] H595 →
 ∃ J598 : List Value → Heap → Prop, (
 nwH H595 (.cells true 0 [(.int .i64 0), (.int .i64 0), (.int .i64 0), (.int .i64 0), (.int .i64 0)]) fun i599 H600 =>
 stc H600 i599 0 [(.int .i64 133), (.int .i64 0), (.int .i64 0), (.int .i64 0), (.int .i64 1)] fun H601 =>
 J598 [(.pointer (some ⟨i599, 0, none⟩))] H601) ∧
 ∀ (ys602 : Fr) (H603 : Heap), ∀ v604, J598 [v604] H603 →
 LA en L_crossbarlaw06_FlowKnown_0 [(.bool false), (.bool false), (.bool b536), (.slice a562 i563 0), (.slice a596 i597 0), v604, (.slice none 0 0), (.int .i64 0), (.slice (some ⟨i1, 0, none⟩) 2 0), (.agg #[(.int .i64 n5), (.int .i64 n6), (.int .i64 n7), (.int .i64 n8), (.int .i64 n9)]), (.agg #[(.int .i64 n12), (.int .i64 n13), (.int .i64 n14), (.int .i64 n15), (.int .i64 n16)]), (.slice (some ⟨i17, 0, none⟩) 2 0), (.bool b21), (.bool true), (.slice (some ⟨i22, 0, none⟩) 3 0), (.agg #[(.int .i64 n26), (.int .i64 n27), (.int .i64 n28), (.int .i64 n29), (.int .i64 n30)]), (.agg #[(.int .i64 n33), (.int .i64 n34), (.int .i64 n35), (.int .i64 n36), (.int .i64 n37)]), (.agg #[(.int .i64 n40), (.int .i64 n41), (.int .i64 n42), (.int .i64 n43), (.int .i64 n44)]), (.slice (some ⟨i45, 0, none⟩) 3 0), (.bool b49), (.bool b49), (.bool true), (.slice (some ⟨i50, 0, none⟩) 2 0), (.agg #[(.int .i64 n54), (.int .i64 n55), (.int .i64 n56), (.int .i64 n57), (.int .i64 n58)]), (.agg #[(.int .i64 n61), (.int .i64 n62), (.int .i64 n63), (.int .i64 n64), (.int .i64 n65)]), (.slice (some ⟨i66, 0, none⟩) 2 0), (.bool b70), (.bool b70), (.bool true), (.agg #[(.int .i64 n73), (.int .i64 n74), (.int .i64 n75), (.int .i64 n76), (.int .i64 n77)]), (.agg #[(.int .i64 n80), (.int .i64 n81), (.int .i64 n82), (.int .i64 n83), (.int .i64 n84)]), (.slice (some ⟨i85, 0, none⟩) 2 0), (.bool b89), (.bool b89), (.bool true), (.bool b92), (.bool b92), (.bool true), (.slice (some ⟨i93, 0, none⟩) 1 0), (.agg #[(.int .i64 n97), (.int .i64 n98), (.int .i64 n99), (.int .i64 n100), (.int .i64 n101)]), (.slice (some ⟨i102, 0, none⟩) 1 0), (.bool b106), (.bool b106), (.bool false), undef, undef, undef, undef, undef, (.bool false), (ys534.getD 50 undef), (ys534.getD 51 undef), (ys534.getD 52 undef), (ys534.getD 53 undef), (ys534.getD 54 undef), (ys534.getD 55 undef), (ys534.getD 56 undef), (ys534.getD 57 undef), (ys534.getD 58 undef), (ys534.getD 59 undef), (ys534.getD 60 undef), (ys534.getD 61 undef), (ys534.getD 62 undef), (ys534.getD 63 undef), (ys534.getD 64 undef), (ys534.getD 65 undef), (ys534.getD 66 undef), (ys534.getD 67 undef), (ys534.getD 68 undef), (ys534.getD 69 undef), (ys534.getD 70 undef), (ys534.getD 71 undef), (ys534.getD 72 undef), (ys534.getD 73 undef), (ys534.getD 74 undef), (ys534.getD 75 undef), (ys534.getD 76 undef), (ys534.getD 77 undef), (ys534.getD 78 undef), (ys534.getD 79 undef), (ys534.getD 80 undef), (ys534.getD 81 undef), (ys534.getD 82 undef), (ys534.getD 83 undef), (ys534.getD 84 undef), (ys534.getD 85 undef), (ys534.getD 86 undef), (ys534.getD 87 undef), (ys534.getD 88 undef), (ys534.getD 89 undef), (ys534.getD 90 undef), (ys560.getD 91 undef), (ys560.getD 92 undef), (ys560.getD 93 undef), (ys560.getD 94 undef), (ys560.getD 95 undef), (ys594.getD 96 undef), (ys594.getD 97 undef), (ys594.getD 98 undef), (ys594.getD 99 undef), (ys594.getD 100 undef), (ys594.getD 101 undef), (ys602.getD 102 undef), undef, undef, undef, undef, undef, undef, undef, undef, undef, undef, undef, undef, undef, undef, undef, undef, undef, undef, undef, undef, undef, undef, undef, undef, undef, undef, undef, undef, undef, undef, undef, undef, undef, undef, undef, undef, undef, undef, undef, undef, undef, undef, undef, undef, undef, undef, undef, undef, undef, undef] H603 [(X.exit 0, fun (y605 : Fr) (H606 : Heap) =>
 asSl (y605.getD 6 undef) fun a607 i608 =>
 ∃ J609 : List Value → Heap → Prop, (
 J609 [(.bool false)] H606) ∧
 ∀ (ys610 : Fr) (H611 : Heap), ∀ b612, J609 [(.bool b612)] H611 →
 R (.bool b612) H611)]))
 else (
 ∃ J613 : List Value → Heap → Prop, (
 CA en F.crossbarlaw06_ja [(.int .i64 (-2))] H91 fun v614 H615 =>
 ∃ n616, ∃ n617, ∃ n618, ∃ n619, ∃ n620, v614 = (.agg #[(.int .i64 n616), (.int .i64 n617), (.int .i64 n618), (.int .i64 n619), (.int .i64 n620)]) ∧
 nwH H615 (.cells true 5 [(.int .i64 n616), (.int .i64 n617), (.int .i64 n618), (.int .i64 n619), (.int .i64 n620)]) fun i621 H622 =>
 CA en F.crossbarlaw06_is [(.slice none 0 0), (.int .i64 11), (.slice (some ⟨i621, 0, none⟩) 1 0)] H622 fun v623 H624 =>
 ∃ b625, v623 = (.bool b625) ∧
 bif b625 then (
 CA en F.crossbarlaw06_jump [(.int .i64 1)] H624 fun v626 H627 =>
 ∃ n628, ∃ n629, ∃ n630, ∃ n631, ∃ n632, v626 = (.agg #[(.int .i64 n628), (.int .i64 n629), (.int .i64 n630), (.int .i64 n631), (.int .i64 n632)]) ∧
 CA en F.crossbarlaw06_exit [] H627 fun v633 H634 =>
 ∃ n635, ∃ n636, ∃ n637, ∃ n638, ∃ n639, v633 = (.agg #[(.int .i64 n635), (.int .i64 n636), (.int .i64 n637), (.int .i64 n638), (.int .i64 n639)]) ∧
 nwH H634 (.cells true 5 [(.int .i64 n628), (.int .i64 n629), (.int .i64 n630), (.int .i64 n631), (.int .i64 n632), (.int .i64 n635), (.int .i64 n636), (.int .i64 n637), (.int .i64 n638), (.int .i64 n639)]) fun i640 H641 =>
 CA en F.crossbarlaw06_is [(.slice none 0 0), (.int .i64 11), (.slice (some ⟨i640, 0, none⟩) 2 0)] H641 fun v642 H643 =>
 ∃ b644, v642 = (.bool b644) ∧
 bif b644 then (
 CA en F.crossbarlaw06_jump [(.int .i64 (-1))] H643 fun v645 H646 =>
 ∃ n647, ∃ n648, ∃ n649, ∃ n650, ∃ n651, v645 = (.agg #[(.int .i64 n647), (.int .i64 n648), (.int .i64 n649), (.int .i64 n650), (.int .i64 n651)]) ∧
 nwH H646 (.cells true 5 [(.int .i64 n647), (.int .i64 n648), (.int .i64 n649), (.int .i64 n650), (.int .i64 n651)]) fun i652 H653 =>
 CA en F.crossbarlaw06_is [(.slice none 0 0), (.int .i64 12), (.slice (some ⟨i652, 0, none⟩) 1 0)] H653 fun v654 H655 =>
 ∃ b656, v654 = (.bool b656) ∧
 bif b656 then (
 CA en F.crossbarlaw06_exit [] H655 fun v657 H658 =>
 ∃ n659, ∃ n660, ∃ n661, ∃ n662, ∃ n663, v657 = (.agg #[(.int .i64 n659), (.int .i64 n660), (.int .i64 n661), (.int .i64 n662), (.int .i64 n663)]) ∧
 CA en F.crossbarlaw06_exit [] H658 fun v664 H665 =>
 ∃ n666, ∃ n667, ∃ n668, ∃ n669, ∃ n670, v664 = (.agg #[(.int .i64 n666), (.int .i64 n667), (.int .i64 n668), (.int .i64 n669), (.int .i64 n670)]) ∧
 nwH H665 (.cells true 5 [(.int .i64 n659), (.int .i64 n660), (.int .i64 n661), (.int .i64 n662), (.int .i64 n663), (.int .i64 n666), (.int .i64 n667), (.int .i64 n668), (.int .i64 n669), (.int .i64 n670)]) fun i671 H672 =>
 CA en F.crossbarlaw06_is [(.slice none 0 0), (.int .i64 13), (.slice (some ⟨i671, 0, none⟩) 2 0)] H672 fun v673 H674 =>
 ∃ b675, v673 = (.bool b675) ∧
 bif b675 then (
 CA en F.crossbarlaw06_wide [] H674 fun v676 H677 =>
 ∃ n678, ∃ n679, ∃ n680, ∃ n681, ∃ n682, v676 = (.agg #[(.int .i64 n678), (.int .i64 n679), (.int .i64 n680), (.int .i64 n681), (.int .i64 n682)]) ∧
 CA en F.crossbarlaw06_jump [(.int .i64 (-2))] H677 fun v683 H684 =>
 ∃ n685, ∃ n686, ∃ n687, ∃ n688, ∃ n689, v683 = (.agg #[(.int .i64 n685), (.int .i64 n686), (.int .i64 n687), (.int .i64 n688), (.int .i64 n689)]) ∧
 CA en F.crossbarlaw06_exit [] H684 fun v690 H691 =>
 ∃ n692, ∃ n693, ∃ n694, ∃ n695, ∃ n696, v690 = (.agg #[(.int .i64 n692), (.int .i64 n693), (.int .i64 n694), (.int .i64 n695), (.int .i64 n696)]) ∧
 nwH H691 (.cells true 5 [(.int .i64 n678), (.int .i64 n679), (.int .i64 n680), (.int .i64 n681), (.int .i64 n682), (.int .i64 n685), (.int .i64 n686), (.int .i64 n687), (.int .i64 n688), (.int .i64 n689), (.int .i64 n692), (.int .i64 n693), (.int .i64 n694), (.int .i64 n695), (.int .i64 n696)]) fun i697 H698 =>
 CA en F.crossbarlaw06_is [(.slice none 0 0), (.int .i64 11), (.slice (some ⟨i697, 0, none⟩) 3 0)] H698 fun v699 H700 =>
 ∃ b701, v699 = (.bool b701) ∧
 bif b701 then (
 nwH H700 (.cells true 1 [(.int .i64 (-1)), (.int .i64 0), (.int .i64 (-1))]) fun i702 H703 =>
 CA en F.crossbarlaw06_wide [] H703 fun v704 H705 =>
 ∃ n706, ∃ n707, ∃ n708, ∃ n709, ∃ n710, v704 = (.agg #[(.int .i64 n706), (.int .i64 n707), (.int .i64 n708), (.int .i64 n709), (.int .i64 n710)]) ∧
 CA en F.crossbarlaw06_jump [(.int .i64 (-3))] H705 fun v711 H712 =>
 ∃ n713, ∃ n714, ∃ n715, ∃ n716, ∃ n717, v711 = (.agg #[(.int .i64 n713), (.int .i64 n714), (.int .i64 n715), (.int .i64 n716), (.int .i64 n717)]) ∧
 CA en F.crossbarlaw06_exit [] H712 fun v718 H719 =>
 ∃ n720, ∃ n721, ∃ n722, ∃ n723, ∃ n724, v718 = (.agg #[(.int .i64 n720), (.int .i64 n721), (.int .i64 n722), (.int .i64 n723), (.int .i64 n724)]) ∧
 nwH H719 (.cells true 5 [(.int .i64 n706), (.int .i64 n707), (.int .i64 n708), (.int .i64 n709), (.int .i64 n710), (.int .i64 n713), (.int .i64 n714), (.int .i64 n715), (.int .i64 n716), (.int .i64 n717), (.int .i64 n720), (.int .i64 n721), (.int .i64 n722), (.int .i64 n723), (.int .i64 n724)]) fun i725 H726 =>
 CA en F.crossbarlaw06_is [(.slice (some ⟨i702, 0, none⟩) 3 0), (.int .i64 0), (.slice (some ⟨i725, 0, none⟩) 3 0)] H726 fun v727 H728 =>
 ∃ b729, v727 = (.bool b729) ∧
 bif b729 then (
 CA en F.crossbarlaw06_jump [(.int .i64 5)] H728 fun v730 H731 =>
 ∃ n732, ∃ n733, ∃ n734, ∃ n735, ∃ n736, v730 = (.agg #[(.int .i64 n732), (.int .i64 n733), (.int .i64 n734), (.int .i64 n735), (.int .i64 n736)]) ∧
 CA en F.crossbarlaw06_mov [] H731 fun v737 H738 =>
 ∃ n739, ∃ n740, ∃ n741, ∃ n742, ∃ n743, v737 = (.agg #[(.int .i64 n739), (.int .i64 n740), (.int .i64 n741), (.int .i64 n742), (.int .i64 n743)]) ∧
 nwH H738 (.cells true 5 [(.int .i64 n732), (.int .i64 n733), (.int .i64 n734), (.int .i64 n735), (.int .i64 n736), (.int .i64 n739), (.int .i64 n740), (.int .i64 n741), (.int .i64 n742), (.int .i64 n743)]) fun i744 H745 =>
 CA en F.crossbarlaw06_is [(.slice none 0 0), (.int .i64 11), (.slice (some ⟨i744, 0, none⟩) 2 0)] H745 fun v746 H747 =>
 ∃ b748, v746 = (.bool b748) ∧
 J613 [(.bool b748)] H747)
 else (
 J613 [(.bool false)] H728))
 else (
 J613 [(.bool false)] H700))
 else (
 J613 [(.bool false)] H674))
 else (
 J613 [(.bool false)] H655))
 else (
 J613 [(.bool false)] H643))
 else (
 J613 [(.bool false)] H624)) ∧
 ∀ (ys749 : Fr) (H750 : Heap), ∀ b751, J613 [(.bool b751)] H750 →
 ∃ J752 : List Value → Heap → Prop, (
 CA en F.crossbarlaw06_jump [(.int .i64 0)] H750 fun v753 H754 =>
 ∃ n755, ∃ n756, ∃ n757, ∃ n758, ∃ n759, v753 = (.agg #[(.int .i64 n755), (.int .i64 n756), (.int .i64 n757), (.int .i64 n758), (.int .i64 n759)]) ∧
 CA en F.crossbarlaw06_exit [] H754 fun v760 H761 =>
 ∃ n762, ∃ n763, ∃ n764, ∃ n765, ∃ n766, v760 = (.agg #[(.int .i64 n762), (.int .i64 n763), (.int .i64 n764), (.int .i64 n765), (.int .i64 n766)]) ∧
 nwH H761 (.cells true 5 [(.int .i64 n755), (.int .i64 n756), (.int .i64 n757), (.int .i64 n758), (.int .i64 n759), (.int .i64 n762), (.int .i64 n763), (.int .i64 n764), (.int .i64 n765), (.int .i64 n766)]) fun i767 H768 =>
 nwH H768 (.cells true 1 [(.int .i64 1), (.int .i64 (-1))]) fun i769 H770 =>
 CA en F.flow_Next [(.slice (some ⟨i767, 0, none⟩) 2 0), (.slice (some ⟨i769, 0, none⟩) 2 0), (.int .i64 0)] H770 fun v771 H772 =>
 ∃ a773 i774, v771 = (.slice a773 i774 0) ∧
 J752 [(.slice a773 i774 0)] H772) ∧
 ∀ (ys775 : Fr) (H776 : Heap), ∀ a777 i778, J752 [(.slice a777 i778 0)] H776 →
 ∃ J779 : List Value → Heap → Prop, (
 CA en F.crossbarlaw06_jump [(.int .i64 1)] H776 fun v780 H781 =>
 ∃ n782, ∃ n783, ∃ n784, ∃ n785, ∃ n786, v780 = (.agg #[(.int .i64 n782), (.int .i64 n783), (.int .i64 n784), (.int .i64 n785), (.int .i64 n786)]) ∧
 CA en F.crossbarlaw06_mov [] H781 fun v787 H788 =>
 ∃ n789, ∃ n790, ∃ n791, ∃ n792, ∃ n793, v787 = (.agg #[(.int .i64 n789), (.int .i64 n790), (.int .i64 n791), (.int .i64 n792), (.int .i64 n793)]) ∧
 CA en F.crossbarlaw06_exit [] H788 fun v794 H795 =>
 ∃ n796, ∃ n797, ∃ n798, ∃ n799, ∃ n800, v794 = (.agg #[(.int .i64 n796), (.int .i64 n797), (.int .i64 n798), (.int .i64 n799), (.int .i64 n800)]) ∧
 nwH H795 (.cells true 5 [(.int .i64 n782), (.int .i64 n783), (.int .i64 n784), (.int .i64 n785), (.int .i64 n786), (.int .i64 n789), (.int .i64 n790), (.int .i64 n791), (.int .i64 n792), (.int .i64 n793), (.int .i64 n796), (.int .i64 n797), (.int .i64 n798), (.int .i64 n799), (.int .i64 n800)]) fun i801 H802 =>
 nwH H802 (.cells true 1 [(.int .i64 2), (.int .i64 (-1)), (.int .i64 (-1))]) fun i803 H804 =>
 CA en F.flow_Next [(.slice (some ⟨i801, 0, none⟩) 3 0), (.slice (some ⟨i803, 0, none⟩) 3 0), (.int .i64 0)] H804 fun v805 H806 =>
 ∃ a807 i808, v805 = (.slice a807 i808 0) ∧
 J779 [(.slice a807 i808 0)] H806) ∧
 ∀ (ys809 : Fr) (H810 : Heap), ∀ a811 i812, J779 [(.slice a811 i812 0)] H810 →
 ∃ J813 : List Value → Heap → Prop, (
 nwH H810 (.cells true 0 [(.int .i64 0), (.int .i64 0), (.int .i64 0), (.int .i64 0), (.int .i64 0)]) fun i814 H815 =>
 stc H815 i814 0 [(.int .i64 133), (.int .i64 0), (.int .i64 0), (.int .i64 0), (.int .i64 1)] fun H816 =>
 J813 [(.pointer (some ⟨i814, 0, none⟩))] H816) ∧
 ∀ (ys817 : Fr) (H818 : Heap), ∀ v819, J813 [v819] H818 →
 LA en L_crossbarlaw06_FlowKnown_0 [(.bool false), (.bool false), (.bool b751), (.slice a777 i778 0), (.slice a811 i812 0), v819, (.slice none 0 0), (.int .i64 0), (.slice (some ⟨i1, 0, none⟩) 2 0), (.agg #[(.int .i64 n5), (.int .i64 n6), (.int .i64 n7), (.int .i64 n8), (.int .i64 n9)]), (.agg #[(.int .i64 n12), (.int .i64 n13), (.int .i64 n14), (.int .i64 n15), (.int .i64 n16)]), (.slice (some ⟨i17, 0, none⟩) 2 0), (.bool b21), (.bool true), (.slice (some ⟨i22, 0, none⟩) 3 0), (.agg #[(.int .i64 n26), (.int .i64 n27), (.int .i64 n28), (.int .i64 n29), (.int .i64 n30)]), (.agg #[(.int .i64 n33), (.int .i64 n34), (.int .i64 n35), (.int .i64 n36), (.int .i64 n37)]), (.agg #[(.int .i64 n40), (.int .i64 n41), (.int .i64 n42), (.int .i64 n43), (.int .i64 n44)]), (.slice (some ⟨i45, 0, none⟩) 3 0), (.bool b49), (.bool b49), (.bool true), (.slice (some ⟨i50, 0, none⟩) 2 0), (.agg #[(.int .i64 n54), (.int .i64 n55), (.int .i64 n56), (.int .i64 n57), (.int .i64 n58)]), (.agg #[(.int .i64 n61), (.int .i64 n62), (.int .i64 n63), (.int .i64 n64), (.int .i64 n65)]), (.slice (some ⟨i66, 0, none⟩) 2 0), (.bool b70), (.bool b70), (.bool true), (.agg #[(.int .i64 n73), (.int .i64 n74), (.int .i64 n75), (.int .i64 n76), (.int .i64 n77)]), (.agg #[(.int .i64 n80), (.int .i64 n81), (.int .i64 n82), (.int .i64 n83), (.int .i64 n84)]), (.slice (some ⟨i85, 0, none⟩) 2 0), (.bool b89), (.bool b89), (.bool true), (.bool b92), (.bool b92), (.bool false), undef, undef, undef, undef, (.bool false), (.bool false), undef, undef, undef, undef, undef, (.bool false), (ys749.getD 50 undef), (ys749.getD 51 undef), (ys749.getD 52 undef), (ys749.getD 53 undef), (ys749.getD 54 undef), (ys749.getD 55 undef), (ys749.getD 56 undef), (ys749.getD 57 undef), (ys749.getD 58 undef), (ys749.getD 59 undef), (ys749.getD 60 undef), (ys749.getD 61 undef), (ys749.getD 62 undef), (ys749.getD 63 undef), (ys749.getD 64 undef), (ys749.getD 65 undef), (ys749.getD 66 undef), (ys749.getD 67 undef), (ys749.getD 68 undef), (ys749.getD 69 undef), (ys749.getD 70 undef), (ys749.getD 71 undef), (ys749.getD 72 undef), (ys749.getD 73 undef), (ys749.getD 74 undef), (ys749.getD 75 undef), (ys749.getD 76 undef), (ys749.getD 77 undef), (ys749.getD 78 undef), (ys749.getD 79 undef), (ys749.getD 80 undef), (ys749.getD 81 undef), (ys749.getD 82 undef), (ys749.getD 83 undef), (ys749.getD 84 undef), (ys749.getD 85 undef), (ys749.getD 86 undef), (ys749.getD 87 undef), (ys749.getD 88 undef), (ys749.getD 89 undef), (ys749.getD 90 undef), (ys775.getD 91 undef), (ys775.getD 92 undef), (ys775.getD 93 undef), (ys775.getD 94 undef), (ys775.getD 95 undef), (ys809.getD 96 undef), (ys809.getD 97 undef), (ys809.getD 98 undef), (ys809.getD 99 undef), (ys809.getD 100 undef), (ys809.getD 101 undef), (ys817.getD 102 undef), undef, undef, undef, undef, undef, undef, undef, undef, undef, undef, undef, undef, undef, undef, undef, undef, undef, undef, undef, undef, undef, undef, undef, undef, undef, undef, undef, undef, undef, undef, undef, undef, undef, undef, undef, undef, undef, undef, undef, undef, undef, undef, undef, undef, undef, undef, undef, undef, undef, undef] H818 [(X.exit 0, fun (y820 : Fr) (H821 : Heap) =>
 asSl (y820.getD 6 undef) fun a822 i823 =>
 ∃ J824 : List Value → Heap → Prop, (
 J824 [(.bool false)] H821) ∧
 ∀ (ys825 : Fr) (H826 : Heap), ∀ b827, J824 [(.bool b827)] H826 →
 R (.bool b827) H826)]))
 else (
 ∃ J828 : List Value → Heap → Prop, (
 CA en F.crossbarlaw06_ja [(.int .i64 (-2))] H88 fun v829 H830 =>
 ∃ n831, ∃ n832, ∃ n833, ∃ n834, ∃ n835, v829 = (.agg #[(.int .i64 n831), (.int .i64 n832), (.int .i64 n833), (.int .i64 n834), (.int .i64 n835)]) ∧
 nwH H830 (.cells true 5 [(.int .i64 n831), (.int .i64 n832), (.int .i64 n833), (.int .i64 n834), (.int .i64 n835)]) fun i836 H837 =>
 CA en F.crossbarlaw06_is [(.slice none 0 0), (.int .i64 11), (.slice (some ⟨i836, 0, none⟩) 1 0)] H837 fun v838 H839 =>
 ∃ b840, v838 = (.bool b840) ∧
 bif b840 then (
 CA en F.crossbarlaw06_jump [(.int .i64 1)] H839 fun v841 H842 =>
 ∃ n843, ∃ n844, ∃ n845, ∃ n846, ∃ n847, v841 = (.agg #[(.int .i64 n843), (.int .i64 n844), (.int .i64 n845), (.int .i64 n846), (.int .i64 n847)]) ∧
 CA en F.crossbarlaw06_exit [] H842 fun v848 H849 =>
 ∃ n850, ∃ n851, ∃ n852, ∃ n853, ∃ n854, v848 = (.agg #[(.int .i64 n850), (.int .i64 n851), (.int .i64 n852), (.int .i64 n853), (.int .i64 n854)]) ∧
 nwH H849 (.cells true 5 [(.int .i64 n843), (.int .i64 n844), (.int .i64 n845), (.int .i64 n846), (.int .i64 n847), (.int .i64 n850), (.int .i64 n851), (.int .i64 n852), (.int .i64 n853), (.int .i64 n854)]) fun i855 H856 =>
 CA en F.crossbarlaw06_is [(.slice none 0 0), (.int .i64 11), (.slice (some ⟨i855, 0, none⟩) 2 0)] H856 fun v857 H858 =>
 ∃ b859, v857 = (.bool b859) ∧
 bif b859 then (
 CA en F.crossbarlaw06_jump [(.int .i64 (-1))] H858 fun v860 H861 =>
 ∃ n862, ∃ n863, ∃ n864, ∃ n865, ∃ n866, v860 = (.agg #[(.int .i64 n862), (.int .i64 n863), (.int .i64 n864), (.int .i64 n865), (.int .i64 n866)]) ∧
 nwH H861 (.cells true 5 [(.int .i64 n862), (.int .i64 n863), (.int .i64 n864), (.int .i64 n865), (.int .i64 n866)]) fun i867 H868 =>
 CA en F.crossbarlaw06_is [(.slice none 0 0), (.int .i64 12), (.slice (some ⟨i867, 0, none⟩) 1 0)] H868 fun v869 H870 =>
 ∃ b871, v869 = (.bool b871) ∧
 bif b871 then (
 CA en F.crossbarlaw06_exit [] H870 fun v872 H873 =>
 ∃ n874, ∃ n875, ∃ n876, ∃ n877, ∃ n878, v872 = (.agg #[(.int .i64 n874), (.int .i64 n875), (.int .i64 n876), (.int .i64 n877), (.int .i64 n878)]) ∧
 CA en F.crossbarlaw06_exit [] H873 fun v879 H880 =>
 ∃ n881, ∃ n882, ∃ n883, ∃ n884, ∃ n885, v879 = (.agg #[(.int .i64 n881), (.int .i64 n882), (.int .i64 n883), (.int .i64 n884), (.int .i64 n885)]) ∧
 nwH H880 (.cells true 5 [(.int .i64 n874), (.int .i64 n875), (.int .i64 n876), (.int .i64 n877), (.int .i64 n878), (.int .i64 n881), (.int .i64 n882), (.int .i64 n883), (.int .i64 n884), (.int .i64 n885)]) fun i886 H887 =>
 CA en F.crossbarlaw06_is [(.slice none 0 0), (.int .i64 13), (.slice (some ⟨i886, 0, none⟩) 2 0)] H887 fun v888 H889 =>
 ∃ b890, v888 = (.bool b890) ∧
 bif b890 then (
 CA en F.crossbarlaw06_wide [] H889 fun v891 H892 =>
 ∃ n893, ∃ n894, ∃ n895, ∃ n896, ∃ n897, v891 = (.agg #[(.int .i64 n893), (.int .i64 n894), (.int .i64 n895), (.int .i64 n896), (.int .i64 n897)]) ∧
 CA en F.crossbarlaw06_jump [(.int .i64 (-2))] H892 fun v898 H899 =>
 ∃ n900, ∃ n901, ∃ n902, ∃ n903, ∃ n904, v898 = (.agg #[(.int .i64 n900), (.int .i64 n901), (.int .i64 n902), (.int .i64 n903), (.int .i64 n904)]) ∧
 CA en F.crossbarlaw06_exit [] H899 fun v905 H906 =>
 ∃ n907, ∃ n908, ∃ n909, ∃ n910, ∃ n911, v905 = (.agg #[(.int .i64 n907), (.int .i64 n908), (.int .i64 n909), (.int .i64 n910), (.int .i64 n911)]) ∧
 nwH H906 (.cells true 5 [(.int .i64 n893), (.int .i64 n894), (.int .i64 n895), (.int .i64 n896), (.int .i64 n897), (.int .i64 n900), (.int .i64 n901), (.int .i64 n902), (.int .i64 n903), (.int .i64 n904), (.int .i64 n907), (.int .i64 n908), (.int .i64 n909), (.int .i64 n910), (.int .i64 n911)]) fun i912 H913 =>
 CA en F.crossbarlaw06_is [(.slice none 0 0), (.int .i64 11), (.slice (some ⟨i912, 0, none⟩) 3 0)] H913 fun v914 H915 =>
 ∃ b916, v914 = (.bool b916) ∧
 bif b916 then (
 nwH H915 (.cells true 1 [(.int .i64 (-1)), (.int .i64 0), (.int .i64 (-1))]) fun i917 H918 =>
 CA en F.crossbarlaw06_wide [] H918 fun v919 H920 =>
 ∃ n921, ∃ n922, ∃ n923, ∃ n924, ∃ n925, v919 = (.agg #[(.int .i64 n921), (.int .i64 n922), (.int .i64 n923), (.int .i64 n924), (.int .i64 n925)]) ∧
 CA en F.crossbarlaw06_jump [(.int .i64 (-3))] H920 fun v926 H927 =>
 ∃ n928, ∃ n929, ∃ n930, ∃ n931, ∃ n932, v926 = (.agg #[(.int .i64 n928), (.int .i64 n929), (.int .i64 n930), (.int .i64 n931), (.int .i64 n932)]) ∧
 CA en F.crossbarlaw06_exit [] H927 fun v933 H934 =>
 ∃ n935, ∃ n936, ∃ n937, ∃ n938, ∃ n939, v933 = (.agg #[(.int .i64 n935), (.int .i64 n936), (.int .i64 n937), (.int .i64 n938), (.int .i64 n939)]) ∧
 nwH H934 (.cells true 5 [(.int .i64 n921), (.int .i64 n922), (.int .i64 n923), (.int .i64 n924), (.int .i64 n925), (.int .i64 n928), (.int .i64 n929), (.int .i64 n930), (.int .i64 n931), (.int .i64 n932), (.int .i64 n935), (.int .i64 n936), (.int .i64 n937), (.int .i64 n938), (.int .i64 n939)]) fun i940 H941 =>
 CA en F.crossbarlaw06_is [(.slice (some ⟨i917, 0, none⟩) 3 0), (.int .i64 0), (.slice (some ⟨i940, 0, none⟩) 3 0)] H941 fun v942 H943 =>
 ∃ b944, v942 = (.bool b944) ∧
 bif b944 then (
 CA en F.crossbarlaw06_jump [(.int .i64 5)] H943 fun v945 H946 =>
 ∃ n947, ∃ n948, ∃ n949, ∃ n950, ∃ n951, v945 = (.agg #[(.int .i64 n947), (.int .i64 n948), (.int .i64 n949), (.int .i64 n950), (.int .i64 n951)]) ∧
 CA en F.crossbarlaw06_mov [] H946 fun v952 H953 =>
 ∃ n954, ∃ n955, ∃ n956, ∃ n957, ∃ n958, v952 = (.agg #[(.int .i64 n954), (.int .i64 n955), (.int .i64 n956), (.int .i64 n957), (.int .i64 n958)]) ∧
 nwH H953 (.cells true 5 [(.int .i64 n947), (.int .i64 n948), (.int .i64 n949), (.int .i64 n950), (.int .i64 n951), (.int .i64 n954), (.int .i64 n955), (.int .i64 n956), (.int .i64 n957), (.int .i64 n958)]) fun i959 H960 =>
 CA en F.crossbarlaw06_is [(.slice none 0 0), (.int .i64 11), (.slice (some ⟨i959, 0, none⟩) 2 0)] H960 fun v961 H962 =>
 ∃ b963, v961 = (.bool b963) ∧
 J828 [(.bool b963)] H962)
 else (
 J828 [(.bool false)] H943))
 else (
 J828 [(.bool false)] H915))
 else (
 J828 [(.bool false)] H889))
 else (
 J828 [(.bool false)] H870))
 else (
 J828 [(.bool false)] H858))
 else (
 J828 [(.bool false)] H839)) ∧
 ∀ (ys964 : Fr) (H965 : Heap), ∀ b966, J828 [(.bool b966)] H965 →
 ∃ J967 : List Value → Heap → Prop, (
 CA en F.crossbarlaw06_jump [(.int .i64 0)] H965 fun v968 H969 =>
 ∃ n970, ∃ n971, ∃ n972, ∃ n973, ∃ n974, v968 = (.agg #[(.int .i64 n970), (.int .i64 n971), (.int .i64 n972), (.int .i64 n973), (.int .i64 n974)]) ∧
 CA en F.crossbarlaw06_exit [] H969 fun v975 H976 =>
 ∃ n977, ∃ n978, ∃ n979, ∃ n980, ∃ n981, v975 = (.agg #[(.int .i64 n977), (.int .i64 n978), (.int .i64 n979), (.int .i64 n980), (.int .i64 n981)]) ∧
 nwH H976 (.cells true 5 [(.int .i64 n970), (.int .i64 n971), (.int .i64 n972), (.int .i64 n973), (.int .i64 n974), (.int .i64 n977), (.int .i64 n978), (.int .i64 n979), (.int .i64 n980), (.int .i64 n981)]) fun i982 H983 =>
 nwH H983 (.cells true 1 [(.int .i64 1), (.int .i64 (-1))]) fun i984 H985 =>
 CA en F.flow_Next [(.slice (some ⟨i982, 0, none⟩) 2 0), (.slice (some ⟨i984, 0, none⟩) 2 0), (.int .i64 0)] H985 fun v986 H987 =>
 ∃ a988 i989, v986 = (.slice a988 i989 0) ∧
 J967 [(.slice a988 i989 0)] H987) ∧
 ∀ (ys990 : Fr) (H991 : Heap), ∀ a992 i993, J967 [(.slice a992 i993 0)] H991 →
 ∃ J994 : List Value → Heap → Prop, (
 CA en F.crossbarlaw06_jump [(.int .i64 1)] H991 fun v995 H996 =>
 ∃ n997, ∃ n998, ∃ n999, ∃ n1000, ∃ n1001, v995 = (.agg #[(.int .i64 n997), (.int .i64 n998), (.int .i64 n999), (.int .i64 n1000), (.int .i64 n1001)]) ∧
 CA en F.crossbarlaw06_mov [] H996 fun v1002 H1003 =>
 ∃ n1004, ∃ n1005, ∃ n1006, ∃ n1007, ∃ n1008, v1002 = (.agg #[(.int .i64 n1004), (.int .i64 n1005), (.int .i64 n1006), (.int .i64 n1007), (.int .i64 n1008)]) ∧
 CA en F.crossbarlaw06_exit [] H1003 fun v1009 H1010 =>
 ∃ n1011, ∃ n1012, ∃ n1013, ∃ n1014, ∃ n1015, v1009 = (.agg #[(.int .i64 n1011), (.int .i64 n1012), (.int .i64 n1013), (.int .i64 n1014), (.int .i64 n1015)]) ∧
 nwH H1010 (.cells true 5 [(.int .i64 n997), (.int .i64 n998), (.int .i64 n999), (.int .i64 n1000), (.int .i64 n1001), (.int .i64 n1004), (.int .i64 n1005), (.int .i64 n1006), (.int .i64 n1007), (.int .i64 n1008), (.int .i64 n1011), (.int .i64 n1012), (.int .i64 n1013), (.int .i64 n1014), (.int .i64 n1015)]) fun i1016 H1017 =>
 nwH H1017 (.cells true 1 [(.int .i64 2), (.int .i64 (-1)), (.int .i64 (-1))]) fun i1018 H1019 =>
 CA en F.flow_Next [(.slice (some ⟨i1016, 0, none⟩) 3 0), (.slice (some ⟨i1018, 0, none⟩) 3 0), (.int .i64 0)] H1019 fun v1020 H1021 =>
 ∃ a1022 i1023, v1020 = (.slice a1022 i1023 0) ∧
 J994 [(.slice a1022 i1023 0)] H1021) ∧
 ∀ (ys1024 : Fr) (H1025 : Heap), ∀ a1026 i1027, J994 [(.slice a1026 i1027 0)] H1025 →
 ∃ J1028 : List Value → Heap → Prop, (
 nwH H1025 (.cells true 0 [(.int .i64 0), (.int .i64 0), (.int .i64 0), (.int .i64 0), (.int .i64 0)]) fun i1029 H1030 =>
 stc H1030 i1029 0 [(.int .i64 133), (.int .i64 0), (.int .i64 0), (.int .i64 0), (.int .i64 1)] fun H1031 =>
 J1028 [(.pointer (some ⟨i1029, 0, none⟩))] H1031) ∧
 ∀ (ys1032 : Fr) (H1033 : Heap), ∀ v1034, J1028 [v1034] H1033 →
 LA en L_crossbarlaw06_FlowKnown_0 [(.bool false), (.bool false), (.bool b966), (.slice a992 i993 0), (.slice a1026 i1027 0), v1034, (.slice none 0 0), (.int .i64 0), (.slice (some ⟨i1, 0, none⟩) 2 0), (.agg #[(.int .i64 n5), (.int .i64 n6), (.int .i64 n7), (.int .i64 n8), (.int .i64 n9)]), (.agg #[(.int .i64 n12), (.int .i64 n13), (.int .i64 n14), (.int .i64 n15), (.int .i64 n16)]), (.slice (some ⟨i17, 0, none⟩) 2 0), (.bool b21), (.bool true), (.slice (some ⟨i22, 0, none⟩) 3 0), (.agg #[(.int .i64 n26), (.int .i64 n27), (.int .i64 n28), (.int .i64 n29), (.int .i64 n30)]), (.agg #[(.int .i64 n33), (.int .i64 n34), (.int .i64 n35), (.int .i64 n36), (.int .i64 n37)]), (.agg #[(.int .i64 n40), (.int .i64 n41), (.int .i64 n42), (.int .i64 n43), (.int .i64 n44)]), (.slice (some ⟨i45, 0, none⟩) 3 0), (.bool b49), (.bool b49), (.bool true), (.slice (some ⟨i50, 0, none⟩) 2 0), (.agg #[(.int .i64 n54), (.int .i64 n55), (.int .i64 n56), (.int .i64 n57), (.int .i64 n58)]), (.agg #[(.int .i64 n61), (.int .i64 n62), (.int .i64 n63), (.int .i64 n64), (.int .i64 n65)]), (.slice (some ⟨i66, 0, none⟩) 2 0), (.bool b70), (.bool b70), (.bool true), (.agg #[(.int .i64 n73), (.int .i64 n74), (.int .i64 n75), (.int .i64 n76), (.int .i64 n77)]), (.agg #[(.int .i64 n80), (.int .i64 n81), (.int .i64 n82), (.int .i64 n83), (.int .i64 n84)]), (.slice (some ⟨i85, 0, none⟩) 2 0), (.bool b89), (.bool b89), (.bool false), undef, (.bool false), (.bool false), undef, undef, undef, undef, (.bool false), (.bool false), undef, undef, undef, undef, undef, (.bool false), (ys964.getD 50 undef), (ys964.getD 51 undef), (ys964.getD 52 undef), (ys964.getD 53 undef), (ys964.getD 54 undef), (ys964.getD 55 undef), (ys964.getD 56 undef), (ys964.getD 57 undef), (ys964.getD 58 undef), (ys964.getD 59 undef), (ys964.getD 60 undef), (ys964.getD 61 undef), (ys964.getD 62 undef), (ys964.getD 63 undef), (ys964.getD 64 undef), (ys964.getD 65 undef), (ys964.getD 66 undef), (ys964.getD 67 undef), (ys964.getD 68 undef), (ys964.getD 69 undef), (ys964.getD 70 undef), (ys964.getD 71 undef), (ys964.getD 72 undef), (ys964.getD 73 undef), (ys964.getD 74 undef), (ys964.getD 75 undef), (ys964.getD 76 undef), (ys964.getD 77 undef), (ys964.getD 78 undef), (ys964.getD 79 undef), (ys964.getD 80 undef), (ys964.getD 81 undef), (ys964.getD 82 undef), (ys964.getD 83 undef), (ys964.getD 84 undef), (ys964.getD 85 undef), (ys964.getD 86 undef), (ys964.getD 87 undef), (ys964.getD 88 undef), (ys964.getD 89 undef), (ys964.getD 90 undef), (ys990.getD 91 undef), (ys990.getD 92 undef), (ys990.getD 93 undef), (ys990.getD 94 undef), (ys990.getD 95 undef), (ys1024.getD 96 undef), (ys1024.getD 97 undef), (ys1024.getD 98 undef), (ys1024.getD 99 undef), (ys1024.getD 100 undef), (ys1024.getD 101 undef), (ys1032.getD 102 undef), undef, undef, undef, undef, undef, undef, undef, undef, undef, undef, undef, undef, undef, undef, undef, undef, undef, undef, undef, undef, undef, undef, undef, undef, undef, undef, undef, undef, undef, undef, undef, undef, undef, undef, undef, undef, undef, undef, undef, undef, undef, undef, undef, undef, undef, undef, undef, undef, undef, undef] H1033 [(X.exit 0, fun (y1035 : Fr) (H1036 : Heap) =>
 asSl (y1035.getD 6 undef) fun a1037 i1038 =>
 ∃ J1039 : List Value → Heap → Prop, (
 J1039 [(.bool false)] H1036) ∧
 ∀ (ys1040 : Fr) (H1041 : Heap), ∀ b1042, J1039 [(.bool b1042)] H1041 →
 R (.bool b1042) H1041)]))
 else (
 ∃ J1043 : List Value → Heap → Prop, (
 CA en F.crossbarlaw06_ja [(.int .i64 (-2))] H69 fun v1044 H1045 =>
 ∃ n1046, ∃ n1047, ∃ n1048, ∃ n1049, ∃ n1050, v1044 = (.agg #[(.int .i64 n1046), (.int .i64 n1047), (.int .i64 n1048), (.int .i64 n1049), (.int .i64 n1050)]) ∧
 nwH H1045 (.cells true 5 [(.int .i64 n1046), (.int .i64 n1047), (.int .i64 n1048), (.int .i64 n1049), (.int .i64 n1050)]) fun i1051 H1052 =>
 CA en F.crossbarlaw06_is [(.slice none 0 0), (.int .i64 11), (.slice (some ⟨i1051, 0, none⟩) 1 0)] H1052 fun v1053 H1054 =>
 ∃ b1055, v1053 = (.bool b1055) ∧
 bif b1055 then (
 CA en F.crossbarlaw06_jump [(.int .i64 1)] H1054 fun v1056 H1057 =>
 ∃ n1058, ∃ n1059, ∃ n1060, ∃ n1061, ∃ n1062, v1056 = (.agg #[(.int .i64 n1058), (.int .i64 n1059), (.int .i64 n1060), (.int .i64 n1061), (.int .i64 n1062)]) ∧
 CA en F.crossbarlaw06_exit [] H1057 fun v1063 H1064 =>
 ∃ n1065, ∃ n1066, ∃ n1067, ∃ n1068, ∃ n1069, v1063 = (.agg #[(.int .i64 n1065), (.int .i64 n1066), (.int .i64 n1067), (.int .i64 n1068), (.int .i64 n1069)]) ∧
 nwH H1064 (.cells true 5 [(.int .i64 n1058), (.int .i64 n1059), (.int .i64 n1060), (.int .i64 n1061), (.int .i64 n1062), (.int .i64 n1065), (.int .i64 n1066), (.int .i64 n1067), (.int .i64 n1068), (.int .i64 n1069)]) fun i1070 H1071 =>
 CA en F.crossbarlaw06_is [(.slice none 0 0), (.int .i64 11), (.slice (some ⟨i1070, 0, none⟩) 2 0)] H1071 fun v1072 H1073 =>
 ∃ b1074, v1072 = (.bool b1074) ∧
 bif b1074 then (
 CA en F.crossbarlaw06_jump [(.int .i64 (-1))] H1073 fun v1075 H1076 =>
 ∃ n1077, ∃ n1078, ∃ n1079, ∃ n1080, ∃ n1081, v1075 = (.agg #[(.int .i64 n1077), (.int .i64 n1078), (.int .i64 n1079), (.int .i64 n1080), (.int .i64 n1081)]) ∧
 nwH H1076 (.cells true 5 [(.int .i64 n1077), (.int .i64 n1078), (.int .i64 n1079), (.int .i64 n1080), (.int .i64 n1081)]) fun i1082 H1083 =>
 CA en F.crossbarlaw06_is [(.slice none 0 0), (.int .i64 12), (.slice (some ⟨i1082, 0, none⟩) 1 0)] H1083 fun v1084 H1085 =>
 ∃ b1086, v1084 = (.bool b1086) ∧
 bif b1086 then (
 CA en F.crossbarlaw06_exit [] H1085 fun v1087 H1088 =>
 ∃ n1089, ∃ n1090, ∃ n1091, ∃ n1092, ∃ n1093, v1087 = (.agg #[(.int .i64 n1089), (.int .i64 n1090), (.int .i64 n1091), (.int .i64 n1092), (.int .i64 n1093)]) ∧
 CA en F.crossbarlaw06_exit [] H1088 fun v1094 H1095 =>
 ∃ n1096, ∃ n1097, ∃ n1098, ∃ n1099, ∃ n1100, v1094 = (.agg #[(.int .i64 n1096), (.int .i64 n1097), (.int .i64 n1098), (.int .i64 n1099), (.int .i64 n1100)]) ∧
 nwH H1095 (.cells true 5 [(.int .i64 n1089), (.int .i64 n1090), (.int .i64 n1091), (.int .i64 n1092), (.int .i64 n1093), (.int .i64 n1096), (.int .i64 n1097), (.int .i64 n1098), (.int .i64 n1099), (.int .i64 n1100)]) fun i1101 H1102 =>
 CA en F.crossbarlaw06_is [(.slice none 0 0), (.int .i64 13), (.slice (some ⟨i1101, 0, none⟩) 2 0)] H1102 fun v1103 H1104 =>
 ∃ b1105, v1103 = (.bool b1105) ∧
 bif b1105 then (
 CA en F.crossbarlaw06_wide [] H1104 fun v1106 H1107 =>
 ∃ n1108, ∃ n1109, ∃ n1110, ∃ n1111, ∃ n1112, v1106 = (.agg #[(.int .i64 n1108), (.int .i64 n1109), (.int .i64 n1110), (.int .i64 n1111), (.int .i64 n1112)]) ∧
 CA en F.crossbarlaw06_jump [(.int .i64 (-2))] H1107 fun v1113 H1114 =>
 ∃ n1115, ∃ n1116, ∃ n1117, ∃ n1118, ∃ n1119, v1113 = (.agg #[(.int .i64 n1115), (.int .i64 n1116), (.int .i64 n1117), (.int .i64 n1118), (.int .i64 n1119)]) ∧
 CA en F.crossbarlaw06_exit [] H1114 fun v1120 H1121 =>
 ∃ n1122, ∃ n1123, ∃ n1124, ∃ n1125, ∃ n1126, v1120 = (.agg #[(.int .i64 n1122), (.int .i64 n1123), (.int .i64 n1124), (.int .i64 n1125), (.int .i64 n1126)]) ∧
 nwH H1121 (.cells true 5 [(.int .i64 n1108), (.int .i64 n1109), (.int .i64 n1110), (.int .i64 n1111), (.int .i64 n1112), (.int .i64 n1115), (.int .i64 n1116), (.int .i64 n1117), (.int .i64 n1118), (.int .i64 n1119), (.int .i64 n1122), (.int .i64 n1123), (.int .i64 n1124), (.int .i64 n1125), (.int .i64 n1126)]) fun i1127 H1128 =>
 CA en F.crossbarlaw06_is [(.slice none 0 0), (.int .i64 11), (.slice (some ⟨i1127, 0, none⟩) 3 0)] H1128 fun v1129 H1130 =>
 ∃ b1131, v1129 = (.bool b1131) ∧
 bif b1131 then (
 nwH H1130 (.cells true 1 [(.int .i64 (-1)), (.int .i64 0), (.int .i64 (-1))]) fun i1132 H1133 =>
 CA en F.crossbarlaw06_wide [] H1133 fun v1134 H1135 =>
 ∃ n1136, ∃ n1137, ∃ n1138, ∃ n1139, ∃ n1140, v1134 = (.agg #[(.int .i64 n1136), (.int .i64 n1137), (.int .i64 n1138), (.int .i64 n1139), (.int .i64 n1140)]) ∧
 CA en F.crossbarlaw06_jump [(.int .i64 (-3))] H1135 fun v1141 H1142 =>
 ∃ n1143, ∃ n1144, ∃ n1145, ∃ n1146, ∃ n1147, v1141 = (.agg #[(.int .i64 n1143), (.int .i64 n1144), (.int .i64 n1145), (.int .i64 n1146), (.int .i64 n1147)]) ∧
 CA en F.crossbarlaw06_exit [] H1142 fun v1148 H1149 =>
 ∃ n1150, ∃ n1151, ∃ n1152, ∃ n1153, ∃ n1154, v1148 = (.agg #[(.int .i64 n1150), (.int .i64 n1151), (.int .i64 n1152), (.int .i64 n1153), (.int .i64 n1154)]) ∧
 nwH H1149 (.cells true 5 [(.int .i64 n1136), (.int .i64 n1137), (.int .i64 n1138), (.int .i64 n1139), (.int .i64 n1140), (.int .i64 n1143), (.int .i64 n1144), (.int .i64 n1145), (.int .i64 n1146), (.int .i64 n1147), (.int .i64 n1150), (.int .i64 n1151), (.int .i64 n1152), (.int .i64 n1153), (.int .i64 n1154)]) fun i1155 H1156 =>
 CA en F.crossbarlaw06_is [(.slice (some ⟨i1132, 0, none⟩) 3 0), (.int .i64 0), (.slice (some ⟨i1155, 0, none⟩) 3 0)] H1156 fun v1157 H1158 =>
 ∃ b1159, v1157 = (.bool b1159) ∧
 bif b1159 then (
 CA en F.crossbarlaw06_jump [(.int .i64 5)] H1158 fun v1160 H1161 =>
 ∃ n1162, ∃ n1163, ∃ n1164, ∃ n1165, ∃ n1166, v1160 = (.agg #[(.int .i64 n1162), (.int .i64 n1163), (.int .i64 n1164), (.int .i64 n1165), (.int .i64 n1166)]) ∧
 CA en F.crossbarlaw06_mov [] H1161 fun v1167 H1168 =>
 ∃ n1169, ∃ n1170, ∃ n1171, ∃ n1172, ∃ n1173, v1167 = (.agg #[(.int .i64 n1169), (.int .i64 n1170), (.int .i64 n1171), (.int .i64 n1172), (.int .i64 n1173)]) ∧
 nwH H1168 (.cells true 5 [(.int .i64 n1162), (.int .i64 n1163), (.int .i64 n1164), (.int .i64 n1165), (.int .i64 n1166), (.int .i64 n1169), (.int .i64 n1170), (.int .i64 n1171), (.int .i64 n1172), (.int .i64 n1173)]) fun i1174 H1175 =>
 CA en F.crossbarlaw06_is [(.slice none 0 0), (.int .i64 11), (.slice (some ⟨i1174, 0, none⟩) 2 0)] H1175 fun v1176 H1177 =>
 ∃ b1178, v1176 = (.bool b1178) ∧
 J1043 [(.bool b1178)] H1177)
 else (
 J1043 [(.bool false)] H1158))
 else (
 J1043 [(.bool false)] H1130))
 else (
 J1043 [(.bool false)] H1104))
 else (
 J1043 [(.bool false)] H1085))
 else (
 J1043 [(.bool false)] H1073))
 else (
 J1043 [(.bool false)] H1054)) ∧
 ∀ (ys1179 : Fr) (H1180 : Heap), ∀ b1181, J1043 [(.bool b1181)] H1180 →
 ∃ J1182 : List Value → Heap → Prop, (
 CA en F.crossbarlaw06_jump [(.int .i64 0)] H1180 fun v1183 H1184 =>
 ∃ n1185, ∃ n1186, ∃ n1187, ∃ n1188, ∃ n1189, v1183 = (.agg #[(.int .i64 n1185), (.int .i64 n1186), (.int .i64 n1187), (.int .i64 n1188), (.int .i64 n1189)]) ∧
 CA en F.crossbarlaw06_exit [] H1184 fun v1190 H1191 =>
 ∃ n1192, ∃ n1193, ∃ n1194, ∃ n1195, ∃ n1196, v1190 = (.agg #[(.int .i64 n1192), (.int .i64 n1193), (.int .i64 n1194), (.int .i64 n1195), (.int .i64 n1196)]) ∧
 nwH H1191 (.cells true 5 [(.int .i64 n1185), (.int .i64 n1186), (.int .i64 n1187), (.int .i64 n1188), (.int .i64 n1189), (.int .i64 n1192), (.int .i64 n1193), (.int .i64 n1194), (.int .i64 n1195), (.int .i64 n1196)]) fun i1197 H1198 =>
 nwH H1198 (.cells true 1 [(.int .i64 1), (.int .i64 (-1))]) fun i1199 H1200 =>
 CA en F.flow_Next [(.slice (some ⟨i1197, 0, none⟩) 2 0), (.slice (some ⟨i1199, 0, none⟩) 2 0), (.int .i64 0)] H1200 fun v1201 H1202 =>
 ∃ a1203 i1204, v1201 = (.slice a1203 i1204 0) ∧
 J1182 [(.slice a1203 i1204 0)] H1202) ∧
 ∀ (ys1205 : Fr) (H1206 : Heap), ∀ a1207 i1208, J1182 [(.slice a1207 i1208 0)] H1206 →
 ∃ J1209 : List Value → Heap → Prop, (
 CA en F.crossbarlaw06_jump [(.int .i64 1)] H1206 fun v1210 H1211 =>
 ∃ n1212, ∃ n1213, ∃ n1214, ∃ n1215, ∃ n1216, v1210 = (.agg #[(.int .i64 n1212), (.int .i64 n1213), (.int .i64 n1214), (.int .i64 n1215), (.int .i64 n1216)]) ∧
 CA en F.crossbarlaw06_mov [] H1211 fun v1217 H1218 =>
 ∃ n1219, ∃ n1220, ∃ n1221, ∃ n1222, ∃ n1223, v1217 = (.agg #[(.int .i64 n1219), (.int .i64 n1220), (.int .i64 n1221), (.int .i64 n1222), (.int .i64 n1223)]) ∧
 CA en F.crossbarlaw06_exit [] H1218 fun v1224 H1225 =>
 ∃ n1226, ∃ n1227, ∃ n1228, ∃ n1229, ∃ n1230, v1224 = (.agg #[(.int .i64 n1226), (.int .i64 n1227), (.int .i64 n1228), (.int .i64 n1229), (.int .i64 n1230)]) ∧
 nwH H1225 (.cells true 5 [(.int .i64 n1212), (.int .i64 n1213), (.int .i64 n1214), (.int .i64 n1215), (.int .i64 n1216), (.int .i64 n1219), (.int .i64 n1220), (.int .i64 n1221), (.int .i64 n1222), (.int .i64 n1223), (.int .i64 n1226), (.int .i64 n1227), (.int .i64 n1228), (.int .i64 n1229), (.int .i64 n1230)]) fun i1231 H1232 =>
 nwH H1232 (.cells true 1 [(.int .i64 2), (.int .i64 (-1)), (.int .i64 (-1))]) fun i1233 H1234 =>
 CA en F.flow_Next [(.slice (some ⟨i1231, 0, none⟩) 3 0), (.slice (some ⟨i1233, 0, none⟩) 3 0), (.int .i64 0)] H1234 fun v1235 H1236 =>
 ∃ a1237 i1238, v1235 = (.slice a1237 i1238 0) ∧
 J1209 [(.slice a1237 i1238 0)] H1236) ∧
 ∀ (ys1239 : Fr) (H1240 : Heap), ∀ a1241 i1242, J1209 [(.slice a1241 i1242 0)] H1240 →
 ∃ J1243 : List Value → Heap → Prop, (
 nwH H1240 (.cells true 0 [(.int .i64 0), (.int .i64 0), (.int .i64 0), (.int .i64 0), (.int .i64 0)]) fun i1244 H1245 =>
 stc H1245 i1244 0 [(.int .i64 133), (.int .i64 0), (.int .i64 0), (.int .i64 0), (.int .i64 1)] fun H1246 =>
 J1243 [(.pointer (some ⟨i1244, 0, none⟩))] H1246) ∧
 ∀ (ys1247 : Fr) (H1248 : Heap), ∀ v1249, J1243 [v1249] H1248 →
 LA en L_crossbarlaw06_FlowKnown_0 [(.bool false), (.bool false), (.bool b1181), (.slice a1207 i1208 0), (.slice a1241 i1242 0), v1249, (.slice none 0 0), (.int .i64 0), (.slice (some ⟨i1, 0, none⟩) 2 0), (.agg #[(.int .i64 n5), (.int .i64 n6), (.int .i64 n7), (.int .i64 n8), (.int .i64 n9)]), (.agg #[(.int .i64 n12), (.int .i64 n13), (.int .i64 n14), (.int .i64 n15), (.int .i64 n16)]), (.slice (some ⟨i17, 0, none⟩) 2 0), (.bool b21), (.bool true), (.slice (some ⟨i22, 0, none⟩) 3 0), (.agg #[(.int .i64 n26), (.int .i64 n27), (.int .i64 n28), (.int .i64 n29), (.int .i64 n30)]), (.agg #[(.int .i64 n33), (.int .i64 n34), (.int .i64 n35), (.int .i64 n36), (.int .i64 n37)]), (.agg #[(.int .i64 n40), (.int .i64 n41), (.int .i64 n42), (.int .i64 n43), (.int .i64 n44)]), (.slice (some ⟨i45, 0, none⟩) 3 0), (.bool b49), (.bool b49), (.bool true), (.slice (some ⟨i50, 0, none⟩) 2 0), (.agg #[(.int .i64 n54), (.int .i64 n55), (.int .i64 n56), (.int .i64 n57), (.int .i64 n58)]), (.agg #[(.int .i64 n61), (.int .i64 n62), (.int .i64 n63), (.int .i64 n64), (.int .i64 n65)]), (.slice (some ⟨i66, 0, none⟩) 2 0), (.bool b70), (.bool b70), (.bool false), undef, undef, undef, undef, (.bool false), (.bool false), undef, (.bool false), (.bool false), undef, undef, undef, undef, (.bool false), (.bool false), undef, undef, undef, undef, undef, (.bool false), (ys1179.getD 50 undef), (ys1179.getD 51 undef), (ys1179.getD 52 undef), (ys1179.getD 53 undef), (ys1179.getD 54 undef), (ys1179.getD 55 undef), (ys1179.getD 56 undef), (ys1179.getD 57 undef), (ys1179.getD 58 undef), (ys1179.getD 59 undef), (ys1179.getD 60 undef), (ys1179.getD 61 undef), (ys1179.getD 62 undef), (ys1179.getD 63 undef), (ys1179.getD 64 undef), (ys1179.getD 65 undef), (ys1179.getD 66 undef), (ys1179.getD 67 undef), (ys1179.getD 68 undef), (ys1179.getD 69 undef), (ys1179.getD 70 undef), (ys1179.getD 71 undef), (ys1179.getD 72 undef), (ys1179.getD 73 undef), (ys1179.getD 74 undef), (ys1179.getD 75 undef), (ys1179.getD 76 undef), (ys1179.getD 77 undef), (ys1179.getD 78 undef), (ys1179.getD 79 undef), (ys1179.getD 80 undef), (ys1179.getD 81 undef), (ys1179.getD 82 undef), (ys1179.getD 83 undef), (ys1179.getD 84 undef), (ys1179.getD 85 undef), (ys1179.getD 86 undef), (ys1179.getD 87 undef), (ys1179.getD 88 undef), (ys1179.getD 89 undef), (ys1179.getD 90 undef), (ys1205.getD 91 undef), (ys1205.getD 92 undef), (ys1205.getD 93 undef), (ys1205.getD 94 undef), (ys1205.getD 95 undef), (ys1239.getD 96 undef), (ys1239.getD 97 undef), (ys1239.getD 98 undef), (ys1239.getD 99 undef), (ys1239.getD 100 undef), (ys1239.getD 101 undef), (ys1247.getD 102 undef), undef, undef, undef, undef, undef, undef, undef, undef, undef, undef, undef, undef, undef, undef, undef, undef, undef, undef, undef, undef, undef, undef, undef, undef, undef, undef, undef, undef, undef, undef, undef, undef, undef, undef, undef, undef, undef, undef, undef, undef, undef, undef, undef, undef, undef, undef, undef, undef, undef, undef] H1248 [(X.exit 0, fun (y1250 : Fr) (H1251 : Heap) =>
 asSl (y1250.getD 6 undef) fun a1252 i1253 =>
 ∃ J1254 : List Value → Heap → Prop, (
 J1254 [(.bool false)] H1251) ∧
 ∀ (ys1255 : Fr) (H1256 : Heap), ∀ b1257, J1254 [(.bool b1257)] H1256 →
 R (.bool b1257) H1256)]))
 else (
 ∃ J1258 : List Value → Heap → Prop, (
 CA en F.crossbarlaw06_ja [(.int .i64 (-2))] H48 fun v1259 H1260 =>
 ∃ n1261, ∃ n1262, ∃ n1263, ∃ n1264, ∃ n1265, v1259 = (.agg #[(.int .i64 n1261), (.int .i64 n1262), (.int .i64 n1263), (.int .i64 n1264), (.int .i64 n1265)]) ∧
 nwH H1260 (.cells true 5 [(.int .i64 n1261), (.int .i64 n1262), (.int .i64 n1263), (.int .i64 n1264), (.int .i64 n1265)]) fun i1266 H1267 =>
 CA en F.crossbarlaw06_is [(.slice none 0 0), (.int .i64 11), (.slice (some ⟨i1266, 0, none⟩) 1 0)] H1267 fun v1268 H1269 =>
 ∃ b1270, v1268 = (.bool b1270) ∧
 bif b1270 then (
 CA en F.crossbarlaw06_jump [(.int .i64 1)] H1269 fun v1271 H1272 =>
 ∃ n1273, ∃ n1274, ∃ n1275, ∃ n1276, ∃ n1277, v1271 = (.agg #[(.int .i64 n1273), (.int .i64 n1274), (.int .i64 n1275), (.int .i64 n1276), (.int .i64 n1277)]) ∧
 CA en F.crossbarlaw06_exit [] H1272 fun v1278 H1279 =>
 ∃ n1280, ∃ n1281, ∃ n1282, ∃ n1283, ∃ n1284, v1278 = (.agg #[(.int .i64 n1280), (.int .i64 n1281), (.int .i64 n1282), (.int .i64 n1283), (.int .i64 n1284)]) ∧
 nwH H1279 (.cells true 5 [(.int .i64 n1273), (.int .i64 n1274), (.int .i64 n1275), (.int .i64 n1276), (.int .i64 n1277), (.int .i64 n1280), (.int .i64 n1281), (.int .i64 n1282), (.int .i64 n1283), (.int .i64 n1284)]) fun i1285 H1286 =>
 CA en F.crossbarlaw06_is [(.slice none 0 0), (.int .i64 11), (.slice (some ⟨i1285, 0, none⟩) 2 0)] H1286 fun v1287 H1288 =>
 ∃ b1289, v1287 = (.bool b1289) ∧
 bif b1289 then (
 CA en F.crossbarlaw06_jump [(.int .i64 (-1))] H1288 fun v1290 H1291 =>
 ∃ n1292, ∃ n1293, ∃ n1294, ∃ n1295, ∃ n1296, v1290 = (.agg #[(.int .i64 n1292), (.int .i64 n1293), (.int .i64 n1294), (.int .i64 n1295), (.int .i64 n1296)]) ∧
 nwH H1291 (.cells true 5 [(.int .i64 n1292), (.int .i64 n1293), (.int .i64 n1294), (.int .i64 n1295), (.int .i64 n1296)]) fun i1297 H1298 =>
 CA en F.crossbarlaw06_is [(.slice none 0 0), (.int .i64 12), (.slice (some ⟨i1297, 0, none⟩) 1 0)] H1298 fun v1299 H1300 =>
 ∃ b1301, v1299 = (.bool b1301) ∧
 bif b1301 then (
 CA en F.crossbarlaw06_exit [] H1300 fun v1302 H1303 =>
 ∃ n1304, ∃ n1305, ∃ n1306, ∃ n1307, ∃ n1308, v1302 = (.agg #[(.int .i64 n1304), (.int .i64 n1305), (.int .i64 n1306), (.int .i64 n1307), (.int .i64 n1308)]) ∧
 CA en F.crossbarlaw06_exit [] H1303 fun v1309 H1310 =>
 ∃ n1311, ∃ n1312, ∃ n1313, ∃ n1314, ∃ n1315, v1309 = (.agg #[(.int .i64 n1311), (.int .i64 n1312), (.int .i64 n1313), (.int .i64 n1314), (.int .i64 n1315)]) ∧
 nwH H1310 (.cells true 5 [(.int .i64 n1304), (.int .i64 n1305), (.int .i64 n1306), (.int .i64 n1307), (.int .i64 n1308), (.int .i64 n1311), (.int .i64 n1312), (.int .i64 n1313), (.int .i64 n1314), (.int .i64 n1315)]) fun i1316 H1317 =>
 CA en F.crossbarlaw06_is [(.slice none 0 0), (.int .i64 13), (.slice (some ⟨i1316, 0, none⟩) 2 0)] H1317 fun v1318 H1319 =>
 ∃ b1320, v1318 = (.bool b1320) ∧
 bif b1320 then (
 CA en F.crossbarlaw06_wide [] H1319 fun v1321 H1322 =>
 ∃ n1323, ∃ n1324, ∃ n1325, ∃ n1326, ∃ n1327, v1321 = (.agg #[(.int .i64 n1323), (.int .i64 n1324), (.int .i64 n1325), (.int .i64 n1326), (.int .i64 n1327)]) ∧
 CA en F.crossbarlaw06_jump [(.int .i64 (-2))] H1322 fun v1328 H1329 =>
 ∃ n1330, ∃ n1331, ∃ n1332, ∃ n1333, ∃ n1334, v1328 = (.agg #[(.int .i64 n1330), (.int .i64 n1331), (.int .i64 n1332), (.int .i64 n1333), (.int .i64 n1334)]) ∧
 CA en F.crossbarlaw06_exit [] H1329 fun v1335 H1336 =>
 ∃ n1337, ∃ n1338, ∃ n1339, ∃ n1340, ∃ n1341, v1335 = (.agg #[(.int .i64 n1337), (.int .i64 n1338), (.int .i64 n1339), (.int .i64 n1340), (.int .i64 n1341)]) ∧
 nwH H1336 (.cells true 5 [(.int .i64 n1323), (.int .i64 n1324), (.int .i64 n1325), (.int .i64 n1326), (.int .i64 n1327), (.int .i64 n1330), (.int .i64 n1331), (.int .i64 n1332), (.int .i64 n1333), (.int .i64 n1334), (.int .i64 n1337), (.int .i64 n1338), (.int .i64 n1339), (.int .i64 n1340), (.int .i64 n1341)]) fun i1342 H1343 =>
 CA en F.crossbarlaw06_is [(.slice none 0 0), (.int .i64 11), (.slice (some ⟨i1342, 0, none⟩) 3 0)] H1343 fun v1344 H1345 =>
 ∃ b1346, v1344 = (.bool b1346) ∧
 bif b1346 then (
 nwH H1345 (.cells true 1 [(.int .i64 (-1)), (.int .i64 0), (.int .i64 (-1))]) fun i1347 H1348 =>
 CA en F.crossbarlaw06_wide [] H1348 fun v1349 H1350 =>
 ∃ n1351, ∃ n1352, ∃ n1353, ∃ n1354, ∃ n1355, v1349 = (.agg #[(.int .i64 n1351), (.int .i64 n1352), (.int .i64 n1353), (.int .i64 n1354), (.int .i64 n1355)]) ∧
 CA en F.crossbarlaw06_jump [(.int .i64 (-3))] H1350 fun v1356 H1357 =>
 ∃ n1358, ∃ n1359, ∃ n1360, ∃ n1361, ∃ n1362, v1356 = (.agg #[(.int .i64 n1358), (.int .i64 n1359), (.int .i64 n1360), (.int .i64 n1361), (.int .i64 n1362)]) ∧
 CA en F.crossbarlaw06_exit [] H1357 fun v1363 H1364 =>
 ∃ n1365, ∃ n1366, ∃ n1367, ∃ n1368, ∃ n1369, v1363 = (.agg #[(.int .i64 n1365), (.int .i64 n1366), (.int .i64 n1367), (.int .i64 n1368), (.int .i64 n1369)]) ∧
 nwH H1364 (.cells true 5 [(.int .i64 n1351), (.int .i64 n1352), (.int .i64 n1353), (.int .i64 n1354), (.int .i64 n1355), (.int .i64 n1358), (.int .i64 n1359), (.int .i64 n1360), (.int .i64 n1361), (.int .i64 n1362), (.int .i64 n1365), (.int .i64 n1366), (.int .i64 n1367), (.int .i64 n1368), (.int .i64 n1369)]) fun i1370 H1371 =>
 CA en F.crossbarlaw06_is [(.slice (some ⟨i1347, 0, none⟩) 3 0), (.int .i64 0), (.slice (some ⟨i1370, 0, none⟩) 3 0)] H1371 fun v1372 H1373 =>
 ∃ b1374, v1372 = (.bool b1374) ∧
 bif b1374 then (
 CA en F.crossbarlaw06_jump [(.int .i64 5)] H1373 fun v1375 H1376 =>
 ∃ n1377, ∃ n1378, ∃ n1379, ∃ n1380, ∃ n1381, v1375 = (.agg #[(.int .i64 n1377), (.int .i64 n1378), (.int .i64 n1379), (.int .i64 n1380), (.int .i64 n1381)]) ∧
 CA en F.crossbarlaw06_mov [] H1376 fun v1382 H1383 =>
 ∃ n1384, ∃ n1385, ∃ n1386, ∃ n1387, ∃ n1388, v1382 = (.agg #[(.int .i64 n1384), (.int .i64 n1385), (.int .i64 n1386), (.int .i64 n1387), (.int .i64 n1388)]) ∧
 nwH H1383 (.cells true 5 [(.int .i64 n1377), (.int .i64 n1378), (.int .i64 n1379), (.int .i64 n1380), (.int .i64 n1381), (.int .i64 n1384), (.int .i64 n1385), (.int .i64 n1386), (.int .i64 n1387), (.int .i64 n1388)]) fun i1389 H1390 =>
 CA en F.crossbarlaw06_is [(.slice none 0 0), (.int .i64 11), (.slice (some ⟨i1389, 0, none⟩) 2 0)] H1390 fun v1391 H1392 =>
 ∃ b1393, v1391 = (.bool b1393) ∧
 J1258 [(.bool b1393)] H1392)
 else (
 J1258 [(.bool false)] H1373))
 else (
 J1258 [(.bool false)] H1345))
 else (
 J1258 [(.bool false)] H1319))
 else (
 J1258 [(.bool false)] H1300))
 else (
 J1258 [(.bool false)] H1288))
 else (
 J1258 [(.bool false)] H1269)) ∧
 ∀ (ys1394 : Fr) (H1395 : Heap), ∀ b1396, J1258 [(.bool b1396)] H1395 →
 ∃ J1397 : List Value → Heap → Prop, (
 CA en F.crossbarlaw06_jump [(.int .i64 0)] H1395 fun v1398 H1399 =>
 ∃ n1400, ∃ n1401, ∃ n1402, ∃ n1403, ∃ n1404, v1398 = (.agg #[(.int .i64 n1400), (.int .i64 n1401), (.int .i64 n1402), (.int .i64 n1403), (.int .i64 n1404)]) ∧
 CA en F.crossbarlaw06_exit [] H1399 fun v1405 H1406 =>
 ∃ n1407, ∃ n1408, ∃ n1409, ∃ n1410, ∃ n1411, v1405 = (.agg #[(.int .i64 n1407), (.int .i64 n1408), (.int .i64 n1409), (.int .i64 n1410), (.int .i64 n1411)]) ∧
 nwH H1406 (.cells true 5 [(.int .i64 n1400), (.int .i64 n1401), (.int .i64 n1402), (.int .i64 n1403), (.int .i64 n1404), (.int .i64 n1407), (.int .i64 n1408), (.int .i64 n1409), (.int .i64 n1410), (.int .i64 n1411)]) fun i1412 H1413 =>
 nwH H1413 (.cells true 1 [(.int .i64 1), (.int .i64 (-1))]) fun i1414 H1415 =>
 CA en F.flow_Next [(.slice (some ⟨i1412, 0, none⟩) 2 0), (.slice (some ⟨i1414, 0, none⟩) 2 0), (.int .i64 0)] H1415 fun v1416 H1417 =>
 ∃ a1418 i1419, v1416 = (.slice a1418 i1419 0) ∧
 J1397 [(.slice a1418 i1419 0)] H1417) ∧
 ∀ (ys1420 : Fr) (H1421 : Heap), ∀ a1422 i1423, J1397 [(.slice a1422 i1423 0)] H1421 →
 ∃ J1424 : List Value → Heap → Prop, (
 CA en F.crossbarlaw06_jump [(.int .i64 1)] H1421 fun v1425 H1426 =>
 ∃ n1427, ∃ n1428, ∃ n1429, ∃ n1430, ∃ n1431, v1425 = (.agg #[(.int .i64 n1427), (.int .i64 n1428), (.int .i64 n1429), (.int .i64 n1430), (.int .i64 n1431)]) ∧
 CA en F.crossbarlaw06_mov [] H1426 fun v1432 H1433 =>
 ∃ n1434, ∃ n1435, ∃ n1436, ∃ n1437, ∃ n1438, v1432 = (.agg #[(.int .i64 n1434), (.int .i64 n1435), (.int .i64 n1436), (.int .i64 n1437), (.int .i64 n1438)]) ∧
 CA en F.crossbarlaw06_exit [] H1433 fun v1439 H1440 =>
 ∃ n1441, ∃ n1442, ∃ n1443, ∃ n1444, ∃ n1445, v1439 = (.agg #[(.int .i64 n1441), (.int .i64 n1442), (.int .i64 n1443), (.int .i64 n1444), (.int .i64 n1445)]) ∧
 nwH H1440 (.cells true 5 [(.int .i64 n1427), (.int .i64 n1428), (.int .i64 n1429), (.int .i64 n1430), (.int .i64 n1431), (.int .i64 n1434), (.int .i64 n1435), (.int .i64 n1436), (.int .i64 n1437), (.int .i64 n1438), (.int .i64 n1441), (.int .i64 n1442), (.int .i64 n1443), (.int .i64 n1444), (.int .i64 n1445)]) fun i1446 H1447 =>
 nwH H1447 (.cells true 1 [(.int .i64 2), (.int .i64 (-1)), (.int .i64 (-1))]) fun i1448 H1449 =>
 CA en F.flow_Next [(.slice (some ⟨i1446, 0, none⟩) 3 0), (.slice (some ⟨i1448, 0, none⟩) 3 0), (.int .i64 0)] H1449 fun v1450 H1451 =>
 ∃ a1452 i1453, v1450 = (.slice a1452 i1453 0) ∧
 J1424 [(.slice a1452 i1453 0)] H1451) ∧
 ∀ (ys1454 : Fr) (H1455 : Heap), ∀ a1456 i1457, J1424 [(.slice a1456 i1457 0)] H1455 →
 ∃ J1458 : List Value → Heap → Prop, (
 nwH H1455 (.cells true 0 [(.int .i64 0), (.int .i64 0), (.int .i64 0), (.int .i64 0), (.int .i64 0)]) fun i1459 H1460 =>
 stc H1460 i1459 0 [(.int .i64 133), (.int .i64 0), (.int .i64 0), (.int .i64 0), (.int .i64 1)] fun H1461 =>
 J1458 [(.pointer (some ⟨i1459, 0, none⟩))] H1461) ∧
 ∀ (ys1462 : Fr) (H1463 : Heap), ∀ v1464, J1458 [v1464] H1463 →
 LA en L_crossbarlaw06_FlowKnown_0 [(.bool false), (.bool false), (.bool b1396), (.slice a1422 i1423 0), (.slice a1456 i1457 0), v1464, (.slice none 0 0), (.int .i64 0), (.slice (some ⟨i1, 0, none⟩) 2 0), (.agg #[(.int .i64 n5), (.int .i64 n6), (.int .i64 n7), (.int .i64 n8), (.int .i64 n9)]), (.agg #[(.int .i64 n12), (.int .i64 n13), (.int .i64 n14), (.int .i64 n15), (.int .i64 n16)]), (.slice (some ⟨i17, 0, none⟩) 2 0), (.bool b21), (.bool true), (.slice (some ⟨i22, 0, none⟩) 3 0), (.agg #[(.int .i64 n26), (.int .i64 n27), (.int .i64 n28), (.int .i64 n29), (.int .i64 n30)]), (.agg #[(.int .i64 n33), (.int .i64 n34), (.int .i64 n35), (.int .i64 n36), (.int .i64 n37)]), (.agg #[(.int .i64 n40), (.int .i64 n41), (.int .i64 n42), (.int .i64 n43), (.int .i64 n44)]), (.slice (some ⟨i45, 0, none⟩) 3 0), (.bool b49), (.bool b49), (.bool false), undef, undef, undef, undef, undef, (.bool false), (.bool false), undef, undef, undef, undef, (.bool false), (.bool false), undef, (.bool false), (.bool false), undef, undef, undef, undef, (.bool false), (.bool false), undef, undef, undef, undef, undef, (.bool false), (ys1394.getD 50 undef), (ys1394.getD 51 undef), (ys1394.getD 52 undef), (ys1394.getD 53 undef), (ys1394.getD 54 undef), (ys1394.getD 55 undef), (ys1394.getD 56 undef), (ys1394.getD 57 undef), (ys1394.getD 58 undef), (ys1394.getD 59 undef), (ys1394.getD 60 undef), (ys1394.getD 61 undef), (ys1394.getD 62 undef), (ys1394.getD 63 undef), (ys1394.getD 64 undef), (ys1394.getD 65 undef), (ys1394.getD 66 undef), (ys1394.getD 67 undef), (ys1394.getD 68 undef), (ys1394.getD 69 undef), (ys1394.getD 70 undef), (ys1394.getD 71 undef), (ys1394.getD 72 undef), (ys1394.getD 73 undef), (ys1394.getD 74 undef), (ys1394.getD 75 undef), (ys1394.getD 76 undef), (ys1394.getD 77 undef), (ys1394.getD 78 undef), (ys1394.getD 79 undef), (ys1394.getD 80 undef), (ys1394.getD 81 undef), (ys1394.getD 82 undef), (ys1394.getD 83 undef), (ys1394.getD 84 undef), (ys1394.getD 85 undef), (ys1394.getD 86 undef), (ys1394.getD 87 undef), (ys1394.getD 88 undef), (ys1394.getD 89 undef), (ys1394.getD 90 undef), (ys1420.getD 91 undef), (ys1420.getD 92 undef), (ys1420.getD 93 undef), (ys1420.getD 94 undef), (ys1420.getD 95 undef), (ys1454.getD 96 undef), (ys1454.getD 97 undef), (ys1454.getD 98 undef), (ys1454.getD 99 undef), (ys1454.getD 100 undef), (ys1454.getD 101 undef), (ys1462.getD 102 undef), undef, undef, undef, undef, undef, undef, undef, undef, undef, undef, undef, undef, undef, undef, undef, undef, undef, undef, undef, undef, undef, undef, undef, undef, undef, undef, undef, undef, undef, undef, undef, undef, undef, undef, undef, undef, undef, undef, undef, undef, undef, undef, undef, undef, undef, undef, undef, undef, undef, undef] H1463 [(X.exit 0, fun (y1465 : Fr) (H1466 : Heap) =>
 asSl (y1465.getD 6 undef) fun a1467 i1468 =>
 ∃ J1469 : List Value → Heap → Prop, (
 J1469 [(.bool false)] H1466) ∧
 ∀ (ys1470 : Fr) (H1471 : Heap), ∀ b1472, J1469 [(.bool b1472)] H1471 →
 R (.bool b1472) H1471)]))
 else (
 ∃ J1473 : List Value → Heap → Prop, (
 CA en F.crossbarlaw06_ja [(.int .i64 (-2))] H20 fun v1474 H1475 =>
 ∃ n1476, ∃ n1477, ∃ n1478, ∃ n1479, ∃ n1480, v1474 = (.agg #[(.int .i64 n1476), (.int .i64 n1477), (.int .i64 n1478), (.int .i64 n1479), (.int .i64 n1480)]) ∧
 nwH H1475 (.cells true 5 [(.int .i64 n1476), (.int .i64 n1477), (.int .i64 n1478), (.int .i64 n1479), (.int .i64 n1480)]) fun i1481 H1482 =>
 CA en F.crossbarlaw06_is [(.slice none 0 0), (.int .i64 11), (.slice (some ⟨i1481, 0, none⟩) 1 0)] H1482 fun v1483 H1484 =>
 ∃ b1485, v1483 = (.bool b1485) ∧
 bif b1485 then (
 CA en F.crossbarlaw06_jump [(.int .i64 1)] H1484 fun v1486 H1487 =>
 ∃ n1488, ∃ n1489, ∃ n1490, ∃ n1491, ∃ n1492, v1486 = (.agg #[(.int .i64 n1488), (.int .i64 n1489), (.int .i64 n1490), (.int .i64 n1491), (.int .i64 n1492)]) ∧
 CA en F.crossbarlaw06_exit [] H1487 fun v1493 H1494 =>
 ∃ n1495, ∃ n1496, ∃ n1497, ∃ n1498, ∃ n1499, v1493 = (.agg #[(.int .i64 n1495), (.int .i64 n1496), (.int .i64 n1497), (.int .i64 n1498), (.int .i64 n1499)]) ∧
 nwH H1494 (.cells true 5 [(.int .i64 n1488), (.int .i64 n1489), (.int .i64 n1490), (.int .i64 n1491), (.int .i64 n1492), (.int .i64 n1495), (.int .i64 n1496), (.int .i64 n1497), (.int .i64 n1498), (.int .i64 n1499)]) fun i1500 H1501 =>
 CA en F.crossbarlaw06_is [(.slice none 0 0), (.int .i64 11), (.slice (some ⟨i1500, 0, none⟩) 2 0)] H1501 fun v1502 H1503 =>
 ∃ b1504, v1502 = (.bool b1504) ∧
 bif b1504 then (
 CA en F.crossbarlaw06_jump [(.int .i64 (-1))] H1503 fun v1505 H1506 =>
 ∃ n1507, ∃ n1508, ∃ n1509, ∃ n1510, ∃ n1511, v1505 = (.agg #[(.int .i64 n1507), (.int .i64 n1508), (.int .i64 n1509), (.int .i64 n1510), (.int .i64 n1511)]) ∧
 nwH H1506 (.cells true 5 [(.int .i64 n1507), (.int .i64 n1508), (.int .i64 n1509), (.int .i64 n1510), (.int .i64 n1511)]) fun i1512 H1513 =>
 CA en F.crossbarlaw06_is [(.slice none 0 0), (.int .i64 12), (.slice (some ⟨i1512, 0, none⟩) 1 0)] H1513 fun v1514 H1515 =>
 ∃ b1516, v1514 = (.bool b1516) ∧
 bif b1516 then (
 CA en F.crossbarlaw06_exit [] H1515 fun v1517 H1518 =>
 ∃ n1519, ∃ n1520, ∃ n1521, ∃ n1522, ∃ n1523, v1517 = (.agg #[(.int .i64 n1519), (.int .i64 n1520), (.int .i64 n1521), (.int .i64 n1522), (.int .i64 n1523)]) ∧
 CA en F.crossbarlaw06_exit [] H1518 fun v1524 H1525 =>
 ∃ n1526, ∃ n1527, ∃ n1528, ∃ n1529, ∃ n1530, v1524 = (.agg #[(.int .i64 n1526), (.int .i64 n1527), (.int .i64 n1528), (.int .i64 n1529), (.int .i64 n1530)]) ∧
 nwH H1525 (.cells true 5 [(.int .i64 n1519), (.int .i64 n1520), (.int .i64 n1521), (.int .i64 n1522), (.int .i64 n1523), (.int .i64 n1526), (.int .i64 n1527), (.int .i64 n1528), (.int .i64 n1529), (.int .i64 n1530)]) fun i1531 H1532 =>
 CA en F.crossbarlaw06_is [(.slice none 0 0), (.int .i64 13), (.slice (some ⟨i1531, 0, none⟩) 2 0)] H1532 fun v1533 H1534 =>
 ∃ b1535, v1533 = (.bool b1535) ∧
 bif b1535 then (
 CA en F.crossbarlaw06_wide [] H1534 fun v1536 H1537 =>
 ∃ n1538, ∃ n1539, ∃ n1540, ∃ n1541, ∃ n1542, v1536 = (.agg #[(.int .i64 n1538), (.int .i64 n1539), (.int .i64 n1540), (.int .i64 n1541), (.int .i64 n1542)]) ∧
 CA en F.crossbarlaw06_jump [(.int .i64 (-2))] H1537 fun v1543 H1544 =>
 ∃ n1545, ∃ n1546, ∃ n1547, ∃ n1548, ∃ n1549, v1543 = (.agg #[(.int .i64 n1545), (.int .i64 n1546), (.int .i64 n1547), (.int .i64 n1548), (.int .i64 n1549)]) ∧
 CA en F.crossbarlaw06_exit [] H1544 fun v1550 H1551 =>
 ∃ n1552, ∃ n1553, ∃ n1554, ∃ n1555, ∃ n1556, v1550 = (.agg #[(.int .i64 n1552), (.int .i64 n1553), (.int .i64 n1554), (.int .i64 n1555), (.int .i64 n1556)]) ∧
 nwH H1551 (.cells true 5 [(.int .i64 n1538), (.int .i64 n1539), (.int .i64 n1540), (.int .i64 n1541), (.int .i64 n1542), (.int .i64 n1545), (.int .i64 n1546), (.int .i64 n1547), (.int .i64 n1548), (.int .i64 n1549), (.int .i64 n1552), (.int .i64 n1553), (.int .i64 n1554), (.int .i64 n1555), (.int .i64 n1556)]) fun i1557 H1558 =>
 CA en F.crossbarlaw06_is [(.slice none 0 0), (.int .i64 11), (.slice (some ⟨i1557, 0, none⟩) 3 0)] H1558 fun v1559 H1560 =>
 ∃ b1561, v1559 = (.bool b1561) ∧
 bif b1561 then (
 nwH H1560 (.cells true 1 [(.int .i64 (-1)), (.int .i64 0), (.int .i64 (-1))]) fun i1562 H1563 =>
 CA en F.crossbarlaw06_wide [] H1563 fun v1564 H1565 =>
 ∃ n1566, ∃ n1567, ∃ n1568, ∃ n1569, ∃ n1570, v1564 = (.agg #[(.int .i64 n1566), (.int .i64 n1567), (.int .i64 n1568), (.int .i64 n1569), (.int .i64 n1570)]) ∧
 CA en F.crossbarlaw06_jump [(.int .i64 (-3))] H1565 fun v1571 H1572 =>
 ∃ n1573, ∃ n1574, ∃ n1575, ∃ n1576, ∃ n1577, v1571 = (.agg #[(.int .i64 n1573), (.int .i64 n1574), (.int .i64 n1575), (.int .i64 n1576), (.int .i64 n1577)]) ∧
 CA en F.crossbarlaw06_exit [] H1572 fun v1578 H1579 =>
 ∃ n1580, ∃ n1581, ∃ n1582, ∃ n1583, ∃ n1584, v1578 = (.agg #[(.int .i64 n1580), (.int .i64 n1581), (.int .i64 n1582), (.int .i64 n1583), (.int .i64 n1584)]) ∧
 nwH H1579 (.cells true 5 [(.int .i64 n1566), (.int .i64 n1567), (.int .i64 n1568), (.int .i64 n1569), (.int .i64 n1570), (.int .i64 n1573), (.int .i64 n1574), (.int .i64 n1575), (.int .i64 n1576), (.int .i64 n1577), (.int .i64 n1580), (.int .i64 n1581), (.int .i64 n1582), (.int .i64 n1583), (.int .i64 n1584)]) fun i1585 H1586 =>
 CA en F.crossbarlaw06_is [(.slice (some ⟨i1562, 0, none⟩) 3 0), (.int .i64 0), (.slice (some ⟨i1585, 0, none⟩) 3 0)] H1586 fun v1587 H1588 =>
 ∃ b1589, v1587 = (.bool b1589) ∧
 bif b1589 then (
 CA en F.crossbarlaw06_jump [(.int .i64 5)] H1588 fun v1590 H1591 =>
 ∃ n1592, ∃ n1593, ∃ n1594, ∃ n1595, ∃ n1596, v1590 = (.agg #[(.int .i64 n1592), (.int .i64 n1593), (.int .i64 n1594), (.int .i64 n1595), (.int .i64 n1596)]) ∧
 CA en F.crossbarlaw06_mov [] H1591 fun v1597 H1598 =>
 ∃ n1599, ∃ n1600, ∃ n1601, ∃ n1602, ∃ n1603, v1597 = (.agg #[(.int .i64 n1599), (.int .i64 n1600), (.int .i64 n1601), (.int .i64 n1602), (.int .i64 n1603)]) ∧
 nwH H1598 (.cells true 5 [(.int .i64 n1592), (.int .i64 n1593), (.int .i64 n1594), (.int .i64 n1595), (.int .i64 n1596), (.int .i64 n1599), (.int .i64 n1600), (.int .i64 n1601), (.int .i64 n1602), (.int .i64 n1603)]) fun i1604 H1605 =>
 CA en F.crossbarlaw06_is [(.slice none 0 0), (.int .i64 11), (.slice (some ⟨i1604, 0, none⟩) 2 0)] H1605 fun v1606 H1607 =>
 ∃ b1608, v1606 = (.bool b1608) ∧
 J1473 [(.bool b1608)] H1607)
 else (
 J1473 [(.bool false)] H1588))
 else (
 J1473 [(.bool false)] H1560))
 else (
 J1473 [(.bool false)] H1534))
 else (
 J1473 [(.bool false)] H1515))
 else (
 J1473 [(.bool false)] H1503))
 else (
 J1473 [(.bool false)] H1484)) ∧
 ∀ (ys1609 : Fr) (H1610 : Heap), ∀ b1611, J1473 [(.bool b1611)] H1610 →
 ∃ J1612 : List Value → Heap → Prop, (
 CA en F.crossbarlaw06_jump [(.int .i64 0)] H1610 fun v1613 H1614 =>
 ∃ n1615, ∃ n1616, ∃ n1617, ∃ n1618, ∃ n1619, v1613 = (.agg #[(.int .i64 n1615), (.int .i64 n1616), (.int .i64 n1617), (.int .i64 n1618), (.int .i64 n1619)]) ∧
 CA en F.crossbarlaw06_exit [] H1614 fun v1620 H1621 =>
 ∃ n1622, ∃ n1623, ∃ n1624, ∃ n1625, ∃ n1626, v1620 = (.agg #[(.int .i64 n1622), (.int .i64 n1623), (.int .i64 n1624), (.int .i64 n1625), (.int .i64 n1626)]) ∧
 nwH H1621 (.cells true 5 [(.int .i64 n1615), (.int .i64 n1616), (.int .i64 n1617), (.int .i64 n1618), (.int .i64 n1619), (.int .i64 n1622), (.int .i64 n1623), (.int .i64 n1624), (.int .i64 n1625), (.int .i64 n1626)]) fun i1627 H1628 =>
 nwH H1628 (.cells true 1 [(.int .i64 1), (.int .i64 (-1))]) fun i1629 H1630 =>
 CA en F.flow_Next [(.slice (some ⟨i1627, 0, none⟩) 2 0), (.slice (some ⟨i1629, 0, none⟩) 2 0), (.int .i64 0)] H1630 fun v1631 H1632 =>
 ∃ a1633 i1634, v1631 = (.slice a1633 i1634 0) ∧
 J1612 [(.slice a1633 i1634 0)] H1632) ∧
 ∀ (ys1635 : Fr) (H1636 : Heap), ∀ a1637 i1638, J1612 [(.slice a1637 i1638 0)] H1636 →
 ∃ J1639 : List Value → Heap → Prop, (
 CA en F.crossbarlaw06_jump [(.int .i64 1)] H1636 fun v1640 H1641 =>
 ∃ n1642, ∃ n1643, ∃ n1644, ∃ n1645, ∃ n1646, v1640 = (.agg #[(.int .i64 n1642), (.int .i64 n1643), (.int .i64 n1644), (.int .i64 n1645), (.int .i64 n1646)]) ∧
 CA en F.crossbarlaw06_mov [] H1641 fun v1647 H1648 =>
 ∃ n1649, ∃ n1650, ∃ n1651, ∃ n1652, ∃ n1653, v1647 = (.agg #[(.int .i64 n1649), (.int .i64 n1650), (.int .i64 n1651), (.int .i64 n1652), (.int .i64 n1653)]) ∧
 CA en F.crossbarlaw06_exit [] H1648 fun v1654 H1655 =>
 ∃ n1656, ∃ n1657, ∃ n1658, ∃ n1659, ∃ n1660, v1654 = (.agg #[(.int .i64 n1656), (.int .i64 n1657), (.int .i64 n1658), (.int .i64 n1659), (.int .i64 n1660)]) ∧
 nwH H1655 (.cells true 5 [(.int .i64 n1642), (.int .i64 n1643), (.int .i64 n1644), (.int .i64 n1645), (.int .i64 n1646), (.int .i64 n1649), (.int .i64 n1650), (.int .i64 n1651), (.int .i64 n1652), (.int .i64 n1653), (.int .i64 n1656), (.int .i64 n1657), (.int .i64 n1658), (.int .i64 n1659), (.int .i64 n1660)]) fun i1661 H1662 =>
 nwH H1662 (.cells true 1 [(.int .i64 2), (.int .i64 (-1)), (.int .i64 (-1))]) fun i1663 H1664 =>
 CA en F.flow_Next [(.slice (some ⟨i1661, 0, none⟩) 3 0), (.slice (some ⟨i1663, 0, none⟩) 3 0), (.int .i64 0)] H1664 fun v1665 H1666 =>
 ∃ a1667 i1668, v1665 = (.slice a1667 i1668 0) ∧
 J1639 [(.slice a1667 i1668 0)] H1666) ∧
 ∀ (ys1669 : Fr) (H1670 : Heap), ∀ a1671 i1672, J1639 [(.slice a1671 i1672 0)] H1670 →
 ∃ J1673 : List Value → Heap → Prop, (
 nwH H1670 (.cells true 0 [(.int .i64 0), (.int .i64 0), (.int .i64 0), (.int .i64 0), (.int .i64 0)]) fun i1674 H1675 =>
 stc H1675 i1674 0 [(.int .i64 133), (.int .i64 0), (.int .i64 0), (.int .i64 0), (.int .i64 1)] fun H1676 =>
 J1673 [(.pointer (some ⟨i1674, 0, none⟩))] H1676) ∧
 ∀ (ys1677 : Fr) (H1678 : Heap), ∀ v1679, J1673 [v1679] H1678 →
 LA en L_crossbarlaw06_FlowKnown_0 [(.bool false), (.bool false), (.bool b1611), (.slice a1637 i1638 0), (.slice a1671 i1672 0), v1679, (.slice none 0 0), (.int .i64 0), (.slice (some ⟨i1, 0, none⟩) 2 0), (.agg #[(.int .i64 n5), (.int .i64 n6), (.int .i64 n7), (.int .i64 n8), (.int .i64 n9)]), (.agg #[(.int .i64 n12), (.int .i64 n13), (.int .i64 n14), (.int .i64 n15), (.int .i64 n16)]), (.slice (some ⟨i17, 0, none⟩) 2 0), (.bool b21), (.bool false), undef, undef, undef, undef, undef, undef, (.bool false), (.bool false), undef, undef, undef, undef, undef, (.bool false), (.bool false), undef, undef, undef, undef, (.bool false), (.bool false), undef, (.bool false), (.bool false), undef, undef, undef, undef, (.bool false), (.bool false), undef, undef, undef, undef, undef, (.bool false), (ys1609.getD 50 undef), (ys1609.getD 51 undef), (ys1609.getD 52 undef), (ys1609.getD 53 undef), (ys1609.getD 54 undef), (ys1609.getD 55 undef), (ys1609.getD 56 undef), (ys1609.getD 57 undef), (ys1609.getD 58 undef), (ys1609.getD 59 undef), (ys1609.getD 60 undef), (ys1609.getD 61 undef), (ys1609.getD 62 undef), (ys1609.getD 63 undef), (ys1609.getD 64 undef), (ys1609.getD 65 undef), (ys1609.getD 66 undef), (ys1609.getD 67 undef), (ys1609.getD 68 undef), (ys1609.getD 69 undef), (ys1609.getD 70 undef), (ys1609.getD 71 undef), (ys1609.getD 72 undef), (ys1609.getD 73 undef), (ys1609.getD 74 undef), (ys1609.getD 75 undef), (ys1609.getD 76 undef), (ys1609.getD 77 undef), (ys1609.getD 78 undef), (ys1609.getD 79 undef), (ys1609.getD 80 undef), (ys1609.getD 81 undef), (ys1609.getD 82 undef), (ys1609.getD 83 undef), (ys1609.getD 84 undef), (ys1609.getD 85 undef), (ys1609.getD 86 undef), (ys1609.getD 87 undef), (ys1609.getD 88 undef), (ys1609.getD 89 undef), (ys1609.getD 90 undef), (ys1635.getD 91 undef), (ys1635.getD 92 undef), (ys1635.getD 93 undef), (ys1635.getD 94 undef), (ys1635.getD 95 undef), (ys1669.getD 96 undef), (ys1669.getD 97 undef), (ys1669.getD 98 undef), (ys1669.getD 99 undef), (ys1669.getD 100 undef), (ys1669.getD 101 undef), (ys1677.getD 102 undef), undef, undef, undef, undef, undef, undef, undef, undef, undef, undef, undef, undef, undef, undef, undef, undef, undef, undef, undef, undef, undef, undef, undef, undef, undef, undef, undef, undef, undef, undef, undef, undef, undef, undef, undef, undef, undef, undef, undef, undef, undef, undef, undef, undef, undef, undef, undef, undef, undef, undef] H1678 [(X.exit 0, fun (y1680 : Fr) (H1681 : Heap) =>
 asSl (y1680.getD 6 undef) fun a1682 i1683 =>
 ∃ J1684 : List Value → Heap → Prop, (
 J1684 [(.bool false)] H1681) ∧
 ∀ (ys1685 : Fr) (H1686 : Heap), ∀ b1687, J1684 [(.bool b1687)] H1686 →
 R (.bool b1687) H1686)])) →
    CA en F.crossbarlaw06_FlowKnown [] H R := by
  intro h
  refine wpFnC_ok (C := [none, none, some [(2, (.bool false))], some [(3, (.slice none 0 0))], some [(4, (.slice none 0 0))], some [(5, undef)], none, none, none, some [(0, (.bool false))]]) (Z := [[(6, (.slice none 0 0))]]) (fn := Go.Proofs.Try.f3) ?_ ?_ ?_
  · kernel_rfl
  · kernel_rfl
  · apply turnInto h
    kernel_rfl

theorem use_crossbarlaw06_FlowKnown_0 {t1 : Bool} {t2 : Bool} {t3 : Option Addr} {t3l : Nat} {t4 : Option Addr} {t4l : Nat} {t5 : Value} {t8 : Nat} {t9_0 : Int} {t9_1 : Int} {t9_2 : Int} {t9_3 : Int} {t9_4 : Int} {t10_0 : Int} {t10_1 : Int} {t10_2 : Int} {t10_3 : Int} {t10_4 : Int} {t11 : Nat} {t12 : Bool} {t13 : Bool} {t14 : Value} {t15 : Value} {t16 : Value} {t17 : Value} {t18 : Value} {t19 : Value} {t20 : Bool} {t21 : Bool} {t22 : Value} {t23 : Value} {t24 : Value} {t25 : Value} {t26 : Value} {t27 : Bool} {t28 : Bool} {t29 : Value} {t30 : Value} {t31 : Value} {t32 : Value} {t33 : Bool} {t34 : Bool} {t35 : Value} {t36 : Bool} {t37 : Bool} {t38 : Value} {t39 : Value} {t40 : Value} {t41 : Value} {t42 : Bool} {t43 : Bool} {t44 : Value} {t45 : Value} {t46 : Value} {t47 : Value} {t48 : Value} {t49 : Bool} {t50 : Value} {t51 : Value} {t52 : Value} {t53 : Value} {t54 : Value} {t55 : Value} {t56 : Value} {t57 : Value} {t58 : Value} {t59 : Value} {t60 : Value} {t61 : Value} {t62 : Value} {t63 : Value} {t64 : Value} {t65 : Value} {t66 : Value} {t67 : Value} {t68 : Value} {t69 : Value} {t70 : Value} {t71 : Value} {t72 : Value} {t73 : Value} {t74 : Value} {t75 : Value} {t76 : Value} {t77 : Value} {t78 : Value} {t79 : Value} {t80 : Value} {t81 : Value} {t82 : Value} {t83 : Value} {t84 : Value} {t85 : Value} {t86 : Value} {t87 : Value} {t88 : Value} {t89 : Value} {t90 : Value} {t91 : Value} {t92 : Value} {t93 : Value} {t94 : Value} {t95 : Value} {t96 : Value} {t97 : Value} {t98 : Value} {t99 : Value} {t100 : Value} {t101 : Value} {t102 : Value} {K0 : Fr → Heap → Prop} {t6 : Option Addr} {t6l : Nat} {t7 : Int} {t103 : Value} {t104 : Value} {t105 : Value} {t106 : Value} {t107 : Value} {t108 : Value} {t109 : Value} {t110 : Value} {H : Heap} (I : Nat → Option Addr → Nat → Int → Heap → Prop) (n : Nat) (h0 : I n t6 t6l t7 H)
    (hstep : ∀ (n : Nat) (t6 : Option Addr) (t6l : Nat) (t7 : Int) (ys : Fr) (H : Heap), I n t6 t6l t7 H →
    (
 bif (decide (t7 < 256)) then (
 CA en F.crossbarlaw06_mov [] H fun v1 H2 =>
 ∃ n3, ∃ n4, ∃ n5, ∃ n6, ∃ n7, v1 = (.agg #[(.int .i64 n3), (.int .i64 n4), (.int .i64 n5), (.int .i64 n6), (.int .i64 n7)]) ∧
 nwH H2 (.cells true 5 [(.int .i64 n3), (.int .i64 n4), (.int .i64 n5), (.int .i64 n6), (.int .i64 n7)]) fun i8 H9 =>
 ∃ l10, rowOf H9 5 (some ⟨i8, 0, none⟩) 1 = some l10 ∧
 apdF H9 40 5 t6 t6l 1 l10 fun a11 i12 H13 =>
 ∃ k14, k14 < n ∧
 I k14 a11 i12 (IntKind.i64.wrap (t7 + 1)) H13)
 else (
 K0 [(.bool false), (.bool t1), (.bool t2), (.slice t3 t3l 0), (.slice t4 t4l 0), t5, (.slice t6 t6l 0), (.int .i64 t7), (.slice (some ⟨t8, 0, none⟩) 2 0), (.agg #[(.int .i64 t9_0), (.int .i64 t9_1), (.int .i64 t9_2), (.int .i64 t9_3), (.int .i64 t9_4)]), (.agg #[(.int .i64 t10_0), (.int .i64 t10_1), (.int .i64 t10_2), (.int .i64 t10_3), (.int .i64 t10_4)]), (.slice (some ⟨t11, 0, none⟩) 2 0), (.bool t12), (.bool t13), t14, t15, t16, t17, t18, t19, (.bool t20), (.bool t21), t22, t23, t24, t25, t26, (.bool t27), (.bool t28), t29, t30, t31, t32, (.bool t33), (.bool t34), t35, (.bool t36), (.bool t37), t38, t39, t40, t41, (.bool t42), (.bool t43), t44, t45, t46, t47, t48, (.bool t49), t50, t51, t52, t53, t54, t55, t56, t57, t58, t59, t60, t61, t62, t63, t64, t65, t66, t67, t68, t69, t70, t71, t72, t73, t74, t75, t76, t77, t78, t79, t80, t81, t82, t83, t84, t85, t86, t87, t88, t89, t90, t91, t92, t93, t94, t95, t96, t97, t98, t99, t100, t101, t102, (.int .i64 t7), (.bool false), (ys.getD 105 undef), (ys.getD 106 undef), (ys.getD 107 undef), (ys.getD 108 undef), (ys.getD 109 undef), (ys.getD 110 undef), undef, undef, undef, undef, undef, undef, undef, undef, undef, undef, undef, undef, undef, undef, undef, undef, undef, undef, undef, undef, undef, undef, undef, undef, undef, undef, undef, undef, undef, undef, undef, undef, undef, undef, undef, undef, undef, undef, undef, undef, undef, undef] H))) :
    LA en L_crossbarlaw06_FlowKnown_0 [(.bool false), (.bool t1), (.bool t2), (.slice t3 t3l 0), (.slice t4 t4l 0), t5, (.slice t6 t6l 0), (.int .i64 t7), (.slice (some ⟨t8, 0, none⟩) 2 0), (.agg #[(.int .i64 t9_0), (.int .i64 t9_1), (.int .i64 t9_2), (.int .i64 t9_3), (.int .i64 t9_4)]), (.agg #[(.int .i64 t10_0), (.int .i64 t10_1), (.int .i64 t10_2), (.int .i64 t10_3), (.int .i64 t10_4)]), (.slice (some ⟨t11, 0, none⟩) 2 0), (.bool t12), (.bool t13), t14, t15, t16, t17, t18, t19, (.bool t20), (.bool t21), t22, t23, t24, t25, t26, (.bool t27), (.bool t28), t29, t30, t31, t32, (.bool t33), (.bool t34), t35, (.bool t36), (.bool t37), t38, t39, t40, t41, (.bool t42), (.bool t43), t44, t45, t46, t47, t48, (.bool t49), t50, t51, t52, t53, t54, t55, t56, t57, t58, t59, t60, t61, t62, t63, t64, t65, t66, t67, t68, t69, t70, t71, t72, t73, t74, t75, t76, t77, t78, t79, t80, t81, t82, t83, t84, t85, t86, t87, t88, t89, t90, t91, t92, t93, t94, t95, t96, t97, t98, t99, t100, t101, t102, t103, t104, t105, t106, t107, t108, t109, t110, undef, undef, undef, undef, undef, undef, undef, undef, undef, undef, undef, undef, undef, undef, undef, undef, undef, undef, undef, undef, undef, undef, undef, undef, undef, undef, undef, undef, undef, undef, undef, undef, undef, undef, undef, undef, undef, undef, undef, undef, undef, undef] H [(X.exit 0, K0)] := by
  refine LA_rule (Z := []) (fun m xs H' => asSl (xs.getD 6 undef) fun t6 t6l => AS.asInt .i64 (xs.getD 7 undef) fun t7 => I m t6 t6l t7 H') ?_ n H ?_
  · intro n H
    suffices hs : ∀ s103 : Value, ∀ s104 : Value, ∀ s107 : Value, ∀ s108 : Value, ∀ s109 : Value, ∀ s110 : Value, ∀ s6 : Value, ∀ s105 : Value, ∀ s106 : Value, ∀ s7 : Value, ((asSl s6 fun t6 t6l => AS.asInt .i64 s7 fun t7 => I n t6 t6l t7 H) → wpCode en L_crossbarlaw06_FlowKnown_0 [] [(.bool false), (.bool t1), (.bool t2), (.slice t3 t3l 0), (.slice t4 t4l 0), t5, s6, s7, (.slice (some ⟨t8, 0, none⟩) 2 0), (.agg #[(.int .i64 t9_0), (.int .i64 t9_1), (.int .i64 t9_2), (.int .i64 t9_3), (.int .i64 t9_4)]), (.agg #[(.int .i64 t10_0), (.int .i64 t10_1), (.int .i64 t10_2), (.int .i64 t10_3), (.int .i64 t10_4)]), (.slice (some ⟨t11, 0, none⟩) 2 0), (.bool t12), (.bool t13), t14, t15, t16, t17, t18, t19, (.bool t20), (.bool t21), t22, t23, t24, t25, t26, (.bool t27), (.bool t28), t29, t30, t31, t32, (.bool t33), (.bool t34), t35, (.bool t36), (.bool t37), t38, t39, t40, t41, (.bool t42), (.bool t43), t44, t45, t46, t47, t48, (.bool t49), t50, t51, t52, t53, t54, t55, t56, t57, t58, t59, t60, t61, t62, t63, t64, t65, t66, t67, t68, t69, t70, t71, t72, t73, t74, t75, t76, t77, t78, t79, t80, t81, t82, t83, t84, t85, t86, t87, t88, t89, t90, t91, t92, t93, t94, t95, t96, t97, t98, t99, t100, t101, t102, s103, s104, s105, s106, s107, s108, s109, s110, undef, undef, undef, undef, undef, undef, undef, undef, undef, undef, undef, undef, undef, undef, undef, undef, undef, undef, undef, undef, undef, undef, undef, undef, undef, undef, undef, undef, undef, undef, undef, undef, undef, undef, undef, undef, undef, undef, undef, undef, undef, undef] H (loopQ (fun m xs H' => asSl (xs.getD 6 undef) fun t6 t6l => AS.asInt .i64 (xs.getD 7 undef) fun t7 => I m t6 t6l t7 H') n [(X.exit 0, K0)])) by
      apply turnInto hs
      kernel_rfl
    intro s103 s104 s107 s108 s109 s110 s6 s105 s106 s7 hP
    replace hP := asSl_elim hP
    obtain ⟨t6, t6l, rfl, hP⟩ := hP
    replace hP := asInt_elim hP
    obtain ⟨t7, rfl, hP⟩ := hP
    apply turnInto (hstep n t6 t6l t7 [(.bool false), (.bool t1), (.bool t2), (.slice t3 t3l 0), (.slice t4 t4l 0), t5, (.slice t6 t6l 0), (.int .i64 t7), (.slice (some ⟨t8, 0, none⟩) 2 0), (.agg #[(.int .i64 t9_0), (.int .i64 t9_1), (.int .i64 t9_2), (.int .i64 t9_3), (.int .i64 t9_4)]), (.agg #[(.int .i64 t10_0), (.int .i64 t10_1), (.int .i64 t10_2), (.int .i64 t10_3), (.int .i64 t10_4)]), (.slice (some ⟨t11, 0, none⟩) 2 0), (.bool t12), (.bool t13), t14, t15, t16, t17, t18, t19, (.bool t20), (.bool t21), t22, t23, t24, t25, t26, (.bool t27), (.bool t28), t29, t30, t31, t32, (.bool t33), (.bool t34), t35, (.bool t36), (.bool t37), t38, t39, t40, t41, (.bool t42), (.bool t43), t44, t45, t46, t47, t48, (.bool t49), t50, t51, t52, t53, t54, t55, t56, t57, t58, t59, t60, t61, t62, t63, t64, t65, t66, t67, t68, t69, t70, t71, t72, t73, t74, t75, t76, t77, t78, t79, t80, t81, t82, t83, t84, t85, t86, t87, t88, t89, t90, t91, t92, t93, t94, t95, t96, t97, t98, t99, t100, t101, t102, s103, s104, s105, s106, s107, s108, s109, s110, undef, undef, undef, undef, undef, undef, undef, undef, undef, undef, undef, undef, undef, undef, undef, undef, undef, undef, undef, undef, undef, undef, undef, undef, undef, undef, undef, undef, undef, undef, undef, undef, undef, undef, undef, undef, undef, undef, undef, undef, undef, undef] H hP)
    kernel_rfl
  · apply turnInto h0
    kernel_rfl

end Go.Proofs.Ytmgkngdbphkmmaa
