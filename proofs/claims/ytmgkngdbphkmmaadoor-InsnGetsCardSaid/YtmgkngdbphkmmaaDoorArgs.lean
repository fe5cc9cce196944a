/-
  What the shapes of the laws' arguments say (printed by a program, checked by the kernel).
-/
import Derived.Test.YtmgkngdbphkmmaaDoorNames
import Derived.Test.YtmgkngdbphkmmaaDoorAs31
namespace Go.Proofs.YtmgkngdbphkmmaaDoor
open Go Go.AS Go.RowKit
set_option linter.unusedVariables false
set_option maxRecDepth 100000

abbrev T.InsnPuts : List Nat := [22]
theorem args_InsnPuts {H : Heap} {us : List Value} (h : shpVs en H 7 T.InsnPuts us) :
    (∃ (v1 : Value) (u2 : List Value), us = v1 :: u2 ∧ ([v1] = [.slice none 0 0] ∨ ∃ (i : Nat) (cs : List (List Value)), [v1] = [.slice (some ⟨i, 0, none⟩) cs.length 0] ∧ i < H.next ∧ H.get i = some (AS.Obj.cells false 0 cs.flatten) ∧ ∀ c3 ∈ cs, (∃ (a4 b5 : List Value), c3 = a4 ++ b5 ∧ (∃ n : Int, a4 = [.int .i64 n] ∧ (Lit.int .i64 n).wf = true) ∧ (∃ (a6 b7 : List Value), b5 = a6 ++ b7 ∧ (∃ n : Int, a6 = [.int .i64 n] ∧ (Lit.int .i64 n).wf = true) ∧ (∃ (a8 b9 : List Value), b7 = a8 ++ b9 ∧ (∃ n : Int, a8 = [.int .i64 n] ∧ (Lit.int .i64 n).wf = true) ∧ (∃ (a10 b11 : List Value), b9 = a10 ++ b11 ∧ (∃ n : Int, a10 = [.int .i64 n] ∧ (Lit.int .i64 n).wf = true) ∧ (∃ (a12 b13 : List Value), b11 = a12 ++ b13 ∧ (∃ n : Int, a12 = [.int .i64 n] ∧ (Lit.int .i64 n).wf = true) ∧ b13 = [])))))) ∧ u2 = []) := by
  apply turnInto h
  kernel_rfl

abbrev T.InsnGets : List Nat := [25]
theorem args_InsnGets {H : Heap} {us : List Value} (h : shpVs en H 7 T.InsnGets us) :
    (∃ (v14 : Value) (u15 : List Value), us = v14 :: u15 ∧ ([v14] = [.slice none 0 0] ∨ ∃ (i : Nat) (cs : List (List Value)), [v14] = [.slice (some ⟨i, 0, none⟩) cs.length 0] ∧ i < H.next ∧ H.get i = some (AS.Obj.cells false 0 cs.flatten) ∧ ∀ c16 ∈ cs, (∃ n : Int, c16 = [.int .u8 n] ∧ (Lit.int .u8 n).wf = true)) ∧ u15 = []) := by
  apply turnInto h
  kernel_rfl

abbrev T.InsnBack : List Nat := [22, 22]
theorem args_InsnBack {H : Heap} {us : List Value} (h : shpVs en H 7 T.InsnBack us) :
    (∃ (v17 : Value) (u18 : List Value), us = v17 :: u18 ∧ ([v17] = [.slice none 0 0] ∨ ∃ (i : Nat) (cs : List (List Value)), [v17] = [.slice (some ⟨i, 0, none⟩) cs.length 0] ∧ i < H.next ∧ H.get i = some (AS.Obj.cells false 0 cs.flatten) ∧ ∀ c19 ∈ cs, (∃ (a20 b21 : List Value), c19 = a20 ++ b21 ∧ (∃ n : Int, a20 = [.int .i64 n] ∧ (Lit.int .i64 n).wf = true) ∧ (∃ (a22 b23 : List Value), b21 = a22 ++ b23 ∧ (∃ n : Int, a22 = [.int .i64 n] ∧ (Lit.int .i64 n).wf = true) ∧ (∃ (a24 b25 : List Value), b23 = a24 ++ b25 ∧ (∃ n : Int, a24 = [.int .i64 n] ∧ (Lit.int .i64 n).wf = true) ∧ (∃ (a26 b27 : List Value), b25 = a26 ++ b27 ∧ (∃ n : Int, a26 = [.int .i64 n] ∧ (Lit.int .i64 n).wf = true) ∧ (∃ (a28 b29 : List Value), b27 = a28 ++ b29 ∧ (∃ n : Int, a28 = [.int .i64 n] ∧ (Lit.int .i64 n).wf = true) ∧ b29 = [])))))) ∧ (∃ (v30 : Value) (u31 : List Value), u18 = v30 :: u31 ∧ ([v30] = [.slice none 0 0] ∨ ∃ (i : Nat) (cs : List (List Value)), [v30] = [.slice (some ⟨i, 0, none⟩) cs.length 0] ∧ i < H.next ∧ H.get i = some (AS.Obj.cells false 0 cs.flatten) ∧ ∀ c32 ∈ cs, (∃ (a33 b34 : List Value), c32 = a33 ++ b34 ∧ (∃ n : Int, a33 = [.int .i64 n] ∧ (Lit.int .i64 n).wf = true) ∧ (∃ (a35 b36 : List Value), b34 = a35 ++ b36 ∧ (∃ n : Int, a35 = [.int .i64 n] ∧ (Lit.int .i64 n).wf = true) ∧ (∃ (a37 b38 : List Value), b36 = a37 ++ b38 ∧ (∃ n : Int, a37 = [.int .i64 n] ∧ (Lit.int .i64 n).wf = true) ∧ (∃ (a39 b40 : List Value), b38 = a39 ++ b40 ∧ (∃ n : Int, a39 = [.int .i64 n] ∧ (Lit.int .i64 n).wf = true) ∧ (∃ (a41 b42 : List Value), b40 = a41 ++ b42 ∧ (∃ n : Int, a41 = [.int .i64 n] ∧ (Lit.int .i64 n).wf = true) ∧ b42 = [])))))) ∧ u31 = [])) := by
  apply turnInto h
  kernel_rfl

abbrev T.InsnAgain : List Nat := [25, 3]
theorem args_InsnAgain {H : Heap} {us : List Value} (h : shpVs en H 7 T.InsnAgain us) :
    (∃ (v43 : Value) (u44 : List Value), us = v43 :: u44 ∧ ([v43] = [.slice none 0 0] ∨ ∃ (i : Nat) (cs : List (List Value)), [v43] = [.slice (some ⟨i, 0, none⟩) cs.length 0] ∧ i < H.next ∧ H.get i = some (AS.Obj.cells false 0 cs.flatten) ∧ ∀ c45 ∈ cs, (∃ n : Int, c45 = [.int .u8 n] ∧ (Lit.int .u8 n).wf = true)) ∧ (∃ (v46 : Value) (u47 : List Value), u44 = v46 :: u47 ∧ (∃ n : Int, [v46] = [.int .i64 n] ∧ (Lit.int .i64 n).wf = true) ∧ u47 = [])) := by
  apply turnInto h
  kernel_rfl

abbrev T.FlowTells : List Nat := [22]
theorem args_FlowTells {H : Heap} {us : List Value} (h : shpVs en H 7 T.FlowTells us) :
    (∃ (v48 : Value) (u49 : List Value), us = v48 :: u49 ∧ ([v48] = [.slice none 0 0] ∨ ∃ (i : Nat) (cs : List (List Value)), [v48] = [.slice (some ⟨i, 0, none⟩) cs.length 0] ∧ i < H.next ∧ H.get i = some (AS.Obj.cells false 0 cs.flatten) ∧ ∀ c50 ∈ cs, (∃ (a51 b52 : List Value), c50 = a51 ++ b52 ∧ (∃ n : Int, a51 = [.int .i64 n] ∧ (Lit.int .i64 n).wf = true) ∧ (∃ (a53 b54 : List Value), b52 = a53 ++ b54 ∧ (∃ n : Int, a53 = [.int .i64 n] ∧ (Lit.int .i64 n).wf = true) ∧ (∃ (a55 b56 : List Value), b54 = a55 ++ b56 ∧ (∃ n : Int, a55 = [.int .i64 n] ∧ (Lit.int .i64 n).wf = true) ∧ (∃ (a57 b58 : List Value), b56 = a57 ++ b58 ∧ (∃ n : Int, a57 = [.int .i64 n] ∧ (Lit.int .i64 n).wf = true) ∧ (∃ (a59 b60 : List Value), b58 = a59 ++ b60 ∧ (∃ n : Int, a59 = [.int .i64 n] ∧ (Lit.int .i64 n).wf = true) ∧ b60 = [])))))) ∧ u49 = []) := by
  apply turnInto h
  kernel_rfl

abbrev T.FlowClosed : List Nat := [22, 46]
theorem args_FlowClosed {H : Heap} {us : List Value} (h : shpVs en H 7 T.FlowClosed us) :
    (∃ (v61 : Value) (u62 : List Value), us = v61 :: u62 ∧ ([v61] = [.slice none 0 0] ∨ ∃ (i : Nat) (cs : List (List Value)), [v61] = [.slice (some ⟨i, 0, none⟩) cs.length 0] ∧ i < H.next ∧ H.get i = some (AS.Obj.cells false 0 cs.flatten) ∧ ∀ c63 ∈ cs, (∃ (a64 b65 : List Value), c63 = a64 ++ b65 ∧ (∃ n : Int, a64 = [.int .i64 n] ∧ (Lit.int .i64 n).wf = true) ∧ (∃ (a66 b67 : List Value), b65 = a66 ++ b67 ∧ (∃ n : Int, a66 = [.int .i64 n] ∧ (Lit.int .i64 n).wf = true) ∧ (∃ (a68 b69 : List Value), b67 = a68 ++ b69 ∧ (∃ n : Int, a68 = [.int .i64 n] ∧ (Lit.int .i64 n).wf = true) ∧ (∃ (a70 b71 : List Value), b69 = a70 ++ b71 ∧ (∃ n : Int, a70 = [.int .i64 n] ∧ (Lit.int .i64 n).wf = true) ∧ (∃ (a72 b73 : List Value), b71 = a72 ++ b73 ∧ (∃ n : Int, a72 = [.int .i64 n] ∧ (Lit.int .i64 n).wf = true) ∧ b73 = [])))))) ∧ (∃ (v74 : Value) (u75 : List Value), u62 = v74 :: u75 ∧ ([v74] = [.slice none 0 0] ∨ ∃ (i : Nat) (cs : List (List Value)), [v74] = [.slice (some ⟨i, 0, none⟩) cs.length 0] ∧ i < H.next ∧ H.get i = some (AS.Obj.cells false 0 cs.flatten) ∧ ∀ c76 ∈ cs, (∃ n : Int, c76 = [.int .i64 n] ∧ (Lit.int .i64 n).wf = true)) ∧ u75 = [])) := by
  apply turnInto h
  kernel_rfl

abbrev T.FlowPlaces : List Nat := [22]
theorem args_FlowPlaces {H : Heap} {us : List Value} (h : shpVs en H 7 T.FlowPlaces us) :
    (∃ (v77 : Value) (u78 : List Value), us = v77 :: u78 ∧ ([v77] = [.slice none 0 0] ∨ ∃ (i : Nat) (cs : List (List Value)), [v77] = [.slice (some ⟨i, 0, none⟩) cs.length 0] ∧ i < H.next ∧ H.get i = some (AS.Obj.cells false 0 cs.flatten) ∧ ∀ c79 ∈ cs, (∃ (a80 b81 : List Value), c79 = a80 ++ b81 ∧ (∃ n : Int, a80 = [.int .i64 n] ∧ (Lit.int .i64 n).wf = true) ∧ (∃ (a82 b83 : List Value), b81 = a82 ++ b83 ∧ (∃ n : Int, a82 = [.int .i64 n] ∧ (Lit.int .i64 n).wf = true) ∧ (∃ (a84 b85 : List Value), b83 = a84 ++ b85 ∧ (∃ n : Int, a84 = [.int .i64 n] ∧ (Lit.int .i64 n).wf = true) ∧ (∃ (a86 b87 : List Value), b85 = a86 ++ b87 ∧ (∃ n : Int, a86 = [.int .i64 n] ∧ (Lit.int .i64 n).wf = true) ∧ (∃ (a88 b89 : List Value), b87 = a88 ++ b89 ∧ (∃ n : Int, a88 = [.int .i64 n] ∧ (Lit.int .i64 n).wf = true) ∧ b89 = [])))))) ∧ u78 = []) := by
  apply turnInto h
  kernel_rfl

abbrev T.FlowPads : List Nat := [22, 54]
theorem args_FlowPads {H : Heap} {us : List Value} (h : shpVs en H 7 T.FlowPads us) :
    (∃ (v90 : Value) (u91 : List Value), us = v90 :: u91 ∧ ([v90] = [.slice none 0 0] ∨ ∃ (i : Nat) (cs : List (List Value)), [v90] = [.slice (some ⟨i, 0, none⟩) cs.length 0] ∧ i < H.next ∧ H.get i = some (AS.Obj.cells false 0 cs.flatten) ∧ ∀ c92 ∈ cs, (∃ (a93 b94 : List Value), c92 = a93 ++ b94 ∧ (∃ n : Int, a93 = [.int .i64 n] ∧ (Lit.int .i64 n).wf = true) ∧ (∃ (a95 b96 : List Value), b94 = a95 ++ b96 ∧ (∃ n : Int, a95 = [.int .i64 n] ∧ (Lit.int .i64 n).wf = true) ∧ (∃ (a97 b98 : List Value), b96 = a97 ++ b98 ∧ (∃ n : Int, a97 = [.int .i64 n] ∧ (Lit.int .i64 n).wf = true) ∧ (∃ (a99 b100 : List Value), b98 = a99 ++ b100 ∧ (∃ n : Int, a99 = [.int .i64 n] ∧ (Lit.int .i64 n).wf = true) ∧ (∃ (a101 b102 : List Value), b100 = a101 ++ b102 ∧ (∃ n : Int, a101 = [.int .i64 n] ∧ (Lit.int .i64 n).wf = true) ∧ b102 = [])))))) ∧ (∃ (v103 : Value) (u104 : List Value), u91 = v103 :: u104 ∧ ([v103] = [.slice none 0 0] ∨ ∃ (i : Nat) (cs : List (List Value)), [v103] = [.slice (some ⟨i, 0, none⟩) cs.length 0] ∧ i < H.next ∧ H.get i = some (AS.Obj.cells false 0 cs.flatten) ∧ ∀ c105 ∈ cs, (∃ b : Bool, c105 = [.bool b])) ∧ u104 = [])) := by
  apply turnInto h
  kernel_rfl
end Go.Proofs.YtmgkngdbphkmmaaDoor
