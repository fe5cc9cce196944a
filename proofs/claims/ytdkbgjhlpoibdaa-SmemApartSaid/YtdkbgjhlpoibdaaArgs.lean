/-
  What the shapes of the laws' arguments say (printed by a program, checked by the kernel).
-/
import Derived.Test.YtdkbgjhlpoibdaaNames
import Derived.Test.YtdkbgjhlpoibdaaAs31
namespace Go.Proofs.Ytdkbgjhlpoibdaa
open Go Go.AS Go.RowKit
set_option linter.unusedVariables false
set_option maxRecDepth 100000

abbrev T.SmemPlays : List Nat := [3, 59]
theorem args_SmemPlays {H : Heap} {us : List Value} (h : shpVs en H 7 T.SmemPlays us) :
    (∃ (v1 : Value) (u2 : List Value), us = v1 :: u2 ∧ (∃ n : Int, [v1] = [.int .i64 n] ∧ (Lit.int .i64 n).wf = true) ∧ (∃ (v3 : Value) (u4 : List Value), u2 = v3 :: u4 ∧ ([v3] = [.slice none 0 0] ∨ ∃ (i : Nat) (cs : List (List Value)), [v3] = [.slice (some ⟨i, 0, none⟩) cs.length 0] ∧ i < H.next ∧ H.get i = some (AS.Obj.cells false 0 cs.flatten) ∧ ∀ c5 ∈ cs, (∃ (a6 b7 : List Value), c5 = a6 ++ b7 ∧ (∃ n : Int, a6 = [.int .i64 n] ∧ (Lit.int .i64 n).wf = true) ∧ (∃ (a8 b9 : List Value), b7 = a8 ++ b9 ∧ (∃ n : Int, a8 = [.int .i64 n] ∧ (Lit.int .i64 n).wf = true) ∧ (∃ (a10 b11 : List Value), b9 = a10 ++ b11 ∧ (∃ n : Int, a10 = [.int .i64 n] ∧ (Lit.int .i64 n).wf = true) ∧ (∃ (a12 b13 : List Value), b11 = a12 ++ b13 ∧ (∃ n : Int, a12 = [.int .i64 n] ∧ (Lit.int .i64 n).wf = true) ∧ (∃ (a14 b15 : List Value), b13 = a14 ++ b15 ∧ (∃ n : Int, a14 = [.int .u64 n] ∧ (Lit.int .u64 n).wf = true) ∧ (∃ (a16 b17 : List Value), b15 = a16 ++ b17 ∧ (∃ n : Int, a16 = [.int .u64 n] ∧ (Lit.int .u64 n).wf = true) ∧ (∃ (a18 b19 : List Value), b17 = a18 ++ b19 ∧ (∃ n : Int, a18 = [.int .u64 n] ∧ (Lit.int .u64 n).wf = true) ∧ b19 = [])))))))) ∧ u4 = [])) := by
  apply turnInto h
  kernel_rfl

abbrev T.SmemWhole : List Nat := [3, 59]
theorem args_SmemWhole {H : Heap} {us : List Value} (h : shpVs en H 7 T.SmemWhole us) :
    (∃ (v20 : Value) (u21 : List Value), us = v20 :: u21 ∧ (∃ n : Int, [v20] = [.int .i64 n] ∧ (Lit.int .i64 n).wf = true) ∧ (∃ (v22 : Value) (u23 : List Value), u21 = v22 :: u23 ∧ ([v22] = [.slice none 0 0] ∨ ∃ (i : Nat) (cs : List (List Value)), [v22] = [.slice (some ⟨i, 0, none⟩) cs.length 0] ∧ i < H.next ∧ H.get i = some (AS.Obj.cells false 0 cs.flatten) ∧ ∀ c24 ∈ cs, (∃ (a25 b26 : List Value), c24 = a25 ++ b26 ∧ (∃ n : Int, a25 = [.int .i64 n] ∧ (Lit.int .i64 n).wf = true) ∧ (∃ (a27 b28 : List Value), b26 = a27 ++ b28 ∧ (∃ n : Int, a27 = [.int .i64 n] ∧ (Lit.int .i64 n).wf = true) ∧ (∃ (a29 b30 : List Value), b28 = a29 ++ b30 ∧ (∃ n : Int, a29 = [.int .i64 n] ∧ (Lit.int .i64 n).wf = true) ∧ (∃ (a31 b32 : List Value), b30 = a31 ++ b32 ∧ (∃ n : Int, a31 = [.int .i64 n] ∧ (Lit.int .i64 n).wf = true) ∧ (∃ (a33 b34 : List Value), b32 = a33 ++ b34 ∧ (∃ n : Int, a33 = [.int .u64 n] ∧ (Lit.int .u64 n).wf = true) ∧ (∃ (a35 b36 : List Value), b34 = a35 ++ b36 ∧ (∃ n : Int, a35 = [.int .u64 n] ∧ (Lit.int .u64 n).wf = true) ∧ (∃ (a37 b38 : List Value), b36 = a37 ++ b38 ∧ (∃ n : Int, a37 = [.int .u64 n] ∧ (Lit.int .u64 n).wf = true) ∧ b38 = [])))))))) ∧ u23 = [])) := by
  apply turnInto h
  kernel_rfl

abbrev T.SmemApart : List Nat := [59, 61]
theorem args_SmemApart {H : Heap} {us : List Value} (h : shpVs en H 7 T.SmemApart us) :
    (∃ (v39 : Value) (u40 : List Value), us = v39 :: u40 ∧ ([v39] = [.slice none 0 0] ∨ ∃ (i : Nat) (cs : List (List Value)), [v39] = [.slice (some ⟨i, 0, none⟩) cs.length 0] ∧ i < H.next ∧ H.get i = some (AS.Obj.cells false 0 cs.flatten) ∧ ∀ c41 ∈ cs, (∃ (a42 b43 : List Value), c41 = a42 ++ b43 ∧ (∃ n : Int, a42 = [.int .i64 n] ∧ (Lit.int .i64 n).wf = true) ∧ (∃ (a44 b45 : List Value), b43 = a44 ++ b45 ∧ (∃ n : Int, a44 = [.int .i64 n] ∧ (Lit.int .i64 n).wf = true) ∧ (∃ (a46 b47 : List Value), b45 = a46 ++ b47 ∧ (∃ n : Int, a46 = [.int .i64 n] ∧ (Lit.int .i64 n).wf = true) ∧ (∃ (a48 b49 : List Value), b47 = a48 ++ b49 ∧ (∃ n : Int, a48 = [.int .i64 n] ∧ (Lit.int .i64 n).wf = true) ∧ (∃ (a50 b51 : List Value), b49 = a50 ++ b51 ∧ (∃ n : Int, a50 = [.int .u64 n] ∧ (Lit.int .u64 n).wf = true) ∧ (∃ (a52 b53 : List Value), b51 = a52 ++ b53 ∧ (∃ n : Int, a52 = [.int .u64 n] ∧ (Lit.int .u64 n).wf = true) ∧ (∃ (a54 b55 : List Value), b53 = a54 ++ b55 ∧ (∃ n : Int, a54 = [.int .u64 n] ∧ (Lit.int .u64 n).wf = true) ∧ b55 = [])))))))) ∧ (∃ (v56 : Value) (u57 : List Value), u40 = v56 :: u57 ∧ (∃ l58 : List Value, v56 = .agg ⟨l58⟩ ∧ (∃ (a59 b60 : List Value), l58 = a59 ++ b60 ∧ (∃ n : Int, a59 = [.int .i64 n] ∧ (Lit.int .i64 n).wf = true) ∧ (∃ (a61 b62 : List Value), b60 = a61 ++ b62 ∧ (∃ n : Int, a61 = [.int .i64 n] ∧ (Lit.int .i64 n).wf = true) ∧ (∃ (a63 b64 : List Value), b62 = a63 ++ b64 ∧ (∃ n : Int, a63 = [.int .i64 n] ∧ (Lit.int .i64 n).wf = true) ∧ (∃ (a65 b66 : List Value), b64 = a65 ++ b66 ∧ (∃ n : Int, a65 = [.int .i64 n] ∧ (Lit.int .i64 n).wf = true) ∧ (∃ (a67 b68 : List Value), b66 = a67 ++ b68 ∧ (∃ n : Int, a67 = [.int .u64 n] ∧ (Lit.int .u64 n).wf = true) ∧ (∃ (a69 b70 : List Value), b68 = a69 ++ b70 ∧ (∃ n : Int, a69 = [.int .u64 n] ∧ (Lit.int .u64 n).wf = true) ∧ (∃ (a71 b72 : List Value), b70 = a71 ++ b72 ∧ (∃ n : Int, a71 = [.int .u64 n] ∧ (Lit.int .u64 n).wf = true) ∧ b72 = [])))))))) ∧ u57 = [])) := by
  apply turnInto h
  kernel_rfl

abbrev T.GracePlays : List Nat := [3, 22]
theorem args_GracePlays {H : Heap} {us : List Value} (h : shpVs en H 7 T.GracePlays us) :
    (∃ (v73 : Value) (u74 : List Value), us = v73 :: u74 ∧ (∃ n : Int, [v73] = [.int .i64 n] ∧ (Lit.int .i64 n).wf = true) ∧ (∃ (v75 : Value) (u76 : List Value), u74 = v75 :: u76 ∧ ([v75] = [.slice none 0 0] ∨ ∃ (i : Nat) (cs : List (List Value)), [v75] = [.slice (some ⟨i, 0, none⟩) cs.length 0] ∧ i < H.next ∧ H.get i = some (AS.Obj.cells false 0 cs.flatten) ∧ ∀ c77 ∈ cs, (∃ (a78 b79 : List Value), c77 = a78 ++ b79 ∧ (∃ n : Int, a78 = [.int .i64 n] ∧ (Lit.int .i64 n).wf = true) ∧ (∃ (a80 b81 : List Value), b79 = a80 ++ b81 ∧ (∃ n : Int, a80 = [.int .i64 n] ∧ (Lit.int .i64 n).wf = true) ∧ b81 = []))) ∧ u76 = [])) := by
  apply turnInto h
  kernel_rfl

abbrev T.GraceFreed : List Nat := [22]
theorem args_GraceFreed {H : Heap} {us : List Value} (h : shpVs en H 7 T.GraceFreed us) :
    (∃ (v82 : Value) (u83 : List Value), us = v82 :: u83 ∧ ([v82] = [.slice none 0 0] ∨ ∃ (i : Nat) (cs : List (List Value)), [v82] = [.slice (some ⟨i, 0, none⟩) cs.length 0] ∧ i < H.next ∧ H.get i = some (AS.Obj.cells false 0 cs.flatten) ∧ ∀ c84 ∈ cs, (∃ (a85 b86 : List Value), c84 = a85 ++ b86 ∧ (∃ n : Int, a85 = [.int .i64 n] ∧ (Lit.int .i64 n).wf = true) ∧ (∃ (a87 b88 : List Value), b86 = a87 ++ b88 ∧ (∃ n : Int, a87 = [.int .i64 n] ∧ (Lit.int .i64 n).wf = true) ∧ b88 = []))) ∧ u83 = []) := by
  apply turnInto h
  kernel_rfl

abbrev T.GraceSafe : List Nat := [3, 22]
theorem args_GraceSafe {H : Heap} {us : List Value} (h : shpVs en H 7 T.GraceSafe us) :
    (∃ (v89 : Value) (u90 : List Value), us = v89 :: u90 ∧ (∃ n : Int, [v89] = [.int .i64 n] ∧ (Lit.int .i64 n).wf = true) ∧ (∃ (v91 : Value) (u92 : List Value), u90 = v91 :: u92 ∧ ([v91] = [.slice none 0 0] ∨ ∃ (i : Nat) (cs : List (List Value)), [v91] = [.slice (some ⟨i, 0, none⟩) cs.length 0] ∧ i < H.next ∧ H.get i = some (AS.Obj.cells false 0 cs.flatten) ∧ ∀ c93 ∈ cs, (∃ (a94 b95 : List Value), c93 = a94 ++ b95 ∧ (∃ n : Int, a94 = [.int .i64 n] ∧ (Lit.int .i64 n).wf = true) ∧ (∃ (a96 b97 : List Value), b95 = a96 ++ b97 ∧ (∃ n : Int, a96 = [.int .i64 n] ∧ (Lit.int .i64 n).wf = true) ∧ b97 = []))) ∧ u92 = [])) := by
  apply turnInto h
  kernel_rfl
end Go.Proofs.Ytdkbgjhlpoibdaa
