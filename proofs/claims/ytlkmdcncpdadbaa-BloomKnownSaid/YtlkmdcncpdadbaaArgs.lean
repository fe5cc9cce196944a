/-
  What the shapes of the laws' arguments say (printed by a program, checked by the kernel).
-/
import Derived.Test.YtlkmdcncpdadbaaNames
import Derived.Test.YtlkmdcncpdadbaaAs31
namespace Go.Proofs.Ytlkmdcncpdadbaa
open Go Go.AS Go.RowKit
set_option linter.unusedVariables false
set_option maxRecDepth 100000

abbrev T.DeclOrder : List Nat := [35, 29, 29, 29]
theorem args_DeclOrder {H : Heap} {us : List Value} (h : shpVs en H 7 T.DeclOrder us) :
    (∃ (v1 : Value) (u2 : List Value), us = v1 :: u2 ∧ (∃ l3 : List Value, v1 = .agg ⟨l3⟩ ∧ (∃ (a4 b5 : List Value), l3 = a4 ++ b5 ∧ (∃ n : Int, a4 = [.int .i64 n] ∧ (Lit.int .i64 n).wf = true) ∧ (∃ (a6 b7 : List Value), b5 = a6 ++ b7 ∧ (∃ n : Int, a6 = [.int .i64 n] ∧ (Lit.int .i64 n).wf = true) ∧ (∃ (a8 b9 : List Value), b7 = a8 ++ b9 ∧ (∃ n : Int, a8 = [.int .i64 n] ∧ (Lit.int .i64 n).wf = true) ∧ (∃ (a10 b11 : List Value), b9 = a10 ++ b11 ∧ (∃ n : Int, a10 = [.int .i64 n] ∧ (Lit.int .i64 n).wf = true) ∧ (∃ (a12 b13 : List Value), b11 = a12 ++ b13 ∧ (∃ n : Int, a12 = [.int .i64 n] ∧ (Lit.int .i64 n).wf = true) ∧ b13 = [])))))) ∧ (∃ (v14 : Value) (u15 : List Value), u2 = v14 :: u15 ∧ (∃ n : Int, [v14] = [.int .u64 n] ∧ (Lit.int .u64 n).wf = true) ∧ (∃ (v16 : Value) (u17 : List Value), u15 = v16 :: u17 ∧ (∃ n : Int, [v16] = [.int .u64 n] ∧ (Lit.int .u64 n).wf = true) ∧ (∃ (v18 : Value) (u19 : List Value), u17 = v18 :: u19 ∧ (∃ n : Int, [v18] = [.int .u64 n] ∧ (Lit.int .u64 n).wf = true) ∧ u19 = [])))) := by
  apply turnInto h
  kernel_rfl

abbrev T.DeclTells : List Nat := [35, 35, 29, 29, 3]
theorem args_DeclTells {H : Heap} {us : List Value} (h : shpVs en H 7 T.DeclTells us) :
    (∃ (v20 : Value) (u21 : List Value), us = v20 :: u21 ∧ (∃ l22 : List Value, v20 = .agg ⟨l22⟩ ∧ (∃ (a23 b24 : List Value), l22 = a23 ++ b24 ∧ (∃ n : Int, a23 = [.int .i64 n] ∧ (Lit.int .i64 n).wf = true) ∧ (∃ (a25 b26 : List Value), b24 = a25 ++ b26 ∧ (∃ n : Int, a25 = [.int .i64 n] ∧ (Lit.int .i64 n).wf = true) ∧ (∃ (a27 b28 : List Value), b26 = a27 ++ b28 ∧ (∃ n : Int, a27 = [.int .i64 n] ∧ (Lit.int .i64 n).wf = true) ∧ (∃ (a29 b30 : List Value), b28 = a29 ++ b30 ∧ (∃ n : Int, a29 = [.int .i64 n] ∧ (Lit.int .i64 n).wf = true) ∧ (∃ (a31 b32 : List Value), b30 = a31 ++ b32 ∧ (∃ n : Int, a31 = [.int .i64 n] ∧ (Lit.int .i64 n).wf = true) ∧ b32 = [])))))) ∧ (∃ (v33 : Value) (u34 : List Value), u21 = v33 :: u34 ∧ (∃ l35 : List Value, v33 = .agg ⟨l35⟩ ∧ (∃ (a36 b37 : List Value), l35 = a36 ++ b37 ∧ (∃ n : Int, a36 = [.int .i64 n] ∧ (Lit.int .i64 n).wf = true) ∧ (∃ (a38 b39 : List Value), b37 = a38 ++ b39 ∧ (∃ n : Int, a38 = [.int .i64 n] ∧ (Lit.int .i64 n).wf = true) ∧ (∃ (a40 b41 : List Value), b39 = a40 ++ b41 ∧ (∃ n : Int, a40 = [.int .i64 n] ∧ (Lit.int .i64 n).wf = true) ∧ (∃ (a42 b43 : List Value), b41 = a42 ++ b43 ∧ (∃ n : Int, a42 = [.int .i64 n] ∧ (Lit.int .i64 n).wf = true) ∧ (∃ (a44 b45 : List Value), b43 = a44 ++ b45 ∧ (∃ n : Int, a44 = [.int .i64 n] ∧ (Lit.int .i64 n).wf = true) ∧ b45 = [])))))) ∧ (∃ (v46 : Value) (u47 : List Value), u34 = v46 :: u47 ∧ (∃ n : Int, [v46] = [.int .u64 n] ∧ (Lit.int .u64 n).wf = true) ∧ (∃ (v48 : Value) (u49 : List Value), u47 = v48 :: u49 ∧ (∃ n : Int, [v48] = [.int .u64 n] ∧ (Lit.int .u64 n).wf = true) ∧ (∃ (v50 : Value) (u51 : List Value), u49 = v50 :: u51 ∧ (∃ n : Int, [v50] = [.int .i64 n] ∧ (Lit.int .i64 n).wf = true) ∧ u51 = []))))) := by
  apply turnInto h
  kernel_rfl

abbrev T.DeclChecks : List Nat := [22]
theorem args_DeclChecks {H : Heap} {us : List Value} (h : shpVs en H 7 T.DeclChecks us) :
    (∃ (v52 : Value) (u53 : List Value), us = v52 :: u53 ∧ ([v52] = [.slice none 0 0] ∨ ∃ (i : Nat) (cs : List (List Value)), [v52] = [.slice (some ⟨i, 0, none⟩) cs.length 0] ∧ i < H.next ∧ H.get i = some (AS.Obj.cells false 0 cs.flatten) ∧ ∀ c54 ∈ cs, (∃ (a55 b56 : List Value), c54 = a55 ++ b56 ∧ (∃ n : Int, a55 = [.int .i64 n] ∧ (Lit.int .i64 n).wf = true) ∧ (∃ (a57 b58 : List Value), b56 = a57 ++ b58 ∧ (∃ n : Int, a57 = [.int .i64 n] ∧ (Lit.int .i64 n).wf = true) ∧ (∃ (a59 b60 : List Value), b58 = a59 ++ b60 ∧ (∃ n : Int, a59 = [.int .i64 n] ∧ (Lit.int .i64 n).wf = true) ∧ (∃ (a61 b62 : List Value), b60 = a61 ++ b62 ∧ (∃ n : Int, a61 = [.int .i64 n] ∧ (Lit.int .i64 n).wf = true) ∧ (∃ (a63 b64 : List Value), b62 = a63 ++ b64 ∧ (∃ n : Int, a63 = [.int .i64 n] ∧ (Lit.int .i64 n).wf = true) ∧ b64 = [])))))) ∧ u53 = []) := by
  apply turnInto h
  kernel_rfl

abbrev T.BloomFinds : List Nat := [5, 42, 42]
theorem args_BloomFinds {H : Heap} {us : List Value} (h : shpVs en H 7 T.BloomFinds us) :
    (∃ (v65 : Value) (u66 : List Value), us = v65 :: u66 ∧ (∃ n : Int, [v65] = [.int .u8 n] ∧ (Lit.int .u8 n).wf = true) ∧ (∃ (v67 : Value) (u68 : List Value), u66 = v67 :: u68 ∧ ([v67] = [.slice none 0 0] ∨ ∃ (i : Nat) (cs : List (List Value)), [v67] = [.slice (some ⟨i, 0, none⟩) cs.length 0] ∧ i < H.next ∧ H.get i = some (AS.Obj.cells false 0 cs.flatten) ∧ ∀ c69 ∈ cs, (∃ n : Int, c69 = [.int .u64 n] ∧ (Lit.int .u64 n).wf = true)) ∧ (∃ (v70 : Value) (u71 : List Value), u68 = v70 :: u71 ∧ ([v70] = [.slice none 0 0] ∨ ∃ (i : Nat) (cs : List (List Value)), [v70] = [.slice (some ⟨i, 0, none⟩) cs.length 0] ∧ i < H.next ∧ H.get i = some (AS.Obj.cells false 0 cs.flatten) ∧ ∀ c72 ∈ cs, (∃ n : Int, c72 = [.int .u64 n] ∧ (Lit.int .u64 n).wf = true)) ∧ u71 = []))) := by
  apply turnInto h
  kernel_rfl

abbrev T.BloomOrder : List Nat := [5, 42, 42]
theorem args_BloomOrder {H : Heap} {us : List Value} (h : shpVs en H 7 T.BloomOrder us) :
    (∃ (v73 : Value) (u74 : List Value), us = v73 :: u74 ∧ (∃ n : Int, [v73] = [.int .u8 n] ∧ (Lit.int .u8 n).wf = true) ∧ (∃ (v75 : Value) (u76 : List Value), u74 = v75 :: u76 ∧ ([v75] = [.slice none 0 0] ∨ ∃ (i : Nat) (cs : List (List Value)), [v75] = [.slice (some ⟨i, 0, none⟩) cs.length 0] ∧ i < H.next ∧ H.get i = some (AS.Obj.cells false 0 cs.flatten) ∧ ∀ c77 ∈ cs, (∃ n : Int, c77 = [.int .u64 n] ∧ (Lit.int .u64 n).wf = true)) ∧ (∃ (v78 : Value) (u79 : List Value), u76 = v78 :: u79 ∧ ([v78] = [.slice none 0 0] ∨ ∃ (i : Nat) (cs : List (List Value)), [v78] = [.slice (some ⟨i, 0, none⟩) cs.length 0] ∧ i < H.next ∧ H.get i = some (AS.Obj.cells false 0 cs.flatten) ∧ ∀ c80 ∈ cs, (∃ n : Int, c80 = [.int .u64 n] ∧ (Lit.int .u64 n).wf = true)) ∧ u79 = []))) := by
  apply turnInto h
  kernel_rfl

abbrev T.BloomRuns : List Nat := [35, 55, 56]
theorem args_BloomRuns {H : Heap} {us : List Value} (h : shpVs en H 7 T.BloomRuns us) :
    (∃ (v81 : Value) (u82 : List Value), us = v81 :: u82 ∧ (∃ l83 : List Value, v81 = .agg ⟨l83⟩ ∧ (∃ (a84 b85 : List Value), l83 = a84 ++ b85 ∧ (∃ n : Int, a84 = [.int .i64 n] ∧ (Lit.int .i64 n).wf = true) ∧ (∃ (a86 b87 : List Value), b85 = a86 ++ b87 ∧ (∃ n : Int, a86 = [.int .i64 n] ∧ (Lit.int .i64 n).wf = true) ∧ (∃ (a88 b89 : List Value), b87 = a88 ++ b89 ∧ (∃ n : Int, a88 = [.int .i64 n] ∧ (Lit.int .i64 n).wf = true) ∧ (∃ (a90 b91 : List Value), b89 = a90 ++ b91 ∧ (∃ n : Int, a90 = [.int .i64 n] ∧ (Lit.int .i64 n).wf = true) ∧ (∃ (a92 b93 : List Value), b91 = a92 ++ b93 ∧ (∃ n : Int, a92 = [.int .i64 n] ∧ (Lit.int .i64 n).wf = true) ∧ b93 = [])))))) ∧ (∃ (v94 : Value) (u95 : List Value), u82 = v94 :: u95 ∧ ([v94] = [.slice none 0 0] ∨ ∃ (i : Nat) (cs : List (List Value)), [v94] = [.slice (some ⟨i, 0, none⟩) cs.length 0] ∧ i < H.next ∧ H.get i = some (AS.Obj.cells false 0 cs.flatten) ∧ ∀ c96 ∈ cs, (c96 = [.slice none 0 0] ∨ ∃ (i : Nat) (cs : List (List Value)), c96 = [.slice (some ⟨i, 0, none⟩) cs.length 0] ∧ i < H.next ∧ H.get i = some (AS.Obj.cells false 0 cs.flatten) ∧ ∀ c97 ∈ cs, (∃ (a98 b99 : List Value), c97 = a98 ++ b99 ∧ (∃ n : Int, a98 = [.int .i64 n] ∧ (Lit.int .i64 n).wf = true) ∧ (∃ (a100 b101 : List Value), b99 = a100 ++ b101 ∧ (∃ n : Int, a100 = [.int .u64 n] ∧ (Lit.int .u64 n).wf = true) ∧ (∃ (a102 b103 : List Value), b101 = a102 ++ b103 ∧ (a102 = [.slice none 0 0] ∨ ∃ (i : Nat) (cs : List (List Value)), a102 = [.slice (some ⟨i, 0, none⟩) cs.length 0] ∧ i < H.next ∧ H.get i = some (AS.Obj.cells false 0 cs.flatten) ∧ ∀ c104 ∈ cs, (∃ n : Int, c104 = [.int .u64 n] ∧ (Lit.int .u64 n).wf = true)) ∧ (∃ (a105 b106 : List Value), b103 = a105 ++ b106 ∧ (∃ n : Int, a105 = [.int .i64 n] ∧ (Lit.int .i64 n).wf = true) ∧ (∃ (a107 b108 : List Value), b106 = a107 ++ b108 ∧ (∃ n : Int, a107 = [.int .i64 n] ∧ (Lit.int .i64 n).wf = true) ∧ b108 = []))))))) ∧ (∃ (v109 : Value) (u110 : List Value), u95 = v109 :: u110 ∧ ([v109] = [.slice none 0 0] ∨ ∃ (i : Nat) (cs : List (List Value)), [v109] = [.slice (some ⟨i, 0, none⟩) cs.length 0] ∧ i < H.next ∧ H.get i = some (AS.Obj.cells false 0 cs.flatten) ∧ ∀ c111 ∈ cs, (∃ n : Int, c111 = [.int .i64 n] ∧ (Lit.int .i64 n).wf = true)) ∧ u110 = []))) := by
  apply turnInto h
  kernel_rfl
end Go.Proofs.Ytlkmdcncpdadbaa
