/-
  Slices that are handed in: rows of cells that stay.
-/
import Derived.Test.YtdkbgjhlpoibdaaAs42
namespace Go.AS
open Go.RowKit
set_option linter.unusedVariables false
variable {H H' : Heap} {L M : List Asr}

theorem rowsFlat_len {w : Nat} : ∀ (css : List (List Value)), (∀ c ∈ css, c.length = w) → css.flatten.length = css.length * w
  | [], _ => by simp
  | c :: css, h => by
    rw [List.flatten_cons, List.length_append, rowsFlat_len css fun d hd => h d (List.mem_cons_of_mem _ hd), h c (by simp), List.length_cons, Nat.add_mul]
    omega

theorem rowsFlat_drop {w : Nat} : ∀ (css : List (List Value)) (j : Nat), (∀ c ∈ css, c.length = w) → css.flatten.drop (j * w) = (css.drop j).flatten
  | css, 0, _ => by simp
  | [], j + 1, _ => by simp
  | c :: css, j + 1, h => by
    have hc := h c (by simp)
    rw [List.flatten_cons, Nat.add_mul, Nat.one_mul, Nat.add_comm, ← hc, ← List.drop_drop, List.drop_left, hc, List.drop_succ_cons]
    exact rowsFlat_drop css j fun d hd => h d (List.mem_cons_of_mem _ hd)

theorem rowsFlat_takeAt {w : Nat} {css : List (List Value)} {j : Nat} (h : ∀ c ∈ css, c.length = w) (hj : j < css.length) : takeAt css.flatten (j * w) w = some css[j] := by
  have h1 := rowsFlat_len css h
  have h2 : j * w + w ≤ css.length * w := by rw [← Nat.succ_mul]; exact Nat.mul_le_mul_right _ hj
  unfold takeAt
  rw [if_pos (by omega), rowsFlat_drop css j h, List.drop_eq_getElem_cons hj, List.flatten_cons]
  have h3 : (css[j]).length = w := h _ (List.getElem_mem hj)
  congr 1
  conv => lhs; rw [← h3]
  exact List.take_left

theorem rowsFlat_cell {w : Nat} {css : List (List Value)} {j k : Nat} (h : ∀ c ∈ css, c.length = w) (hj : j < css.length) (hk : k < w) : css.flatten[j * w + k]? = (css[j])[k]? := by
  have h3 : (css[j]).length = w := h _ (List.getElem_mem hj)
  rw [← List.getElem?_drop, rowsFlat_drop css j h, List.drop_eq_getElem_cons hj, List.flatten_cons, List.getElem?_append_left (by omega)]

/-- What a slice is like that is handed in: its rows, and what is owned for it. -/
inductive Arg : Option Addr → Nat → List (List Value) → List Asr → Prop where
  | none : Arg none 0 [] []
  | some (i : Nat) (css : List (List Value)) : Arg (some ⟨i, 0, Option.none⟩) css.length css [bx i (.cells false 0 css.flatten)]

theorem Arg.len {a n css} (h : Arg a n css M) : n = css.length := by cases h <;> rfl

/-- A row of it. -/
theorem Arg.row {a n css w} (ha : Arg a n css M) (h : Sep H L) (hM : ∀ A ∈ M, A ∈ L) (hw : ∀ c ∈ css, c.length = w) {j : Nat} (hj : j < css.length) :
    ∃ i, a = Option.some ⟨i, 0, Option.none⟩ ∧ H.cellsAt i (0 + j * w) w = Option.some css[j] ∧ ∀ k, k < w → H.cell i (0 + j * w + k) = (css[j])[k]? := by
  cases ha with
  | none => simp at hj
  | some i css =>
    have hg : H.get i = Option.some (.cells false 0 css.flatten) := h.all (bx i (.cells false 0 css.flatten)) (hM _ (by simp))
    refine ⟨i, rfl, ?_, fun k hk => ?_⟩
    · rw [cellsAt_of hg, Nat.zero_add]; exact rowsFlat_takeAt hw hj
    · rw [cell_of hg, Nat.zero_add]; exact rowsFlat_cell hw hj hk

theorem Arg.of {P : List Value → Prop} {v : Value} (h : v = .slice Option.none 0 0 ∨ ∃ (i : Nat) (cs : List (List Value)), v = .slice (Option.some ⟨i, 0, Option.none⟩) cs.length 0 ∧ i < H.next ∧ H.get i = Option.some (.cells false 0 cs.flatten) ∧ ∀ c ∈ cs, P c) :
    ∃ a n css M, v = .slice a n 0 ∧ Arg a n css M ∧ Sep H M ∧ (∀ c ∈ css, P c) := by
  rcases h with rfl | ⟨i, cs, rfl, hi, hg, hc⟩
  · exact ⟨_, _, [], [], rfl, .none, Sep.nil, by simp⟩
  · refine ⟨_, _, cs, _, rfl, .some i cs, ⟨?_, ?_, ?_⟩, hc⟩
    · intro A hA
      simp only [List.mem_singleton] at hA
      subst hA; exact hg
    · simp [feet, bx]
    · intro j hj
      simp [feet, bx] at hj
      subst hj; exact hi

theorem one_int {k : IntKind} {n m : Int} (e : [Value.int k n] = [Value.int k m]) : n = m := by simpa using e
theorem one_bool {n m : Bool} (e : [Value.bool n] = [Value.bool m]) : n = m := by simpa using e

/-- A cell written in one of several. -/
theorem Sep.setM {i : Nat} {o : Obj} (h : Sep H (many M :: L)) (k : Nat) (o' : Obj) (hk : M[k]? = Option.some (bx i o)) : Sep (H.set i o') (many (M.set k (bx i o')) :: L) := by
  have hlt : k < M.length := (List.getElem?_eq_some_iff.1 hk).1
  have h1 := Sep.many_iff.1 h
  have h2 := h1.set (i := i) (o := o) k o' (by rw [List.getElem?_append_left hlt]; exact hk)
  rw [List.set_append_left _ _ hlt] at h2
  exact Sep.many_iff.2 h2

theorem Sep.fold1 {A : Asr} : Sep H (A :: (M ++ L)) ↔ Sep H (many M :: A :: L) := by
  rw [Sep.many_iff]
  exact ⟨fun h => h.perm List.perm_middle.symm, fun h => h.perm List.perm_middle⟩
theorem Sep.fold2 {A B : Asr} : Sep H (A :: B :: (M ++ L)) ↔ Sep H (many M :: A :: B :: L) := by
  rw [Sep.many_iff]
  exact ⟨fun h => h.perm ((List.perm_middle.symm.cons A).trans List.perm_middle.symm), fun h => h.perm (List.perm_middle.trans (List.perm_middle.cons A))⟩
end Go.AS
