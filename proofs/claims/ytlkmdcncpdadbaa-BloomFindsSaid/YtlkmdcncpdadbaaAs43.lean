/-
  Slices that are handed in: rows of cells that stay.
-/
import Derived.Test.YtlkmdcncpdadbaaAs42
namespace Go.AS
open Go.RowKit
set_option linter.unusedVariables false
variable {H H' : Heap} {L M : List Asr}

theorem rowsFlat_len {w : Nat} : ∀ (css : List (List Value)), (∀ c ∈ css, c.length = w) → css.flatten.length = css.length * w
  | [], _ => by simp
  | c :: css, h => by
    rw [List.flatten_cons, List.length_append, rowsFlat_len css fun d hd => h d (List.mem_cons_of_mem _ hd), h c (by simp), List.length_cons, Nat.add_mul]
    omega

theorem rowsFlat_drop {w : Nat} : ∀ (css : List (List Value)) (j : Nat), (∀ c ∈ css, c.length = w) → css.flatten.drop (j * w) = (css.drop j).flatten
  | css, 0, _ => by simp
  | [], j + 1, _ => by simp
  | c :: css, j + 1, h => by
    have hc := h c (by simp)
    rw [List.flatten_cons, Nat.add_mul, Nat.one_mul, Nat.add_comm, ← hc, ← List.drop_drop, List.drop_left, hc, List.drop_succ_cons]
    exact rowsFlat_drop css j fun d hd => h d (List.mem_cons_of_mem _ hd)

theorem rowsFlat_takeAt {w : Nat} {css : List (List Value)} {j : Nat} (h : ∀ c ∈ css, c.length = w) (hj : j < css.length) : takeAt css.flatten (j * w) w = some css[j] := by
  have h1 := rowsFlat_len css h
  have h2 : j * w + w ≤ css.length * w := by rw [← Nat.succ_mul]; exact Nat.mul_le_mul_right _ hj
  unfold takeAt
  rw [if_pos (by omega), rowsFlat_drop css j h, List.drop_eq_getElem_cons hj, List.flatten_cons]
  have h3 : (css[j]).length = w := h _ (List.getElem_mem hj)
  congr 1
  conv => lhs; rw [← h3]
  exact List.take_left

theorem rowsFlat_cell {w : Nat} {css : List (List Value)} {j k : Nat} (h : ∀ c ∈ css, c.length = w) (hj : j < css.length) (hk : k < w) : css.flatten[j * w + k]? = (css[j])[k]? := by
  have h3 : (css[j]).length = w := h _ (List.getElem_mem hj)
  rw [← List.getElem?_drop, rowsFlat_drop css j h, List.drop_eq_getElem_cons hj, List.flatten_cons, List.getElem?_append_left (by omega)]

/-- What a slice is like that is handed in: its rows, and what is owned for it. -/
inductive Arg : Option Addr → Nat → List (List Value) → List Asr → Prop where
  | none : Arg none 0 [] []
  | some (i : Nat) (css : List (List Value)) : Arg (some ⟨i, 0, Option.none⟩) css.length css [bx i (.cells false 0 css.flatten)]

theorem Arg.len {a n css} (h : Arg a n css M) : n = css.length := by cases h <;> rfl

/-- A row of it. -/
theorem Arg.row {a n css w} (ha : Arg a n css M) (h : Sep H L) (hM : ∀ A ∈ M, A ∈ L) (hw : ∀ c ∈ css, c.length = w) {j : Nat} (hj : j < css.length) :
    ∃ i, a = Option.some ⟨i, 0, Option.none⟩ ∧ H.cellsAt i (0 + j * w) w = Option.some css[j] ∧ ∀ k, k < w → H.cell i (0 + j * w + k) = (css[j])[k]? := by
  cases ha with
  | none => simp at hj
  | some i css =>
    have hg : H.get i = Option.some (.cells false 0 css.flatten) := h.all (bx i (.cells false 0 css.flatten)) (hM _ (by simp))
    refine ⟨i, rfl, ?_, fun k hk => ?_⟩
    · rw [cellsAt_of hg, Nat.zero_add]; exact rowsFlat_takeAt hw hj
    · rw [cell_of hg, Nat.zero_add]; exact rowsFlat_cell hw hj hk

theorem Arg.of {P : List Value → Prop} {v : Value} (h : v = .slice Option.none 0 0 ∨ ∃ (i : Nat) (cs : List (List Value)), v = .slice (Option.some ⟨i, 0, Option.none⟩) cs.length 0 ∧ i < H.next ∧ H.get i = Option.some (.cells false 0 cs.flatten) ∧ ∀ c ∈ cs, P c) :
    ∃ a n css M, v = .slice a n 0 ∧ Arg a n css M ∧ Sep H M ∧ (∀ c ∈ css, P c) := by
  rcases h with rfl | ⟨i, cs, rfl, hi, hg, hc⟩
  · exact ⟨_, _, [], [], rfl, .none, Sep.nil, by simp⟩
  · refine ⟨_, _, cs, _, rfl, .some i cs, ⟨?_, ?_, ?_⟩, hc⟩
    · intro A hA
      simp only [List.mem_singleton] at hA
      subst hA; exact hg
    · simp [feet, bx]
    · intro j hj
      simp [feet, bx] at hj
      subst hj; exact hi

theorem one_int {k : IntKind} {n m : Int} (e : [Value.int k n] = [Value.int k m]) : n = m := by simpa using e
theorem one_bool {n m : Bool} (e : [Value.bool n] = [Value.bool m]) : n = m := by simpa using e

/-- A cell written in one of several. -/
theorem Sep.setM {i : Nat} {o : Obj} (h : Sep H (many M :: L)) (k : Nat) (o' : Obj) (hk : M[k]? = Option.some (bx i o)) : Sep (H.set i o') (many (M.set k (bx i o')) :: L) := by
  have hlt : k < M.length := (List.getElem?_eq_some_iff.1 hk).1
  have h1 := Sep.many_iff.1 h
  have h2 := h1.set (i := i) (o := o) k o' (by rw [List.getElem?_append_left hlt]; exact hk)
  rw [List.set_append_left _ _ hlt] at h2
  exact Sep.many_iff.2 h2

theorem Sep.many0 (h : Sep H L) : Sep H (many [] :: L) := Sep.many_iff.2 h
theorem Sep.many1 {A : Asr} : Sep H (many [A] :: L) ↔ Sep H (A :: L) := Sep.many_iff
theorem Sep.splitM {A X B : List Asr} : Sep H (many (A ++ (X ++ B)) :: L) ↔ Sep H (many X :: many (A ++ B) :: L) := by
  rw [Sep.many_iff, Sep.many_iff]
  have e : Sep H (X ++ many (A ++ B) :: L) ↔ Sep H (many (A ++ B) :: (X ++ L)) := ⟨fun h => h.perm List.perm_middle, fun h => h.perm List.perm_middle.symm⟩
  rw [e, Sep.many_iff]
  have p : (A ++ (X ++ B) ++ L).Perm (A ++ B ++ (X ++ L)) := by
    simp only [List.append_assoc]
    exact List.Perm.append_left A (List.perm_append_comm_assoc X B L)
  exact ⟨fun h => h.perm p, fun h => h.perm p.symm⟩
theorem Sep.fold1 {A : Asr} : Sep H (A :: (M ++ L)) ↔ Sep H (many M :: A :: L) := by
  rw [Sep.many_iff]
  exact ⟨fun h => h.perm List.perm_middle.symm, fun h => h.perm List.perm_middle⟩
theorem Sep.fold2 {A B : Asr} : Sep H (A :: B :: (M ++ L)) ↔ Sep H (many M :: A :: B :: L) := by
  rw [Sep.many_iff]
  exact ⟨fun h => h.perm ((List.perm_middle.symm.cons A).trans List.perm_middle.symm), fun h => h.perm (List.perm_middle.trans (List.perm_middle.cons A))⟩

/-! ### A block of rows, one of which is looked at -/
variable {i w k : Nat} {ow : Bool} {css : List (List Value)} {row : List Value}

theorem set_same {α : Type} {l : List α} {k : Nat} {x : α} (hk : l[k]? = Option.some x) : l.set k x = l := by
  obtain ⟨hl, hg⟩ := List.getElem?_eq_some_iff.1 hk
  rw [← hg]; exact List.set_getElem_self hl

theorem set_rows (hw : ∀ c ∈ css, c.length = w) (hr : row.length = w) : ∀ c ∈ css.set k row, c.length = w := by
  intro c hc
  rcases List.mem_or_eq_of_mem_set hc with h | h
  · exact hw c h
  · rw [h]; exact hr

theorem rowsFlat_set : ∀ {css : List (List Value)} {k o : Nat} {row : List Value} {v : Value}, (∀ c ∈ css, c.length = w) → css[k]? = Option.some row → o < w → css.flatten.set (k * w + o) v = (css.set k (row.set o v)).flatten
  | [], k, o, row, v, _, hk, _ => by simp at hk
  | c :: css, 0, o, row, v, hw, hk, ho => by
    simp at hk; subst hk
    have hc := hw c (by simp)
    simp only [Nat.zero_mul, Nat.zero_add, List.flatten_cons, List.set_cons_zero]
    rw [List.set_append_left _ _ (by omega)]
  | c :: css, k + 1, o, row, v, hw, hk, ho => by
    have hc := hw c (by simp)
    have ih := rowsFlat_set (v := v) (fun d hd => hw d (List.mem_cons_of_mem _ hd)) (by simpa using hk) ho
    rw [List.flatten_cons, List.set_append_right _ _ (by rw [hc, Nat.add_mul]; omega), List.set_cons_succ, List.flatten_cons, ← ih]
    congr 2
    rw [hc, Nat.add_mul]; omega

theorem Sep.rvw (h : Sep H (bx i (.cells ow w css.flatten) :: L)) (hk : css[k]? = Option.some row) : Sep H (bx i (.cells ow w (css.set k row).flatten) :: L) := by rw [set_same hk]; exact h

theorem Sep.rld {o : Nat} {v : Value} (h : Sep H (bx i (.cells ow w (css.set k row).flatten) :: L)) (hw : ∀ c ∈ css, c.length = w) (hr : row.length = w) (hk : k < css.length) (ho : row[o]? = Option.some v) : H.cell i (0 + k * w + o) = Option.some v := by
  have hlt : o < w := by have := (List.getElem?_eq_some_iff.1 ho).1; omega
  have hk' : k < (css.set k row).length := by simpa using hk
  rw [cell_of (Sep.get0 h), Nat.zero_add, rowsFlat_cell (set_rows hw hr) hk' hlt]
  simpa using ho
theorem Sep.rld0 {v : Value} (h : Sep H (bx i (.cells ow w (css.set k row).flatten) :: L)) (hw : ∀ c ∈ css, c.length = w) (hr : row.length = w) (hk : k < css.length) (ho : row[0]? = Option.some v) : H.cell i (0 + k * w) = Option.some v := Sep.rld (o := 0) h hw hr hk ho

theorem Sep.rst {o : Nat} {v : Value} {K : Heap → Prop} (h : Sep H (bx i (.cells true w (css.set k row).flatten) :: L)) (hw : ∀ c ∈ css, c.length = w) (hr : row.length = w) (hk : k < css.length) (ho : o < w)
    (r : ∀ H', Sep H' (bx i (.cells true w (css.set k (row.set o v)).flatten) :: L) → K H') : stc H i (0 + k * w + o) [v] K := by
  have hk' : k < (css.set k row).length := by simpa using hk
  have hlen := rowsFlat_len _ (set_rows (k := k) hw hr)
  have hle : k * w + w ≤ (css.set k row).length * w := by rw [← Nat.succ_mul]; exact Nat.mul_le_mul_right _ hk'
  refine Sep.st0 h (by simp only [List.length_cons, List.length_nil]; omega) fun H' h' => r H' ?_
  have e : setAt (css.set k row).flatten (0 + k * w + o) [v] = (css.set k (row.set o v)).flatten := by
    rw [Nat.zero_add]
    show (css.set k row).flatten.set (k * w + o) v = _
    rw [rowsFlat_set (row := row) (set_rows hw hr) (by rw [List.getElem?_set_self hk]) ho, List.set_set]
  rw [e] at h'
  exact h'
theorem Sep.rst0 {v : Value} {K : Heap → Prop} (h : Sep H (bx i (.cells true w (css.set k row).flatten) :: L)) (hw : ∀ c ∈ css, c.length = w) (hr : row.length = w) (hk : k < css.length) (ho : 0 < w)
    (r : ∀ H', Sep H' (bx i (.cells true w (css.set k (row.set 0 v)).flatten) :: L) → K H') : stc H i (0 + k * w) [v] K := Sep.rst (o := 0) h hw hr hk ho r

theorem reps_flat (n : Nat) (z : List Value) : reps n z = (List.replicate n z).flatten := by
  induction n with
  | zero => rfl
  | succ n ih => simp only [reps, ih, List.replicate_succ, List.flatten_cons]

theorem flatMap_split {α β : Type} {f : α → List β} {l : List α} {k : Nat} {x : α} (hk : l[k]? = Option.some x) : l.flatMap f = (l.take k).flatMap f ++ (f x ++ (l.drop (k + 1)).flatMap f) := by
  obtain ⟨hl, hg⟩ := List.getElem?_eq_some_iff.1 hk
  conv => lhs; rw [← List.take_append_drop k l, List.drop_eq_getElem_cons hl, hg]
  simp [List.flatMap_append]

theorem flatMap_set {α β : Type} {f : α → List β} {l : List α} {k : Nat} {y : α} (hk : k < l.length) : (l.set k y).flatMap f = (l.take k).flatMap f ++ (f y ++ (l.drop (k + 1)).flatMap f) := by
  have h1 : (l.set k y)[k]? = Option.some y := by rw [List.getElem?_set_self hk]
  rw [flatMap_split h1, List.take_set, List.drop_set]
  rw [if_pos (by omega), List.set_eq_of_length_le (by rw [List.length_take]; omega)]
end Go.AS
