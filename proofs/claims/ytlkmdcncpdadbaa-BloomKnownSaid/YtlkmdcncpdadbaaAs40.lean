/-
  What is owned: a list of assertions about blocks of memory, each with its own blocks; what a call does not own stays.
-/
import Derived.Test.YtlkmdcncpdadbaaAs24
namespace Go.AS
open Go.RowKit
set_option linter.unusedVariables false

/-- An assertion about some blocks. -/
structure Asr where
  foot : List Nat
  holds : Heap → Prop
  loc : ∀ {H H' : Heap}, (∀ i ∈ foot, H'.get i = H.get i) → holds H → holds H'

def feet (L : List Asr) : List Nat := L.flatMap Asr.foot

/-- All of them hold, of blocks that are there, each block in one of them alone. -/
structure Sep (H : Heap) (L : List Asr) : Prop where
  all : ∀ A ∈ L, A.holds H
  nd : (feet L).Nodup
  lt : ∀ i ∈ feet L, i < H.next

/-- One block. -/
def bx (i : Nat) (o : Obj) : Asr := ⟨[i], fun H => H.get i = some o, fun h k => by rw [h _ (by simp)]; exact k⟩
/-- Cells that may be written. -/
abbrev cl (i : Nat) (c : List Value) : Asr := bx i (.cells true 0 c)

/-- Several as one. -/
def many (L : List Asr) : Asr := ⟨feet L, fun H => ∀ A ∈ L, A.holds H, fun h k A hA => A.loc (fun i hi => h i (List.mem_flatMap.2 ⟨A, hA, hi⟩)) (k A hA)⟩

theorem feet_cons (A : Asr) (L : List Asr) : feet (A :: L) = A.foot ++ feet L := by simp [feet]
theorem feet_append (L M : List Asr) : feet (L ++ M) = feet L ++ feet M := by simp [feet]

variable {H H' : Heap} {L M : List Asr} {A B : Asr}

theorem Sep.nil : Sep H [] := ⟨by simp, by simp [feet], by simp [feet]⟩

theorem Sep.perm (h : Sep H L) (p : L.Perm M) : Sep H M := by
  refine ⟨fun A hA => h.all A (p.mem_iff.2 hA), ?_, fun i hi => h.lt i ?_⟩
  · exact (p.flatMap_right _).nodup_iff.1 h.nd
  · exact (p.flatMap_right Asr.foot).mem_iff.2 hi

theorem eraseIdx_perm : ∀ {L : List Asr} {k : Nat} {A : Asr}, L[k]? = some A → L.Perm (A :: L.eraseIdx k)
  | [], k, A, h => by simp at h
  | B :: L, 0, A, h => by simp at h; subst h; exact .refl _
  | B :: L, k + 1, A, h => by
    have ih := eraseIdx_perm (L := L) (k := k) (A := A) (by simpa using h)
    exact (ih.cons B).trans (List.Perm.swap A B _)

theorem set_perm : ∀ {L : List Asr} {k : Nat} {A : Asr}, k < L.length → (L.set k A).Perm (A :: L.eraseIdx k)
  | [], k, A, h => by simp at h
  | B :: L, 0, A, h => .refl _
  | B :: L, k + 1, A, h => by
    have ih := set_perm (L := L) (k := k) (A := A) (by simpa using h)
    exact (ih.cons B).trans (List.Perm.swap A B _)

/-- The k-th one ahead of the others. -/
theorem Sep.out (h : Sep H L) (k : Nat) (hk : L[k]? = some A) : Sep H (A :: L.eraseIdx k) := h.perm (eraseIdx_perm hk)
/-- Back to its place. -/
theorem Sep.back (k : Nat) (h : Sep H (A :: L.eraseIdx k)) (hk : k < L.length) : Sep H (L.set k A) := h.perm (set_perm hk).symm

theorem Sep.tail (h : Sep H (A :: L)) : Sep H L :=
  ⟨fun B hB => h.all B (List.mem_cons_of_mem _ hB), by have := h.nd; rw [feet_cons] at this; exact (List.nodup_append.1 this).2.1, fun i hi => h.lt i (by rw [feet_cons]; exact List.mem_append_right _ hi)⟩
theorem Sep.drop (h : Sep H L) (n : Nat) : Sep H (L.drop n) := by
  induction n generalizing L with
  | zero => exact h
  | succ n ih => cases L with
    | nil => exact h
    | cons A L => exact ih h.tail
theorem Sep.one (h : Sep H L) (k : Nat) (hk : L[k]? = some A) : A.holds H := h.all A (List.mem_of_getElem? hk)
theorem Sep.head (h : Sep H (A :: L)) : A.holds H := h.all A (by simp)
theorem Sep.footlt (h : Sep H (A :: L)) {i : Nat} (hi : i ∈ A.foot) : i < H.next := h.lt i (by rw [feet_cons]; exact List.mem_append_left _ hi)
theorem Sep.footnd (h : Sep H (A :: L)) : A.foot.Nodup := by have := h.nd; rw [feet_cons] at this; exact (List.nodup_append.1 this).1

theorem Sep.many_iff : Sep H (many L :: M) ↔ Sep H (L ++ M) := by
  have e : feet (many L :: M) = feet (L ++ M) := by rw [feet_cons, feet_append]; rfl
  constructor
  · intro h
    refine ⟨fun A hA => ?_, e ▸ h.nd, fun i hi => h.lt i (e ▸ hi)⟩
    rcases List.mem_append.1 hA with hA | hA
    · exact h.head A hA
    · exact h.all A (List.mem_cons_of_mem _ hA)
  · intro h
    refine ⟨fun A hA => ?_, e ▸ h.nd, fun i hi => h.lt i (e ▸ hi)⟩
    rcases List.mem_cons.1 hA with rfl | hA
    · exact fun B hB => h.all B (List.mem_append_left _ hB)
    · exact h.all A (List.mem_append_right _ hA)

/-- What a call may do: its own blocks change, or there are new ones. -/
theorem Sep.upd {S : List Nat} (h : Sep H (A :: L)) (fr : Frm S H H') (hS : ∀ j ∈ S, j ∈ A.foot ∨ H.next ≤ j) (hB : B.holds H') (hf : ∀ j ∈ B.foot, j ∈ A.foot ∨ H.next ≤ j) (hn : B.foot.Nodup) (hl : ∀ j ∈ B.foot, j < H'.next) : Sep H' (B :: L) := by
  have nd := h.nd
  rw [feet_cons] at nd
  have nd' := List.nodup_append.1 nd
  refine ⟨fun C hC => ?_, ?_, fun i hi => ?_⟩
  · rcases List.mem_cons.1 hC with rfl | hC
    · exact hB
    · refine C.loc (fun i hi => ?_) (h.all C (List.mem_cons_of_mem _ hC))
      have hi' : i ∈ feet L := List.mem_flatMap.2 ⟨C, hC, hi⟩
      have hlt := h.tail.lt i hi'
      refine fr.2 i hlt fun hs => ?_
      rcases hS i hs with h1 | h1
      · exact nd'.2.2 i h1 i hi' rfl
      · omega
  · rw [feet_cons]
    refine List.nodup_append.2 ⟨hn, nd'.2.1, fun a ha b hb e => ?_⟩
    subst e
    rcases hf a ha with h1 | h1
    · exact nd'.2.2 a h1 a hb rfl
    · have := h.tail.lt a hb; omega
  · rw [feet_cons] at hi
    rcases List.mem_append.1 hi with h1 | h1
    · exact hl i h1
    · exact Nat.lt_of_lt_of_le (h.tail.lt i h1) fr.1

/-- All stays. -/
theorem Sep.keep (h : Sep H L) (fr : Frm [] H H') : Sep H' L :=
  ⟨fun A hA => A.loc (fun i hi => fr.2 i (h.lt i (List.mem_flatMap.2 ⟨A, hA, hi⟩)) (by simp)) (h.all A hA), h.nd, fun i hi => Nat.lt_of_lt_of_le (h.lt i hi) fr.1⟩

theorem Sep.bump (h : Sep H L) (n : Nat) : Sep (H.bump n) L := h.keep ((Frm.refl _ _).bump n)

/-- What is new. -/
theorem Sep.new (h : Sep H L) (o : Obj) : Sep (H.new o) (bx H.next o :: L) := by
  refine ⟨fun A hA => ?_, ?_, fun i hi => ?_⟩
  · rcases List.mem_cons.1 hA with rfl | hA
    · exact get_new_self _ _
    · exact (h.keep ((Frm.refl _ _).new o)).all A hA
  · rw [feet_cons]
    refine List.nodup_append.2 ⟨by simp [bx], h.nd, fun a ha b hb e => ?_⟩
    simp only [bx, List.mem_singleton] at ha
    have := h.lt b hb
    omega
  · rw [feet_cons] at hi
    rcases List.mem_append.1 hi with h1 | h1
    · simp only [bx, List.mem_singleton] at h1
      rw [next_new]; omega
    · have := h.lt i h1
      rw [next_new]; omega

theorem Sep.nw {o : Obj} {K : Nat → Heap → Prop} (h : Sep H L) (k : ∀ i H', Sep H' (bx i o :: L) → K i H') : nwH H o K := k _ _ (h.new o)

/-- A block written. -/
theorem Sep.set0 {i : Nat} {o o' : Obj} (h : Sep H (bx i o :: L)) : Sep (H.set i o') (bx i o' :: L) := by
  refine h.upd (S := [i]) ((Frm.refl _ _).set _ (by simp)) (by simp [bx]) (get_set_self _ _ _) (by simp [bx]) (by simp [bx]) ?_
  intro j hj
  simp only [bx, List.mem_singleton] at hj
  subst hj
  exact h.footlt (by simp [bx])

theorem Sep.set {i : Nat} {o : Obj} (h : Sep H L) (k : Nat) (o' : Obj) (hk : L[k]? = some (bx i o)) : Sep (H.set i o') (L.set k (bx i o')) :=
  Sep.back k (h.out k hk).set0 (by have := List.getElem?_eq_some_iff.1 hk; exact this.1)

theorem Sep.get {i : Nat} {o : Obj} (h : Sep H L) (k : Nat) (hk : L[k]? = some (bx i o)) : H.get i = some o := h.one k hk
/-- A load. -/
theorem Sep.ld {i o z : Nat} {w : Bool} {c : List Value} {v : Value} (h : Sep H L) (k : Nat) (hk : L[k]? = some (bx i (.cells w z c))) (hv : c[o]? = some v) : H.cell i o = some v := by
  rw [cell_of (h.get k hk)]; exact hv
theorem Sep.lds {i o n z : Nat} {w : Bool} {c : List Value} {v : List Value} (h : Sep H L) (k : Nat) (hk : L[k]? = some (bx i (.cells w z c))) (hv : takeAt c o n = some v) : H.cellsAt i o n = some v := by
  rw [cellsAt_of (h.get k hk)]; exact hv
/-- A store. -/
theorem Sep.st {i o z : Nat} {c vs : List Value} {K : Heap → Prop} (h : Sep H L) (k : Nat) (hk : L[k]? = some (bx i (.cells true z c))) (hl : o + vs.length ≤ c.length)
    (r : ∀ H', Sep H' (L.set k (bx i (.cells true z (setAt c o vs)))) → K H') : stc H i o vs K := stc_of (h.get k hk) hl (r _ (h.set k _ hk))

/-- Blocks of two of them differ. -/
theorem Sep.ne {i j : Nat} (h : Sep H (A :: L)) (hi : i ∈ A.foot) (hj : j ∈ feet L) : i ≠ j := by
  have nd := h.nd
  rw [feet_cons] at nd
  exact (List.nodup_append.1 nd).2.2 i hi j hj
end Go.AS
