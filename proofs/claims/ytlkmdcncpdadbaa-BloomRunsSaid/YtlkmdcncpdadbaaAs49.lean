/-
  What was there at the outset stays: arguments of any depth, read for ever.
-/
import Derived.Test.YtlkmdcncpdadbaaAs48
namespace Go.AS
open Go.RowKit
set_option linter.unusedVariables false
variable {H H' H0 : Heap} {L M : List Asr}

/-- All blocks that a memory had are as they were. -/
def old (H0 : Heap) : Asr := ⟨List.range H0.next, fun H => ∀ i, i < H0.next → H.get i = H0.get i, fun h k i hi => by rw [h i (List.mem_range.2 hi)]; exact k i hi⟩

theorem Sep.start (H0 : Heap) : Sep H0 [old H0] := by
  refine ⟨fun A hA => ?_, ?_, fun i hi => ?_⟩
  · obtain rfl := List.mem_singleton.1 hA
    exact fun i _ => rfl
  · have : feet [old H0] = List.range H0.next := by simp [feet, old]
    rw [this]; exact List.nodup_range
  · have : feet [old H0] = List.range H0.next := by simp [feet, old]
    rw [this] at hi
    exact List.mem_range.1 hi
theorem old_get {i : Nat} {o : Obj} (h : Sep H L) (hm : old H0 ∈ L) (hi : i < H0.next) (hg : H0.get i = some o) : H.get i = some o := by
  rw [h.all _ hm i hi, hg]

/-- A slice of the outset, of rows. -/
structure OldS (H0 : Heap) (a : Option Addr) (n : Nat) (css : List (List Value)) : Prop where
  len : n = css.length
  ex : css = [] ∧ a = none ∨ ∃ i, a = some ⟨i, 0, none⟩ ∧ i < H0.next ∧ H0.get i = some (.cells false 0 css.flatten)

theorem OldS.of {v : Value} {P : List Value → Prop} (h : [v] = [.slice none 0 0] ∨ ∃ (i : Nat) (cs : List (List Value)), [v] = [.slice (some ⟨i, 0, none⟩) cs.length 0] ∧ i < H0.next ∧ H0.get i = some (.cells false 0 cs.flatten) ∧ ∀ c ∈ cs, P c) :
    ∃ a n css, v = .slice a n 0 ∧ OldS H0 a n css ∧ ∀ c ∈ css, P c := by
  rcases h with h | ⟨i, cs, h, h1, h2, h3⟩
  · exact ⟨none, 0, [], (List.cons.inj h).1, ⟨rfl, .inl ⟨rfl, rfl⟩⟩, by simp⟩
  · exact ⟨_, _, cs, (List.cons.inj h).1, ⟨rfl, .inr ⟨i, rfl, h1, h2⟩⟩, h3⟩

theorem OldS.row {a : Option Addr} {n w : Nat} {css : List (List Value)} (o : OldS H0 a n css) (h : Sep H L) (hm : old H0 ∈ L) (hw : ∀ c ∈ css, c.length = w) {j : Nat} {r : List Value} (hj : css[j]? = some r) :
    ∃ i, a = some ⟨i, 0, none⟩ ∧ H.cellsAt i (0 + j * w) w = some r ∧ ∀ k v, r[k]? = some v → H.cell i (0 + j * w + k) = some v := by
  obtain ⟨hl, hg⟩ := List.getElem?_eq_some_iff.1 hj
  rcases o.ex with ⟨e, _⟩ | ⟨i, rfl, h1, h2⟩
  · rw [e] at hl; simp at hl
  · have h3 := old_get h hm h1 h2
    refine ⟨i, rfl, ?_, fun k v hk => ?_⟩
    · rw [cellsAt_of h3, Nat.zero_add, rowsFlat_takeAt hw hl, hg]
    · have hkl : k < w := by
        have := (List.getElem?_eq_some_iff.1 hk).1
        rw [← hg, hw _ (List.getElem_mem hl)] at this
        exact this
      rw [cell_of h3, Nat.zero_add, rowsFlat_cell hw hl hkl, hg, hk]
theorem OldS.cell0 {a : Option Addr} {n w : Nat} {css : List (List Value)} (o : OldS H0 a n css) (h : Sep H L) (hm : old H0 ∈ L) (hw : ∀ c ∈ css, c.length = w) {j : Nat} {r : List Value} (hj : css[j]? = some r) {v : Value} (hv : r[0]? = some v) :
    ∃ i, a = some ⟨i, 0, none⟩ ∧ H.cell i (0 + j * w) = some v := by
  obtain ⟨i, e, _, h2⟩ := o.row h hm hw hj
  exact ⟨i, e, h2 0 v hv⟩
end Go.AS
