/-
  What is owned, in another order; parts of it.
-/
import Derived.Test.YtlkmdcncpdadbaaAs46
namespace Go.AS
open Go.RowKit
set_option linter.unusedVariables false
variable {H H' : Heap} {L M : List Asr}

theorem range_pick (l : List Asr) : ∀ n, (List.range n).filterMap (fun i => l[i]?) = l.take n
  | 0 => by simp
  | n + 1 => by
    rw [List.range_succ, List.filterMap_append, range_pick l n, List.take_add_one]
    cases h : l[n]? <;> simp [h]

theorem Sep.sub {l l' : List Asr} (hs : l'.Sublist l) : ∀ pre, Sep H (pre ++ l) → Sep H (pre ++ l') := by
  induction hs with
  | slnil => exact fun pre h => h
  | cons a _ ih => exact fun pre h => ih pre (Sep.tail (h.perm List.perm_middle))
  | cons_cons a _ ih =>
    intro pre h
    have := ih (pre ++ [a]) (by simpa using h)
    simpa using this

/-- Some of the first n, in this order. -/
theorem Sep.pick {l : List Asr} (h : Sep H l) (n : Nat) (p : List Nat) (hp : (p ++ (List.range n).filter fun i => !p.contains i).isPerm (List.range n) = true) : Sep H (p.filterMap (fun i => l[i]?) ++ l.drop n) := by
  have h1 := (List.isPerm_iff.1 hp).filterMap (fun i => l[i]?)
  rw [range_pick, List.filterMap_append] at h1
  have h2 : Sep H ((p.filterMap (fun i => l[i]?) ++ (((List.range n).filter fun i => !p.contains i).filterMap fun i => l[i]?)) ++ l.drop n) := by
    refine Sep.perm ?_ (h1.symm.append_right _)
    rw [List.take_append_drop]; exact h
  rw [List.append_assoc] at h2
  exact Sep.sub (List.sublist_append_right _ _) _ h2

theorem setAt_take' : ∀ (new tc : List Value) (len : Nat), len + new.length ≤ tc.length → (setAt tc len new).take (len + new.length) = tc.take len ++ new
  | [], tc, len, _ => by simp [setAt]
  | y :: new, tc, len, h => by
    simp only [List.length_cons] at h
    have := setAt_take' new (tc.set len y) (len + 1) (by simp; omega)
    simp only [setAt, List.length_cons]
    rw [show len + (new.length + 1) = len + 1 + new.length by omega, this, List.take_add_one, List.getElem?_set_self (by omega), List.take_set_of_le (by omega)]
    simp
theorem setAt_drop' : ∀ (new tc : List Value) (len p : Nat), len + new.length ≤ p → (setAt tc len new).drop p = tc.drop p
  | [], tc, len, p, _ => by simp [setAt]
  | y :: new, tc, len, p, h => by
    simp only [List.length_cons] at h
    simp only [setAt]
    rw [setAt_drop' new _ (len + 1) p (by omega), List.drop_set_of_lt (by omega)]
theorem setAt_take0 : ∀ (new tc : List Value) (len p : Nat), p ≤ len → (setAt tc len new).take p = tc.take p
  | [], tc, len, p, _ => by simp [setAt]
  | y :: new, tc, len, p, h => by
    simp only [setAt]
    rw [setAt_take0 new _ (len + 1) p (by omega), List.take_set_of_le (by omega)]

/-- An append to a slice that ends ahead of its block's end, or at it; or to none. -/
theorem apd_pre' {b : Option Nat} {es len n bytes : Nat} {tc new : List Value} {K : Option Addr → Nat → Heap → Prop} (h : Sep H (gl es b tc :: L)) (hb : b = none → len = 0) (hes : 0 < es) (hlen : len * es ≤ tc.length) (hn : 0 < n) (hnew : new.length = n * es) (hby : (len + n) * bytes ≤ 140737488355328)
    (k : ∀ H' b' tc', tc'.take ((len + n) * es) = tc.take (len * es) ++ new → (len + n) * es ≤ tc'.length → Sep H' (gl es (some b') tc' :: L) → K (some ⟨b', 0, none⟩) (len + n) H') : apd H bytes es (addr b) len n new K := by
  have hmul : (len + n) * es = len * es + n * es := Nat.add_mul _ _ _
  cases b with
  | none =>
    have h0 := hb rfl
    subst h0
    rw [Nat.zero_add] at hby
    refine apd_first hn hby fun j H2 ej e2 => ?_
    have := k H2 j new (by rw [Nat.zero_mul, List.take_zero, List.nil_append, hmul, Nat.zero_mul, Nat.zero_add, ← hnew, List.take_length]) (by rw [hmul, hnew]; omega)
    rw [Nat.zero_add] at this
    refine this (gl_some.2 ?_)
    subst ej e2
    exact (gl_none.1 h).new _
  | some b =>
    have h1 := gl_some.1 h
    rcases Nat.lt_or_ge tc.length (0 + (len + n) * es) with hc | hc
    · refine apd_grow (old := tc.take (len * es)) (Sep.get0 h1) hn hc ?_ hby fun j H' ej eH => k H' j (tc.take (len * es) ++ new) ?_ ?_ (gl_some.2 ?_)
      · unfold takeAt; rw [if_pos (by omega), List.drop_zero]
      · rw [List.take_of_length_le (by rw [List.length_append, List.length_take, hnew, hmul]; omega)]
      · rw [List.length_append, List.length_take, hnew, hmul]; omega
      · have h2 := (Sep.put0 h1 .dead).new (.cells true es (tc.take (len * es) ++ new))
        rw [← eH, next_set, ← ej] at h2
        exact Sep.rm1 h2
    · refine .inr ⟨hn, .inr ⟨b, 0, tc, rfl, Sep.get0 h1, .inl ⟨hc, ?_⟩⟩⟩
      have hst : stc H b (0 + len * es) new (fun H' => K (some ⟨b, 0, none⟩) (len + n) H') := by
        refine Sep.st0 h1 (by rw [hnew]; omega) fun H' h' => k H' b _ ?_ ?_ (gl_some.2 h')
        · rw [hmul, ← hnew, Nat.zero_add]
          exact setAt_take' _ _ _ (by omega)
        · rw [setAt_length]; omega
      exact stc_ok hst
end Go.AS
