/-
  Maps with numbers as keys, as lists of pairs.
-/
import Derived.Test.YtlkmdcncpdadbaaAs45
namespace Go.AS
open Go.RowKit
set_option linter.unusedVariables false
variable {H H' : Heap} {L M : List Asr} {ik : IntKind} {b : Nat} {l : List (Int × Value)} {k : Int} {v : Value}

abbrev KV := List (Int × Value)
def alook : KV → Int → Option Value
  | [], _ => Option.none
  | (a, u) :: l, k => if a = k then Option.some u else alook l k
def aput : KV → Int → Value → KV
  | [], k, v => [(k, v)]
  | (a, u) :: l, k, v => if a = k then (k, v) :: l else (a, u) :: aput l k v
def adel : KV → Int → KV
  | [], _ => []
  | (a, u) :: l, k => if a = k then l else (a, u) :: adel l k

def kvs (es : List MapEntry) : List (Value × Value) := es.map fun e => (e.key, e.val)
def ivs (ik : IntKind) (l : KV) : List (Value × Value) := l.map fun p => (.int ik p.1, p.2)

/-- A map's block. -/
def im (ik : IntKind) (b : Nat) (l : KV) : Asr :=
  ⟨[b], fun H => ∃ es c, H.get b = Option.some (.map es c) ∧ kvs es = ivs ik l, fun h ⟨es, c, h1, h2⟩ => ⟨es, c, by rw [h _ (by simp)]; exact h1, h2⟩⟩

theorem find_kv (v : Value) : ∀ (es : List MapEntry) (l : KV) (i : Nat), kvs es = ivs ik l →
    ∃ r, Instr.findNow (.int ik) (.int ik k) es i = Option.some r ∧ (match r with
      | Option.none => alook l k = Option.none ∧ aput l k v = l ++ [(k, v)] ∧ adel l k = l
      | Option.some (n, u) => alook l k = Option.some u ∧ ∃ j, n = i + j ∧ kvs (es.modify j fun e => { e with key := .int ik k, val := v }) = ivs ik (aput l k v) ∧ kvs (es.eraseIdx j) = ivs ik (adel l k))
  | [], [], i, _ => ⟨Option.none, by simp [Instr.findNow], rfl, rfl, rfl⟩
  | [], _ :: _, i, h => by simp [kvs, ivs] at h
  | _ :: _, [], i, h => by simp [kvs, ivs] at h
  | e :: es, (a, u) :: l, i, h => by
    simp only [kvs, ivs, List.map_cons, List.cons.injEq, Prod.mk.injEq] at h
    obtain ⟨⟨h1, h2⟩, h3⟩ := h
    have es' : Instr.sameNow (.int ik) (.int ik k) e.key = Option.some (k == a) := by rw [h1]; simp [Instr.sameNow]
    simp only [Instr.findNow, es']
    by_cases hk : k = a
    · subst hk
      refine ⟨Option.some (i, e.val), by simp, ?_, 0, rfl, ?_, ?_⟩
      · simp [alook, h2]
      · simp only [List.modify_zero_cons, kvs, List.map_cons, aput, if_true, ivs, List.cons.injEq, true_and]; exact h3
      · simp only [List.eraseIdx_cons_zero, adel, if_true]; exact h3
    · have hb : (k == a) = false := by simpa using hk
      have ha : ¬ a = k := fun h => hk h.symm
      rw [hb]
      obtain ⟨r, r1, r2⟩ := find_kv v es l (i + 1) h3
      refine ⟨r, r1, ?_⟩
      cases r with
      | none =>
        obtain ⟨e1, e2, e3⟩ := r2
        simp only [alook, aput, adel, if_neg ha]
        exact ⟨e1, by rw [e2]; rfl, by rw [e3]⟩
      | some p =>
        obtain ⟨n, w⟩ := p
        obtain ⟨e1, j, e2, e3, e4⟩ := r2
        simp only [alook, aput, adel, if_neg ha]
        refine ⟨e1, j + 1, by omega, ?_, ?_⟩
        · simp only [List.modify_succ_cons, kvs, ivs, List.map_cons, List.cons.injEq, Prod.mk.injEq]
          exact ⟨⟨h1, h2⟩, e3⟩
        · simp only [List.eraseIdx_cons_succ, kvs, ivs, List.map_cons, List.cons.injEq, Prod.mk.injEq]
          exact ⟨⟨h1, h2⟩, e4⟩

theorem im_look (h : Sep H (im ik b l :: L)) (k : Int) {K : Option (Nat × Value) → Prop} (hK : ∀ r, r.map (·.2) = alook l k → K r) : ∃ r, mapGet H (.int ik) (Option.some b) (.int ik k) = Option.some r ∧ K r := by
  obtain ⟨es, c, h1, h2⟩ := h.head
  obtain ⟨r, r1, r2⟩ := find_kv (k := k) (.nilFunc) es l 0 h2
  refine ⟨r, ?_, hK r ?_⟩
  · simp only [mapGet, entriesOf, h1, Option.bind_some]
    exact r1
  · cases r with
    | none => exact r2.1.symm
    | some p => exact r2.1.symm

theorem im_set (h : Sep H (im ik b l :: L)) {l' : KV} {es : List MapEntry} {c : Nat} (he : kvs es = ivs ik l') : Sep (H.set b (.map es c)) (im ik b l' :: L) :=
  h.upd (S := [b]) ((Frm.refl _ _).set _ (by simp)) (by simp [im]) ⟨es, c, get_set_self _ _ _, he⟩ (by simp [im]) (by simp [im]) (by
    intro j hj
    simp only [im, List.mem_singleton] at hj
    subst hj
    exact h.footlt (by simp [im]))

theorem im_put (h : Sep H (im ik b l :: L)) {k : Int} {v : Value} {K : Heap → Prop} (hK : ∀ H', Sep H' (im ik b (aput l k v) :: L) → K H') : upM H (.int ik) (Option.some b) (.int ik k) v K := by
  obtain ⟨es, c, h1, h2⟩ := h.head
  obtain ⟨r, r1, r2⟩ := find_kv (k := k) v es l 0 h2
  refine ⟨b, es, c, r, rfl, h1, r1, hK _ ?_⟩
  cases r with
  | none =>
    refine im_set h ?_
    rw [r2.2.1]
    simp only [kvs, ivs, List.map_append, List.map_cons, List.map_nil]
    rw [show es.map (fun e => (e.key, e.val)) = l.map fun p => (Value.int ik p.1, p.2) from h2]
  | some p =>
    obtain ⟨n, u⟩ := p
    obtain ⟨_, j, rfl, e3, _⟩ := r2
    refine im_set h ?_
    rw [Nat.zero_add]
    exact e3

theorem im_del (h : Sep H (im ik b l :: L)) {k : Int} {K : Heap → Prop} (hK : ∀ H', Sep H' (im ik b (adel l k) :: L) → K H') : dlM H (.int ik) (Option.some b) (.int ik k) K := by
  obtain ⟨es, c, h1, h2⟩ := h.head
  obtain ⟨r, r1, r2⟩ := find_kv (k := k) (.nilFunc) es l 0 h2
  refine ⟨b, es, c, r, rfl, h1, r1, hK _ ?_⟩
  cases r with
  | none =>
    refine im_set h ?_
    rw [r2.2.2]
    exact h2
  | some p =>
    obtain ⟨n, u⟩ := p
    obtain ⟨_, j, rfl, _, e4⟩ := r2
    refine im_set h ?_
    rw [Nat.zero_add]
    exact e4

theorem im_len (h : Sep H (im ik b l :: L)) {K : Int → Prop} (hK : K l.length) : lnM H (Option.some b) K := by
  obtain ⟨es, c, h1, h2⟩ := h.head
  refine ⟨es, by simp only [entriesOf, h1], ?_⟩
  have := congrArg List.length h2
  simp only [kvs, ivs, List.length_map] at this
  rw [this]
  exact hK

theorem im_new (h : Sep H L) {K : Nat → Heap → Prop} (hK : ∀ b H', Sep H' (im ik b [] :: L) → K b H') : nwH H (.map [] 0) K := by
  refine Sep.nw h fun b H' h' => hK b H' ?_
  have h1 : H'.get b = Option.some (.map [] 0) := Sep.get0 h'
  exact h'.upd (S := []) (Frm.refl _ _) (by simp) ⟨[], 0, h1, rfl⟩ (by simp [im, bx]) (by simp [im]) (by
    intro j hj
    simp only [im, List.mem_singleton] at hj
    subst hj
    exact h'.footlt (by simp [bx]))
end Go.AS
