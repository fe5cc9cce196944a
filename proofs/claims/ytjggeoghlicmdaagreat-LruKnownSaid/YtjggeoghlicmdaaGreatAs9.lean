/-
  The plain machine's regions are the model's: those that draw their order, in whatever order.
-/
import Derived.Test.YtjggeoghlicmdaaGreatAs8
namespace Go.AS
open Go.RowKit
set_option linter.unusedVariables false

section
variable {E : Env} {bm : Bool}

/-- What the last one that is listed wrote to t (the rows: the latest first). -/
def lastW (L : Nat → Bool) (t : Nat) : List DR → Option Value
  | [] => none
  | r :: rest => if L r.i = true ∧ r.o.dst = some t then some r.v else lastW L t rest

/-- The frame when those of L have been carried out. -/
noncomputable def TL (T0 : Tr Value) (L : Nat → Bool) : List DR → Tr Value
  | [] => T0
  | r :: rest => bif L r.i then putT (TL T0 L rest) r.o.dst r.v else TL T0 L rest

theorem TL_get (T0 : Tr Value) (L : Nat → Bool) (t : Nat) : ∀ rs, (TL T0 L rs).get t = (T0.get t).map fun v => (lastW L t rs).getD v
  | [] => by simp [TL, lastW]
  | r :: rest => by
    simp only [TL, lastW]
    cases hL : L r.i with
    | false => simp [TL_get T0 L t rest]
    | true =>
      cases hd : r.o.dst with
      | none => simp [putT, TL_get T0 L t rest]
      | some d =>
        simp only [cond_true, putT, Tr.get_upd, TL_get T0 L t rest]
        by_cases e : t = d
        · subst e; simp; cases T0.get t <;> rfl
        · rw [if_neg e, if_neg (by simp; exact fun h => e h.symm)]

theorem lastW_congr {L L' : Nat → Bool} {t : Nat} : ∀ {rs : List DR}, (∀ r ∈ rs, r.o.dst = some t → L r.i = L' r.i) → lastW L t rs = lastW L' t rs
  | [], _ => rfl
  | r :: rest, h => by
    simp only [lastW]
    rw [lastW_congr fun q hq => h q (by simp [hq])]
    by_cases hd : r.o.dst = some t
    · rw [h r (by simp) hd]
    · rw [if_neg (by simp [hd]), if_neg (by simp [hd])]

theorem lastW_skip {L : Nat → Bool} {t : Nat} {r : DR} {rs : List DR} (h : L r.i = false) : lastW L t (r :: rs) = lastW L t rs := by simp [lastW, h]

structure Fact (bm : Bool) (E : Env) (sem : FSem) (ops : Array Oper) (base : Nat) (T0 : Tr Value) (rs : List DR) (hs : List Heap) (r : DR) : Prop where
  op : ops[r.i]? = some r.o
  temps : ∀ t, r.T.get t = (TL T0 (fun x => decide (x < r.i)) rs).get t
  want : wantedA ops r.T r.o = some r.w
  idle : r.w = false → r.v = undef
  does : r.w = true → ∃ H1 H2, hs[r.k]? = some H1 ∧ resA sem (aopD bm E base r.i (ev E r.T) r.o.op H1) H1 = some (r.v, H2) ∧ (isLoudD bm r.o.op = true → hs[r.k + 1]? = some H2)
  cnt : r.k = countLoud bm (fun q => decide (q.i < r.i)) rs

structure PInv (bm : Bool) (E : Env) (sem : FSem) (ops : Array Oper) (base : Nat) (T0 : Tr Value) (H0 : Heap) (i : Nat) (T : Tr Value) (H : Heap) (k : Nat) (rs : List DR) (hs : List Heap) : Prop where
  idx : rs.map DR.i = (List.range i).reverse
  facts : ∀ r ∈ rs, Fact bm E sem ops base T0 rs hs r
  temps : ∀ t, T.get t = (TL T0 (fun _ => true) rs).get t
  hlen : hs.length = k + 1
  cur : hs[k]? = some H
  cnt : k = countLoud bm (fun _ => true) rs
  first : hs[0]? = some H0

theorem countLoud_congr {p q : DR → Bool} : ∀ {rs : List DR}, (∀ r ∈ rs, r.loud bm = true → p r = q r) → countLoud bm p rs = countLoud bm q rs
  | [], _ => rfl
  | r :: rest, h => by
    have ih := countLoud_congr (rs := rest) fun x hx => h x (List.mem_cons_of_mem _ hx)
    have := h r (by simp)
    simp only [countLoud, ih]
    cases hl : r.loud bm with
    | false => simp
    | true => rw [this hl]

theorem countLoud_le {p q : DR → Bool} : ∀ {rs : List DR}, (∀ r ∈ rs, r.loud bm = true → p r = true → q r = true) → countLoud bm p rs ≤ countLoud bm q rs
  | [], _ => Nat.le_refl _
  | r :: rest, h => by
    have ih := countLoud_le (rs := rest) fun x hx => h x (List.mem_cons_of_mem _ hx)
    have := h r (by simp)
    simp only [countLoud]
    cases hl : r.loud bm <;> cases hp : p r <;> cases hq : q r <;> simp_all <;> omega

theorem countLoud_add {p q : DR → Bool} : ∀ {rs : List DR}, (∀ r ∈ rs, r.loud bm = true → ¬ (p r = true ∧ q r = true)) → countLoud bm p rs + countLoud bm q rs ≤ countLoud bm (fun _ => true) rs
  | [], _ => Nat.le_refl _
  | r :: rest, h => by
    have ih := countLoud_add (rs := rest) fun x hx => h x (List.mem_cons_of_mem _ hx)
    have := h r (by simp)
    simp only [countLoud]
    cases hl : r.loud bm <;> cases hp : p r <;> cases hq : q r <;> simp_all <;> omega

/-- One row more. -/
theorem PInv.step {sem : FSem} {ops : Array Oper} {base : Nat} {T0 : Tr Value} {H0 : Heap} {i : Nat} {T : Tr Value} {H : Heap} {k : Nat} {rs : List DR} {hs : List Heap} (h : PInv bm E sem ops base T0 H0 i T H k rs hs)
    {o : Oper} (ho : ops[i]? = some o) {b : Bool} (hw : wantedA ops T o = some b) {v : Value} {H' : Heap} {hs' : List Heap} {k' : Nat}
    (hidle : b = false → v = undef) (hdo : b = true → ∃ H2, resA sem (aopD bm E base i (ev E T) o.op H) H = some (v, H2) ∧ (isLoudD bm o.op = true → H2 = H'))
    (hhs : (b = true ∧ isLoudD bm o.op = true ∧ hs' = hs ++ [H'] ∧ k' = k + 1) ∨ ((b = false ∨ isLoudD bm o.op = false) ∧ hs' = hs ∧ k' = k ∧ H' = H)) :
    PInv bm E sem ops base T0 H0 (i + 1) (putT T o.dst v) H' k' (⟨i, o, b, T, v, k⟩ :: rs) hs' := by
  have hmem : ∀ r ∈ rs, r.i < i := by
    intro r hr
    have : r.i ∈ rs.map DR.i := List.mem_map_of_mem hr
    rw [h.idx] at this
    simpa using this
  have hpre : ∀ (n : Nat) (x : Heap), hs[n]? = some x → hs'[n]? = some x := by
    intro n x hx
    have hn : n < hs.length := by
      rcases Nat.lt_or_ge n hs.length with h | h
      · exact h
      · rw [List.getElem?_eq_none h] at hx; cases hx
    rcases hhs with ⟨_, _, e, _⟩ | ⟨_, e, _⟩
    · rw [e, List.getElem?_append_left hn]; exact hx
    · rw [e]; exact hx
  have hTLold : ∀ (j : Nat), j ≤ i → ∀ t, (TL T0 (fun x => decide (x < j)) (⟨i, o, b, T, v, k⟩ :: rs)).get t = (TL T0 (fun x => decide (x < j)) rs).get t := by
    intro j hj t
    simp only [TL]
    rw [show decide (i < j) = false from by simp; omega]
    rfl
  have hcntold : ∀ (j : Nat), j ≤ i → countLoud bm (fun q => decide (q.i < j)) (⟨i, o, b, T, v, k⟩ :: rs) = countLoud bm (fun q => decide (q.i < j)) rs := by
    intro j hj
    simp only [countLoud]
    rw [show decide (i < j) = false from by simp; omega]
    simp
  refine ⟨?_, ?_, ?_, ?_, ?_, ?_, ?_⟩
  · simp only [List.map_cons, h.idx, List.range_succ, List.reverse_append, List.reverse_cons, List.reverse_nil, List.nil_append, List.cons_append]
  · intro r hr
    rcases List.mem_cons.1 hr with rfl | hr
    · refine ⟨ho, fun t => ?_, hw, hidle, fun hb => ?_, ?_⟩
      · rw [hTLold i (Nat.le_refl _) t, h.temps t]
        have e1 := TL_get T0 (fun _ => true) t rs
        have e2 := TL_get T0 (fun x => decide (x < i)) t rs
        rw [e1, e2, lastW_congr (L := fun _ => true) (L' := fun x => decide (x < i)) fun q hq _ => by simp [hmem q hq]]
      · obtain ⟨H2, q1, q2⟩ := hdo hb
        refine ⟨H, H2, hpre _ _ h.cur, q1, fun hl => ?_⟩
        rw [q2 hl]
        rcases hhs with ⟨_, _, e, _⟩ | ⟨hor, _⟩
        · rw [e, List.getElem?_append_right (by simp only; rw [h.hlen]; exact Nat.le_refl _), h.hlen]; simp
        · rcases hor with hor | hor
          · simp only at hb; rw [hor] at hb; cases hb
          · rw [hor] at hl; cases hl
      · rw [hcntold i (Nat.le_refl _)]
        rw [h.cnt]
        exact countLoud_congr fun q hq _ => by simp [hmem q hq]
    · have f := h.facts r hr
      have hri := hmem r hr
      refine ⟨f.op, fun t => ?_, f.want, f.idle, fun hb => ?_, ?_⟩
      · rw [hTLold r.i (by omega) t]; exact f.temps t
      · obtain ⟨H1, H2, q1, q2, q3⟩ := f.does hb
        exact ⟨H1, H2, hpre _ _ q1, q2, fun hl => hpre _ _ (q3 hl)⟩
      · rw [hcntold r.i (by omega)]; exact f.cnt
  · intro t
    simp only [TL, cond_true]
    cases hd : o.dst with
    | none => exact h.temps t
    | some d => simp only [putT, Tr.get_upd, h.temps t]
  · rcases hhs with ⟨_, _, e, e2⟩ | ⟨_, e, e2, _⟩
    · rw [e, e2]; simp [h.hlen]
    · rw [e, e2]; exact h.hlen
  · rcases hhs with ⟨_, _, e, e2⟩ | ⟨_, e, e2, e3⟩
    · rw [e, e2, List.getElem?_append_right (by rw [h.hlen]; exact Nat.le_refl _), h.hlen]; simp
    · rw [e, e2, e3]; exact h.cur
  · simp only [countLoud, DR.loud, Bool.and_true, ← h.cnt]
    rcases hhs with ⟨e1, e2, _, e3⟩ | ⟨hor, _, e3, _⟩
    · rw [e1, e2, e3]; rfl
    · rw [e3]
      rcases hor with hor | hor <;> rw [hor] <;> simp
  · exact hpre 0 H0 h.first

theorem pass1_ok {sem : FSem} {ops : Array Oper} {base : Nat} {T0 : Tr Value} {H0 : Heap} : ∀ (l : List Oper) (i : Nat) (T : Tr Value) (H : Heap) (k : Nat) (rs : List DR) (hs : List Heap) (rs' : List DR) (T' : Tr Value) (hs' : List Heap) (H' : Heap),
    pass1 bm E sem ops base l i T H k rs hs = some (rs', T', hs', H') → (∀ j, l[j]? = ops[i + j]?) → PInv bm E sem ops base T0 H0 i T H k rs hs → ∃ k', PInv bm E sem ops base T0 H0 (i + l.length) T' H' k' rs' hs'
  | [], i, T, H, k, rs, hs, rs', T', hs', H', h, _, hI => by
    simp only [pass1, Option.some.injEq, Prod.mk.injEq] at h
    obtain ⟨rfl, rfl, rfl, rfl⟩ := h
    exact ⟨k, hI⟩
  | o :: l, i, T, H, k, rs, hs, rs', T', hs', H', h, hl, hI => by
    have ho : ops[i]? = some o := by have := hl 0; simpa using this.symm
    have hl' : ∀ j, l[j]? = ops[i + 1 + j]? := fun j => by have := hl (j + 1); rw [show i + 1 + j = i + (j + 1) from by omega]; simpa using this
    have hlen : i + (o :: l).length = i + 1 + l.length := by simp; omega
    simp only [pass1] at h
    rw [hlen]
    cases hw : wantedA ops T o with
    | none => rw [hw] at h; cases h
    | some b =>
      rw [hw] at h
      cases b with
      | false => exact pass1_ok l _ _ _ _ _ _ _ _ _ _ h hl' (hI.step ho hw (fun _ => rfl) (fun e => by cases e) (.inr ⟨.inl rfl, rfl, rfl, rfl⟩))
      | true =>
        simp only at h
        cases hr : resA sem (aopD bm E base i (ev E T) o.op H) H with
        | none => rw [hr] at h; cases h
        | some p =>
          obtain ⟨v, H2⟩ := p
          rw [hr] at h
          simp only at h
          cases hld : isLoudD bm o.op with
          | true =>
            rw [hld] at h
            exact pass1_ok l _ _ _ _ _ _ _ _ _ _ h hl' (hI.step ho hw (fun e => by cases e) (fun _ => ⟨H2, hr, fun _ => rfl⟩) (.inl ⟨rfl, hld, rfl, rfl⟩))
          | false =>
            rw [hld] at h
            exact pass1_ok l _ _ _ _ _ _ _ _ _ _ h hl' (hI.step ho hw (fun e => by cases e) (fun _ => ⟨H2, hr, fun e => by rw [hld] at e; cases e⟩) (.inr ⟨.inr hld, rfl, rfl, rfl⟩))

def Lf (listed : Array Bool) (j : Nat) : Bool := listed.getD j false

theorem Lf_set {listed : Array Bool} {i : Nat} (hi : i < listed.size) (j : Nat) : Lf (listed.setIfInBounds i true) j = (Lf listed j || decide (j = i)) := by
  unfold Lf
  rw [Array.getD_eq_getD_getElem?, Array.getD_eq_getD_getElem?, Array.getElem?_setIfInBounds]
  by_cases e : i = j
  · subst e; simp [hi]
  · rw [if_neg e]; simp [show ¬ j = i from fun h => e h.symm]

theorem ready_spec {ops : Array Oper} {listed : Array Bool} {i : Nat} (h : i ∈ Region.ready .any ops listed) : ∃ o, ops[i]? = some o ∧ (i < listed.size → Lf listed i = false) ∧ i < ops.size ∧ ∀ e ∈ o.after.toList, binding e = true → Lf listed e.on = true := by
  unfold Region.ready at h
  simp only [List.mem_filter, List.mem_range, Bool.and_eq_true] at h
  obtain ⟨hi, h1, h2⟩ := h
  rw [Array.getElem?_eq_getElem hi] at h2 ⊢
  refine ⟨ops[i], rfl, fun hl => ?_, hi, fun e he hb => ?_⟩
  · unfold Lf
    rw [Array.getD_eq_getD_getElem?, Array.getElem?_eq_getElem hl] at *
    simpa using h1
  · simp only [Option.map_some, Option.getD_some] at h2
    rw [← Array.all_toList, List.all_eq_true] at h2
    have := h2 e he
    simp only [Bool.or_eq_true, Bool.not_eq_true'] at this
    rcases this with h | h
    · unfold binding at hb; rw [h] at hb; cases hb
    · exact h

theorem ready_of {ops : Array Oper} {listed : Array Bool} {i : Nat} {o : Oper} (ho : ops[i]? = some o) (hs : listed.size = ops.size) (hl : Lf listed i = false) (he : ∀ e ∈ o.after.toList, binding e = true → Lf listed e.on = true) :
    i ∈ Region.ready .any ops listed := by
  have hi : i < ops.size := by
    rcases Nat.lt_or_ge i ops.size with h | h
    · exact h
    · rw [Array.getElem?_eq_none h] at ho; cases ho
  unfold Region.ready
  simp only [List.mem_filter, List.mem_range, Bool.and_eq_true]
  refine ⟨hi, ?_, ?_⟩
  · unfold Lf at hl
    rw [Array.getD_eq_getD_getElem?, Array.getElem?_eq_getElem (by omega)] at *
    simpa using hl
  · rw [ho]
    simp only [Option.map_some, Option.getD_some]
    rw [← Array.all_toList, List.all_eq_true]
    intro e hee
    cases hb : Region.binds .any e with
    | false => rfl
    | true => exact he e hee hb

theorem quiet_spec {base : Nat} {ss : List Bool} {ms : List Nat} {all : List DR} {hs : List Heap} {m : Nat} : ∀ {l : List DR}, quietOk bm E base ss ms all hs m l = true → ∀ r ∈ l, r.w = true → isLoudD bm r.o.op = false → isPure r.o.op = false → (ss.getD r.i false && !isBirth bm r.o.op) = false →
    ∀ k, countLoud bm (fun q => (ms.getD r.i 0).testBit q.i) all ≤ k → k ≤ m - countLoud bm (fun q => (ms.getD q.i 0).testBit r.i) all →
      ∃ H, hs[k]? = some H ∧ looksAt bm E base r H = true
  | [], _, r, hr, _, _, _, _, _, _, _ => by simp at hr
  | q :: l, h, r, hr, hw, hl, hp, hss, k, h1, h2 => by
    simp only [quietOk, Bool.and_eq_true] at h
    rcases List.mem_cons.1 hr with rfl | hr
    · have h3 := h.1
      simp only [hw, hl, hp, hss, Bool.not_true, Bool.false_or, Bool.or_false] at h3
      have key : ∀ (n k0 : Nat), checkAt bm E base r hs k0 n = true → k0 ≤ k → k < k0 + n → ∃ H, hs[k]? = some H ∧ looksAt bm E base r H = true := by
        intro n
        induction n with
        | zero => intro k0 _ a b; omega
        | succ n ih =>
          intro k0 hc a b
          simp only [checkAt, Bool.and_eq_true] at hc
          by_cases e : k0 = k
          · subst e
            have h5 := hc.1
            split at h5
            · rename_i H hH
              exact ⟨H, hH, h5⟩
            · cases h5
          · exact ih (k0 + 1) hc.2 (by omega) (by omega)
      exact key _ _ h3 h1 (by omega)
    · exact quiet_spec h.2 r hr hw hl hp hss k h1 h2

theorem stricts_spec {ops : Array Oper} {ms : List Nat} {j : Nat} (h : (stricts bm ops ms).getD j false = true) {i : Nat} {o : Oper} (hi : ops[i]? = some o) (hne : i ≠ j) (hl : isLoudD bm o.op = true) :
    (ms.getD j 0).testBit i = true ∨ (ms.getD i 0).testBit j = true := by
  unfold stricts at h
  rw [List.getD_eq_getElem?_getD, List.getElem?_map] at h
  cases hr : (List.range ops.size)[j]? with
  | none => rw [hr] at h; cases h
  | some k =>
    rw [hr] at h
    have hk : k = j := by
      rw [List.getElem?_range (by
        rcases Nat.lt_or_ge j ops.size with h' | h'
        · exact h'
        · rw [List.getElem?_eq_none (by simpa using h')] at hr; cases hr)] at hr
      injection hr with hr; exact hr.symm
    subst hk
    simp only [Option.map_some, Option.getD_some, strictAt, List.all_eq_true] at h
    have hm : (o, i) ∈ ops.toList.zipIdx := by
      rw [List.mem_zipIdx_iff_getElem?]
      simpa using hi
    have := h _ hm
    simp only [hl, Bool.not_true, Bool.or_false, Bool.or_eq_true] at this
    rcases this with (h1 | h1) | h1
    · exact absurd (Nat.eq_of_beq_eq_true h1) hne
    · exact .inl h1
    · exact .inr h1

/-- What is seen of an operation that makes nothing ahead. -/
theorem looks_value {base : Nat} {r : DR} {H : Heap} (hn : isBirth bm r.o.op = false) (h : looksAt bm E base r H = true) : ∃ v H2, aop E (ev E r.T) r.o.op H = some (.val v H2) ∧ sameN 8 r.v v = true := by
  unfold looksAt at h
  split at h
  · rename_i ty hop; rw [hop] at hn; simp [isBirth] at hn
  · rw [hn] at h
    simp only [cond_false] at h
    split at h
    · rename_i v H2 hv; exact ⟨v, H2, hv, h⟩
    · cases h

theorem sameObj_eq {o o' : Obj} (h : sameObj o o' = true) : o = o' := by
  unfold sameObj at h
  split at h
  · simp only [Bool.and_eq_true] at h
    rw [Nat.eq_of_beq_eq_true h.1, sameL_eq 8 (sameN_eq 8) _ _ h.2]
  · rfl
  · cases h

theorem heap1_get0 (o : Obj) : (heap1.new o).get 0 = some o := by
  unfold Heap.get Heap.new heap1
  rw [Tr.get_put, if_pos rfl]

theorem born_alloc {e : Operand → Value} {ty : TypeId} {z : Value} {vs : List Value} (hz : zeroV E ty = some z) (hc : cellsOf z = some vs) : bornA E e (.alloc ty) = some (.pointer (some ⟨0, 0, none⟩), .cells true 0 vs) := by
  simp only [bornA, aop, hz, Option.bind_some, newVal, hc, Option.map_some, rvh, heap1_get0]
  rfl

theorem looks_birth {base : Nat} {r : DR} {H : Heap} (hb : isBirth bm r.o.op = true) (h : looksAt bm E base r H = true) :
    ∃ v o, bornA E (ev E r.T) r.o.op = some (v, o) ∧ H.get (base + r.i) = some o := by
  unfold looksAt at h
  split at h
  · rename_i ty hop
    cases hz : zeroV E ty with
    | none => rw [hz] at h; simp at h
    | some z =>
      rw [hz] at h
      simp only [Option.bind_some] at h
      cases hc : cellsOf z with
      | none => rw [hc] at h; simp at h
      | some vs =>
        rw [hc] at h
        split at h
        · rename_i a b c e1 e2
          injection e1 with e1; subst e1
          have e3 := sameL_eq 8 (sameN_eq 8) _ _ h
          subst e3
          rw [hop]
          exact ⟨_, _, born_alloc hz hc, e2⟩
        · cases h
  · rw [hb] at h
    simp only [cond_true] at h
    split at h
    · rename_i p o h1 h2
      rw [← sameObj_eq h] at h2
      exact ⟨p.1, p.2, h1, h2⟩
    · cases h

/-- The blocks ahead of the region's new variables: nothing that was has turned. -/
theorem preA_get (base : Nat) : ∀ (l : List Oper) (i : Nat) (os : List Obj) (t t' : Tr Obj), preA bm E base l i os t = some t' → ∀ j, j < base → t'.get j = t.get j
  | [], i, os, t, t', h, j, hj => by simp only [preA, Option.some.injEq] at h; rw [h]
  | o :: l, i, os, t, t', h, j, hj => by
    unfold preA at h
    split at h
    · split at h
      · rw [preA_get base l _ _ _ _ h j hj, Tr.get_put, if_neg (by omega)]
      · cases h
    · cases hb : isBirth bm o.op with
      | false => rw [hb] at h; exact preA_get base l _ _ _ _ h j hj
      | true =>
        rw [hb] at h
        simp only [cond_true] at h
        cases os with
        | nil => cases h
        | cons ob os => rw [preA_get base l _ _ _ _ h j hj, Tr.get_put, if_neg (by omega)]

theorem HRel.pre {B0 : Nat} {μ : Inj} {H : Heap} {w : World} (h : HRel E B0 μ H w) {t : Tr Obj} (n : Nat) (hg : ∀ j, j < H.next → t.get j = H.get j) : HRel E B0 μ ⟨t, H.next + n⟩ w := by
  have hlt : ∀ i L, μ i = some L → i < H.next := by
    intro i L hL
    rcases Nat.lt_or_ge i H.next with h1 | h1
    · exact h1
    · rw [h.fresh i h1] at hL; cases hL
  refine ⟨fun i hi => h.fresh i (by simp only at hi; omega), h.glob, ?_, ?_, h.base⟩
  · intro i o ho ⟨L, hL⟩
    have : t.get i = some o := ho
    rw [hg i (hlt i L hL)] at this
    exact h.obj i o this ⟨L, hL⟩
  · intro i j oi oj Li Lj hi hj wi wj mi mj hb
    have h1 : t.get i = some oi := hi
    have h2 : t.get j = some oj := hj
    rw [hg i (hlt i Li mi)] at h1
    rw [hg j (hlt j Lj mj)] at h2
    exact h.apart i j oi oj Li Lj h1 h2 wi wj mi mj hb

/-- Cells of the model's that nothing owns yet are taken under a number that was ahead. -/
theorem HRel.takeCells {B0 : Nat} {μ : Inj} {H : Heap} {w : World} (hH : HRel E B0 μ H w) {d z : Nat} {c : List Value} (hd : μ d = none) (hdn : d < H.next) (hg : H.get d = some (.cells true z c)) (room : Nat) (C : Array Value) (el : TypeId)
    (hc : cellsRel μ c C 0) (h1 : c.length ≤ room) (h2 : room ≤ C.size) (hone : c.all one = true) :
    HRel E B0 (μ.add d ⟨w.heap.size, 0, room, z⟩) H (w.alloc (.cells C el)) ∧ Below B0 w (w.alloc (.cells C el)) := by
  refine ⟨(hH.alloc _).adoptAt d _ (.cells true z c) hd (fun j => ?_) (Nat.le_refl _) hdn ?_ ?_, (Below.refl _ _).alloc hH.base _⟩
  · split
    · subst_vars; exact hg
    · rfl
  · intro i oi Li hi hw hm
    obtain ⟨K, k1, k3⟩ := (hH.obj i oi hi ⟨_, hm⟩).held_loc (hw.elim (fun h => h.2) fun h => held_of_own h.1)
    rw [hm] at k1
    injection k1 with k1
    subst k1
    exact fun e => by simp only at e; omega
  · exact ⟨_, C, el, Inj.add_self _ _ _, hH.base, rfl, heap_alloc_self _ _, h1, by simpa using h2, hc.mono (Inj.le_add _ hd), hone⟩

theorem HRel.takeMap {B0 : Nat} {μ : Inj} {H : Heap} {w : World} (hH : HRel E B0 μ H w) {d : Nat} (hd : μ d = none) (hdn : d < H.next) (hg : H.get d = some (.map [] 0)) :
    HRel E B0 (μ.add d ⟨w.heap.size, 0, 0, 0⟩) H (w.alloc (.map #[] 0)) ∧ Below B0 w (w.alloc (.map #[] 0)) := by
  refine ⟨(hH.alloc _).adoptAt d _ (.map [] 0) hd (fun j => ?_) (Nat.le_refl _) hdn ?_ ?_, (Below.refl _ _).alloc hH.base _⟩
  · split
    · subst_vars; exact hg
    · rfl
  · intro i oi Li hi hw hm
    obtain ⟨K, k1, k3⟩ := (hH.obj i oi hi ⟨_, hm⟩).held_loc (hw.elim (fun h => h.2) fun h => held_of_own h.1)
    rw [hm] at k1
    injection k1 with k1
    subst k1
    exact fun e => by simp only at e; omega
  · exact ⟨_, #[], Inj.add_self _ _ _, hH.base, heap_alloc_self _ _, .nil⟩

theorem born_of {e : Operand → Value} {op : Op} {v : Value} {o : Obj} (h : bornA E e op = some (v, o)) : ∃ H, aop E e op heap1 = some (.val v H) ∧ H.get 0 = some o := by
  unfold bornA at h
  split at h
  · rename_i v' H h1
    cases hg : H.get 0 with
    | none => rw [hg] at h; cases h
    | some o' =>
      rw [hg] at h
      simp only [Option.map_some, Option.some.injEq, Prod.mk.injEq] at h
      obtain ⟨rfl, rfl⟩ := h
      exact ⟨H, h1, hg⟩
  · cases h

theorem RowMade.at {B0 : Nat} {μ : Inj} {H : Heap} {w : World} {s : Sem Value} {v : Value} {o : Obj} {H1 : Heap} (hm : RowMade E μ w heap1 s v H1) (ho : H1.get 0 = some o) (hH : HRel E B0 μ H w) {d : Nat} (hd : μ d = none) (hdn : d < H.next) (hg : H.get d = some o) :
    ∃ L V w', s.run E.prog w = .ok V w' ∧ VRel (μ.add d L) (atBlk d v) V ∧ HRel E B0 (μ.add d L) H w' ∧ Below B0 w w' := by
  obtain ⟨es, len, c, C, el, cap, h1, h2, h3, h4, h5, h6, h7⟩ := hm
  have ev : v = .slice (some ⟨heap1.next, 0, none⟩) len 0 := (Prod.mk.inj h1).1
  have eH : H1 = heap1.new (.cells true es c) := (Prod.mk.inj h1).2
  rw [eH, heap1_get0] at ho
  injection ho with ho
  subst ho
  obtain ⟨q1, q2⟩ := hH.takeCells hd hdn hg C.size C el h3 h4 (Nat.le_refl _) h5
  refine ⟨_, _, _, h2, ?_, q1, q2⟩
  rw [ev]
  exact .slice (L := ⟨w.heap.size, 0, C.size, es⟩) (Inj.add_self _ _ _) h6 (.inr (by simp only [Nat.zero_add]; exact h7.symm))

theorem newVal_at {B0 : Nat} {μ : Inj} {H : Heap} {w : World} (hH : HRel E B0 μ H w) {v V p : Value} {H1 : Heap} {o : Obj} (hv : VRel μ v V) (h : newVal heap1 v = some (p, H1)) (ho : H1.get 0 = some o) {d : Nat} (hd : μ d = none) (hdn : d < H.next) (hg : H.get d = some o) (t : TypeId) :
    ∃ L, (newVar t V).run E.prog w = .ok ⟨w.heap.size, 0, none⟩ (w.alloc (.cells V.cells t)) ∧ VRel (μ.add d L) (atBlk d p) (.pointer (some ⟨w.heap.size, 0, none⟩)) ∧ HRel E B0 (μ.add d L) H (w.alloc (.cells V.cells t)) ∧ Below B0 w (w.alloc (.cells V.cells t)) := by
  unfold newVal at h
  cases hc : cellsOf v with
  | none => rw [hc] at h; cases h
  | some vs =>
    rw [hc] at h
    simp only [Option.map_some, Option.some.injEq, Prod.mk.injEq] at h
    obtain ⟨rfl, rfl⟩ := h
    rw [heap1_get0] at ho
    injection ho with ho
    subst ho
    have hr := cellsOf_rel hc hv
    obtain ⟨k2, k3⟩ := hH.takeCells hd hdn hg V.cells.size V.cells t (cellsRel_of_rels hr) (by rw [hr.length]; simp) (Nat.le_refl _) (cellsOf_one hc)
    exact ⟨⟨w.heap.size, 0, V.cells.size, 0⟩, by simp [newVar, newRow], .ptr (L := ⟨w.heap.size, 0, V.cells.size, 0⟩) (Inj.add_self _ _ _), k2, k3⟩

/-- What is made takes a block that was ahead. -/
theorem bornD_ok (hE : E.Ok) {B0 : Nat} {μ : Inj} {H : Heap} {w : World} (hH : HRel E B0 μ H w) {o : Oper} (hb : isBirth bm o.op = true) {e e' : Operand → Value} (he : ∀ x, VRel μ (e x) (e' x)) {v : Value} {ob : Obj} (h : bornA E e o.op = some (v, ob))
    {d : Nat} (hd : μ d = none) (hdn : d < H.next) (hg : H.get d = some ob) :
    ∃ L V w', (execOp e' o).run E.prog w = .ok (.value V) w' ∧ VRel (μ.add d L) (atBlk d v) V ∧ HRel E B0 (μ.add d L) H w' ∧ Below B0 w w' := by
  obtain ⟨H1, h1, h2⟩ := born_of h
  obtain ⟨dst, op, ty', pos, aft, grd⟩ := o
  simp only at hb h1 ⊢
  cases op
  case alloc t =>
    simp only [aop] at h1
    cases hz : zeroV E t with
    | none => rw [hz] at h1; cases h1
    | some z =>
      rw [hz] at h1
      obtain ⟨u, H2, e1, e2⟩ := rvh_some h1
      injection e2 with e2 e3
      subst e2 e3
      obtain ⟨hr, hp⟩ := run_zero hE hz w
      obtain ⟨L, q1, q2, q3, q4⟩ := newVal_at hH (plain_rel hp) e1 h2 hd hdn hg t
      exact ⟨L, _, _, by simp [execOp, Instr.alloc, hr, q1], q2, q3, q4⟩
  case box t x =>
    simp only [aop] at h1
    obtain ⟨u, H2, e1, e2⟩ := rvh_some h1
    injection e2 with e2 e3
    subst e2 e3
    obtain ⟨L, q1, q2, q3, q4⟩ := newVal_at hH (he x) e1 h2 hd hdn hg t
    exact ⟨L, _, _, by simp [execOp, Instr.box, q1], q2, q3, q4⟩
  case buildSlice t len parts =>
    simp only [aop] at h1
    obtain ⟨u, H2, e1, e2⟩ := rvh_some h1
    injection e2 with e2 e3
    subst e2 e3
    obtain ⟨L, V, w', q1, q2, q3, q4⟩ := (buildSlice_run hE w he e1).at h2 hH hd hdn hg
    exact ⟨L, V, w', by simp [execOp, q1], q2, q3, q4⟩
  case makeSlice t l c =>
    simp only [aop] at h1
    obtain ⟨u, H2, e1, e2⟩ := rvh_some h1
    injection e2 with e2 e3
    subst e2 e3
    obtain ⟨L, V, w', q1, q2, q3, q4⟩ := (makeSlice_run hE w (he l) (he c) e1).at h2 hH hd hdn hg
    exact ⟨L, V, w', by simp [execOp, q1], q2, q3, q4⟩
  case makeMap t rr =>
    have key : v = .map (some 0) ∧ ob = .map [] 0 ∧ (execOp e' ⟨dst, .makeMap t rr, ty', pos, aft, grd⟩).run E.prog w = .ok (.value (.map (some w.heap.size))) (w.alloc (.map #[] 0)) := by
      cases rr with
      | none =>
        simp only [aop, Option.some.injEq, Res.val.injEq] at h1
        obtain ⟨rfl, rfl⟩ := h1
        rw [heap1_get0] at h2
        exact ⟨rfl, (Option.some.inj h2).symm, by simp [execOp, Instr.makeMap]⟩
      | some x =>
        simp only [aop] at h1
        split at h1
        · rename_i kt et k n hu hx
          simp only [Option.some.injEq, Res.val.injEq] at h1
          obtain ⟨rfl, rfl⟩ := h1
          rw [heap1_get0] at h2
          have h3 := he x
          rw [hx] at h3
          exact ⟨rfl, (Option.some.inj h2).symm, by simp [execOp, Instr.makeMap, run_und hE hu, h3.int_eq, asInt, asIntOf]⟩
        · cases h1
    obtain ⟨rfl, rfl, hr⟩ := key
    obtain ⟨q1, q2⟩ := hH.takeMap hd hdn hg
    exact ⟨_, _, _, hr, .map (L := ⟨w.heap.size, 0, 0, 0⟩) (Inj.add_self _ _ _), q1, q2⟩
  all_goals (simp [isBirth] at hb)

theorem wantedA_congr {ops : Array Oper} {T T' : Tr Value} {o : Oper} (h : ∀ t, t ∈ o.looksAt ops → T.get t = T'.get t) : wantedA ops T o = wantedA ops T' o := by
  unfold wantedA
  cases hg : o.guard with
  | none => rfl
  | some p =>
    obtain ⟨j, want⟩ := p
    simp only
    cases hd : (ops[j]?).bind (·.dst) with
    | none => rfl
    | some d =>
      simp only
      rw [h d (by simp [Oper.looksAt, hg, hd])]

theorem ev_congr {ops : Array Oper} {T T' : Tr Value} {o : Oper} (h : ∀ t, t ∈ o.looksAt ops → T.get t = T'.get t) : ∀ x ∈ o.op.operands, ev E T x = ev E T' x := by
  intro x hx
  cases x with
  | tmp t =>
    simp only [ev]
    rw [h t (by simp only [Oper.looksAt, List.mem_append, List.mem_filterMap]; left; exact ⟨.tmp t, by simpa using hx, rfl⟩)]
  | _ => rfl

theorem TRel_congr {μ : Inj} {T T' : Tr Value} {a : Act} (h : ∀ t, T.get t = T'.get t) (hT : TRel μ T a) : TRel μ T' a := ⟨fun t => by rw [← h t]; exact hT.1 t, hT.2⟩

theorem countLoud_succ {p q : DR → Bool} {i : Nat} : ∀ {rs : List DR} {n : Nat}, rs.map DR.i = (List.range n).reverse → i < n → (∀ r ∈ rs, q r = (p r || decide (r.i = i))) → (∀ r ∈ rs, r.i = i → p r = false) →
    ∀ r ∈ rs, r.i = i → countLoud bm q rs = countLoud bm p rs + (if r.loud bm = true then 1 else 0)
  | [], n, h, hi, _, _, r, hr, _ => by simp at hr
  | x :: rest, n, h, hi, hq, hp, r, hr, hri => by
    cases n with
    | zero => omega
    | succ n =>
      simp only [List.map_cons, List.range_succ, List.reverse_append, List.reverse_cons, List.reverse_nil, List.nil_append, List.cons_append, List.cons.injEq] at h
      obtain ⟨hx, hrest⟩ := h
      have hmem : ∀ y ∈ rest, y.i < n := by
        intro y hy
        have : y.i ∈ rest.map DR.i := List.mem_map_of_mem hy
        rw [hrest] at this
        simpa using this
      simp only [countLoud]
      by_cases e : n = i
      · subst e
        have hrx : r = x := by
          rcases List.mem_cons.1 hr with h | h
          · exact h
          · have := hmem r h; omega
        subst hrx
        have e1 : countLoud bm q rest = countLoud bm p rest := countLoud_congr fun y hy _ => by
          rw [hq y (by simp [hy])]
          have := hmem y hy
          simp; omega
        rw [e1, hq r (by simp), hp r (by simp) hri, hri]
        cases r.loud bm <;> simp
      · have hr' : r ∈ rest := by
          rcases List.mem_cons.1 hr with h | h
          · subst h; omega
          · exact h
        have ih := countLoud_succ (p := p) (q := q) hrest (by omega) (fun y hy => hq y (by simp [hy])) (fun y hy => hp y (by simp [hy])) r hr' hri
        have e2 : q x = p x := by rw [hq x (by simp)]; simp; omega
        rw [ih, e2]
        cases x.loud bm <;> cases p x <;> simp <;> omega

theorem lastW_hit {L : Nat → Bool} {d : Nat} : ∀ {rs : List DR} {n : Nat}, rs.map DR.i = (List.range n).reverse → ∀ r ∈ rs, L r.i = true → r.o.dst = some d → (∀ q ∈ rs, r.i < q.i → q.o.dst = some d → L q.i = false) → lastW L d rs = some r.v
  | [], _, _, r, hr, _, _, _ => by simp at hr
  | x :: rest, n, h, r, hr, h1, h2, h3 => by
    cases n with
    | zero => simp at h
    | succ n =>
      simp only [List.map_cons, List.range_succ, List.reverse_append, List.reverse_cons, List.reverse_nil, List.nil_append, List.cons_append, List.cons.injEq] at h
      obtain ⟨hx, hrest⟩ := h
      simp only [lastW]
      rcases List.mem_cons.1 hr with rfl | hr'
      · rw [if_pos ⟨h1, h2⟩]
      · have hlt : r.i < n := by
          have : r.i ∈ rest.map DR.i := List.mem_map_of_mem hr'
          rw [hrest] at this
          simpa using this
        rw [if_neg]
        · exact lastW_hit hrest r hr' h1 h2 fun q hq => h3 q (List.mem_cons_of_mem _ hq)
        · intro ⟨a, b⟩
          have := h3 x (by simp) (by omega) b
          rw [this] at a; cases a

/-- What a mask names stands ahead. -/
theorem mask_lt {ops : Array Oper} (hst : staticOk bm ops = true) (j i : Nat) (h : ((masksFrom ops.toList []).getD j 0).testBit i = true) : i < j := by
  induction j using Nat.strongRecOn generalizing i with
  | _ j ih =>
    cases ho : ops[j]? with
    | none =>
      have : (masksFrom ops.toList [])[j]? = none := by
        obtain ⟨m, h1, h2⟩ := masksFrom_append ops.toList []
        rw [h1, List.nil_append, List.getElem?_eq_none]
        rw [h2, Array.length_toList]
        rcases Nat.lt_or_ge j ops.size with h | h
        · rw [Array.getElem?_eq_getElem h] at ho; cases ho
        · exact h
      rw [List.getD_eq_getElem?_getD, this] at h
      simp at h
    | some o =>
      have hg := masksFrom_get ops.toList [] j o (by simpa using ho)
      simp only [List.length_nil, Nat.zero_add] at hg
      rw [List.getD_eq_getElem?_getD, hg] at h
      simp only [Option.getD_some] at h
      obtain ⟨e, he, hb, hor⟩ := maskOf_bit _ _ _ h
      have hlt := static_edges hst ho e he hb
      rcases hor with rfl | hbit
      · exact hlt
      · rw [List.getD_eq_getElem?_getD, List.getElem?_take] at hbit
        split at hbit
        · have := ih e.on hlt i (by rw [List.getD_eq_getElem?_getD]; exact hbit)
          omega
        · omega

theorem runDrawB_ok (hE : E.Ok) {B0 : Nat} {sem : FSem} (hF : FOK E B0 sem) {ops : Array Oper} (hst : staticOk bm ops = true) {os : List Obj} {s s' : St} {μ : Inj} {a : Act} {w : World} (h : runDrawB bm E sem ops os s = some s') (hs : SRel E B0 μ s a w)
    {Q : Exit → Act → World → Prop} (hQ : ∀ μ' a' w', Grow s.H μ s'.H μ' → SRel E B0 μ' s' a' w' → Below B0 w w' → Q .normal a' w') :
    wpAny E.prog .any ops Q ops.size (Array.replicate ops.size false) a w := by
  unfold runDrawB at h
  cases hpa : preA bm E s.H.next ops.toList 0 os s.H.tr with
  | none => rw [hpa] at h; cases h
  | some tr =>
  rw [hpa] at h
  simp only at h
  cases hp1 : pass1 bm E sem ops s.H.next ops.toList 0 s.T ⟨tr, s.H.next + ops.size⟩ 0 [] [⟨tr, s.H.next + ops.size⟩] with
  | none => rw [hp1] at h; cases h
  | some out =>
  obtain ⟨rs, T', hsl, H'⟩ := out
  rw [hp1] at h
  simp only at h
  cases hq : quietOk bm E s.H.next (stricts bm ops (masksFrom ops.toList [])) (masksFrom ops.toList []) rs hsl (hsl.length - 1) rs with
  | false => rw [hq] at h; cases h
  | true =>
  rw [hq] at h
  simp only [cond_true, Option.some.injEq] at h
  subst h
  obtain ⟨m, hI⟩ := pass1_ok (T0 := s.T) (H0 := ⟨tr, s.H.next + ops.size⟩) ops.toList 0 s.T _ 0 [] _ rs T' hsl H' hp1 (fun j => by simp) ⟨rfl, by simp, fun t => rfl, rfl, rfl, rfl, rfl⟩
  simp only [Nat.zero_add, Array.length_toList] at hI
  have hmlen : hsl.length - 1 = m := by rw [hI.hlen]; omega
  rw [hmlen] at hq
  have hmem : ∀ r ∈ rs, r.i < ops.size := by
    intro r hr
    have : r.i ∈ rs.map DR.i := List.mem_map_of_mem hr
    rw [hI.idx] at this
    simpa using this
  have hrec : ∀ i, i < ops.size → ∃ r ∈ rs, r.i = i := by
    intro i hi
    have : i ∈ rs.map DR.i := by rw [hI.idx]; simpa using hi
    obtain ⟨r, hr, e⟩ := List.mem_map.1 this
    exact ⟨r, hr, e⟩
  have finish : ∀ (listed : Array Bool) (a1 : Act) (w1 : World) (μ1 : Inj) (Hc : Heap), (∀ j, j < ops.size → Lf listed j = true) → Grow s.H μ Hc μ1 → TRel μ1 (TL s.T (Lf listed) rs) a1 →
      hsl[countLoud bm (fun q => Lf listed q.i) rs]? = some Hc → HRel E B0 μ1 Hc w1 → Below B0 w w1 → Q .normal a1 w1 := by
    intro listed a1 w1 μ1 Hc hall hle hT hHc hH hB
    have hc : countLoud bm (fun q => Lf listed q.i) rs = m := by
      rw [hI.cnt]
      exact countLoud_congr fun r hr _ => hall _ (hmem r hr)
    rw [hc, hI.cur] at hHc
    injection hHc with hHc
    subst hHc
    refine hQ μ1 a1 w1 hle ⟨TRel_congr (fun t => ?_) hT, hH⟩ hB
    show (TL s.T (Lf listed) rs).get t = T'.get t
    rw [hI.temps t, TL_get, TL_get, lastW_congr (L' := fun _ => true) fun r hr _ => hall _ (hmem r hr)]
  -- the main induction
  have main : ∀ (fuel : Nat) (listed : Array Bool) (a1 : Act) (w1 : World) (μ1 : Inj) (Hc : Heap), listed.size = ops.size → listed.toList.count false ≤ fuel → Closed ops (Lf listed) → Grow s.H μ Hc μ1 → s.H.next + ops.size ≤ Hc.next → (∀ j o, ops[j]? = some o → isBirth bm o.op = true → Lf listed j = false → μ1 (s.H.next + j) = none) →
      TRel μ1 (TL s.T (Lf listed) rs) a1 → hsl[countLoud bm (fun q => Lf listed q.i) rs]? = some Hc → HRel E B0 μ1 Hc w1 → Below B0 w w1 → wpAny E.prog .any ops Q fuel listed a1 w1 := by
    intro fuel
    induction fuel with
    | zero =>
      intro listed a1 w1 μ1 Hc hsz hfu hcl hle hnx hun hT hHc hH hB
      have hall : ∀ j, j < ops.size → Lf listed j = true := by
        intro j hj
        have h0 : listed.toList.count false = 0 := by omega
        rw [List.count_eq_zero] at h0
        unfold Lf
        rw [Array.getD_eq_getD_getElem?, Array.getElem?_eq_getElem (by omega)]
        simp only [Option.getD_some]
        cases hb : listed[j]'(by omega) with
        | true => rfl
        | false => exact absurd (by rw [← hb]; exact Array.getElem_mem_toList (by omega)) h0
      have hfin := finish listed a1 w1 μ1 Hc hall hle hT hHc hH hB
      refine ⟨?_, hfin⟩
      cases hr : Region.ready .any ops listed with
      | nil => rfl
      | cons i rest =>
        have hi : i ∈ Region.ready .any ops listed := by rw [hr]; simp
        obtain ⟨o, _, h2, h3, _⟩ := ready_spec hi
        have := h2 (by omega)
        rw [hall i h3] at this
        cases this
    | succ fuel ih =>
      intro listed a1 w1 μ1 Hc hsz hfu hcl hle hnx hun hT hHc hH hB
      refine ⟨fun hnil => ?_, fun i hi => ?_⟩
      · have hall : ∀ j, j < ops.size → Lf listed j = true := by
          intro j
          induction j using Nat.strongRecOn with
          | _ j ihj =>
            intro hj
            cases hL : Lf listed j with
            | true => rfl
            | false =>
              have hmemr := ready_of (Array.getElem?_eq_getElem hj) hsz hL (fun e he hb => by
                have hlt := static_edges hst (Array.getElem?_eq_getElem hj) e he hb
                exact ihj e.on hlt (by omega))
              rw [hnil] at hmemr
              simp at hmemr
        exact finish listed a1 w1 μ1 Hc hall hle hT hHc hH hB
      · obtain ⟨o, ho, hLi, hio, hedges⟩ := ready_spec hi
        have hLi := hLi (by omega)
        obtain ⟨r, hr, hri⟩ := hrec i hio
        subst hri
        have f := hI.facts r hr
        have hoo : r.o = o := by have := f.op; rw [ho] at this; injection this with this; exact this.symm
        subst hoo
        have hbnd : r.i < listed.size := by omega
        have hL' := Lf_set hbnd
        have hcl' : Closed ops (Lf (listed.setIfInBounds r.i true)) := by
          intro j o' hj ho' e he hb
          rw [hL'] at hj ⊢
          simp only [Bool.or_eq_true, decide_eq_true_eq] at hj ⊢
          rcases hj with hj | rfl
          · exact .inl (hcl j o' hj ho' e he hb)
          · rw [ho] at ho'; injection ho' with ho'; subst ho'
            exact .inl (hedges e he hb)
        have hself : Lf (listed.setIfInBounds r.i true) r.i = true := by rw [hL']; simp
        have hpast : ∀ x, ((masksFrom ops.toList []).getD r.i 0).testBit x = true → x ≠ r.i → Lf listed x = true := by
          intro x hx hne
          have := closed_mask hcl' r.i r.o ho hself x hx
          rw [hL'] at this
          simpa [hne] using this
        have hnext : ∀ q ∈ rs, ((masksFrom ops.toList []).getD q.i 0).testBit r.i = true → Lf listed q.i = false := by
          intro q hq hb
          cases hLq : Lf listed q.i with
          | false => rfl
          | true =>
            have := closed_mask hcl q.i q.o (hI.facts q hq).op hLq r.i hb
            rw [hLi] at this; cases this
        have hsame : ∀ q ∈ rs, q.i = r.i → q.o = r.o := by
          intro q hq e
          have := (hI.facts q hq).op
          rw [e, ho] at this
          injection this with this
          exact this.symm
        have hlooks : ∀ t ∈ r.o.looksAt ops, (TL s.T (Lf listed) rs).get t = r.T.get t := by
          intro t ht
          rw [f.temps t, TL_get, TL_get]
          rw [lastW_congr (L := Lf listed) (L' := fun x => decide (x < r.i))]
          intro q hq hd
          rcases Nat.lt_trichotomy q.i r.i with hlt | heq | hgt
          · rcases static_spec hst (hI.facts q hq).op ho hlt with hbit | ⟨hap, _⟩
            · rw [hpast _ hbit (by omega)]; simp [hlt]
            · exact absurd ht ((Oper.apart_spec hap).1 t hd)
          · rw [heq, hLi]; simp
          · rcases static_spec hst ho (hI.facts q hq).op hgt with hbit | ⟨hap, _⟩
            · rw [hnext q hq hbit]; simp; omega
            · exact absurd ht ((Oper.apart_spec hap).2.2 t hd)
        have hwant : wantedA ops (TL s.T (Lf listed) rs) r.o = some r.w := by rw [wantedA_congr hlooks]; exact f.want
        have hwt := wanted_ok hT hwant
        have haop : ∀ Hx, aop E (ev E (TL s.T (Lf listed) rs)) r.o.op Hx = aop E (ev E r.T) r.o.op Hx := fun Hx => aop_congr (ev_congr hlooks)
        have hun' : ∀ {μ' : Inj} {Hx : Heap}, Grow Hc μ1 Hx μ' → ∀ j o, ops[j]? = some o → isBirth bm o.op = true → Lf (listed.setIfInBounds r.i true) j = false → μ' (s.H.next + j) = none := by
          intro μ' Hx hgr j o' h1 h2 h3
          rw [hL'] at h3
          simp only [Bool.or_eq_false_iff] at h3
          have hjs : j < ops.size := by
            rcases Nat.lt_or_ge j ops.size with h | h
            · exact h
            · rw [Array.getElem?_eq_none h] at h1; cases h1
          rw [hgr.2.1 _ (by omega)]
          exact hun j o' h1 h2 h3.1
        have hput : ∀ t, (putT (TL s.T (Lf listed) rs) r.o.dst r.v).get t = (TL s.T (Lf (listed.setIfInBounds r.i true)) rs).get t := by
          intro t
          have hoth : r.o.dst ≠ some t → lastW (Lf listed) t rs = lastW (Lf (listed.setIfInBounds r.i true)) t rs := by
            intro hne
            refine lastW_congr fun q hq hd => ?_
            rw [hL']
            have : ¬ q.i = r.i := fun e => by rw [hsame q hq e] at hd; exact hne hd
            simp [this]
          cases hd : r.o.dst with
          | none =>
            simp only [putT]
            rw [TL_get, TL_get, hoth (by rw [hd]; simp)]
          | some d =>
            simp only [putT, Tr.get_upd]
            by_cases e : t = d
            · subst e
              rw [if_pos rfl, TL_get, TL_get, lastW_hit hI.idx r hr hself hd]
              · cases s.T.get t <;> rfl
              · intro q hq hgt hdq
                rw [hL']
                rcases static_spec hst ho (hI.facts q hq).op hgt with hbit | ⟨hap, _⟩
                · rw [hnext q hq hbit]; simp; omega
                · exact absurd hdq ((Oper.apart_spec hap).2.1 t hd)
            · rw [if_neg e, TL_get, TL_get, hoth (by rw [hd]; simp; exact fun h => e h.symm)]
        have hcount : countLoud bm (fun q => Lf (listed.setIfInBounds r.i true) q.i) rs = countLoud bm (fun q => Lf listed q.i) rs + (if r.loud bm = true then 1 else 0) :=
          countLoud_succ hI.idx hio (fun q _ => hL' q.i) (fun q _ e => by rw [e]; exact hLi) r hr rfl
        have hfuel : (listed.setIfInBounds r.i true).toList.count false ≤ fuel := by
          have hlf : listed[r.i]'hbnd = false := by
            unfold Lf at hLi
            rw [Array.getD_eq_getD_getElem?, Array.getElem?_eq_getElem hbnd] at hLi
            simpa using hLi
          rw [Array.toList_setIfInBounds, List.count_set (by simpa using hbnd)]
          have hpos : 0 < listed.toList.count false := List.count_pos_iff.2 (by rw [← hlf]; exact Array.getElem_mem_toList hbnd)
          simp only [Array.getElem_toList, hlf]
          rw [if_pos (by rfl), if_neg (by decide)]
          omega
        have hsz' : (listed.setIfInBounds r.i true).size = ops.size := by simpa using hsz
        show wpOp E.prog ops Q r.i (wpAny E.prog .any ops Q fuel (listed.setIfInBounds r.i true)) a1 w1
        unfold wpOp
        rw [ho]
        simp only
        rw [hwt]
        cases hw : r.w with
        | false =>
          rw [if_neg (by simp)]
          have hnl : r.loud bm = false := by simp [DR.loud, hw]
          have hv := f.idle hw
          refine ih _ _ w1 μ1 Hc hsz' hfuel hcl' hle hnx (hun' (Grow.refl _ _)) (TRel_congr hput ?_) ?_ hH hB
          · rw [hv]; exact hT.put _ VRel.undef
          · rw [hcount, if_neg (by simp [hnl])]; exact hHc
        | true =>
          rw [if_pos rfl]
          left
          obtain ⟨H1, H2, d1, d2, d3⟩ := f.does hw
          cases hld : isLoudD bm r.o.op with
          | true =>
            have hrl : r.loud bm = true := by simp [DR.loud, hw, hld]
            have hk : countLoud bm (fun q => Lf listed q.i) rs = r.k := by
              rw [f.cnt]
              refine countLoud_congr fun q hq hql => ?_
              have hqop : isLoudD bm q.o.op = true := by simp only [DR.loud, Bool.and_eq_true] at hql; exact hql.2
              rcases Nat.lt_trichotomy q.i r.i with hlt | heq | hgt
              · rcases static_spec hst (hI.facts q hq).op ho hlt with hbit | ⟨_, hno⟩
                · rw [hpast _ hbit (by omega)]; simp [hlt]
                · exact absurd ⟨hqop, hld⟩ hno
              · rw [heq, hLi]; simp
              · rcases static_spec hst ho (hI.facts q hq).op hgt with hbit | ⟨_, hno⟩
                · rw [hnext q hq hbit]; simp; omega
                · exact absurd ⟨hld, hqop⟩ hno
            rw [hk, d1] at hHc
            injection hHc with hHc
            subst hHc
            have hna : isBirth bm r.o.op = false := loud_noBirth hld
            rw [aopD_of hna, ← haop] at d2
            refine oper_ok hE hF hH (fun x => ev_rel hH hT x) hT d2 ?_
            intro V μ' w' q1 q2 q3 q4 q5
            refine ih _ _ w' μ' H2 hsz' hfuel hcl' (hle.trans q1) (Nat.le_trans hnx q1.2.2) (hun' q1) (TRel_congr hput q3) ?_ q4 (hB.trans q5)
            rw [hcount, if_pos hrl, hk]
            exact d3 hld
          | false =>
            have hrl : r.loud bm = false := by simp [DR.loud, hld]
            have hlo : countLoud bm (fun q => ((masksFrom ops.toList []).getD r.i 0).testBit q.i) rs ≤ countLoud bm (fun q => Lf listed q.i) rs := by
              refine countLoud_le fun q hq hql hb => hpast _ hb fun e => ?_
              simp only [DR.loud, Bool.and_eq_true] at hql
              rw [hsame q hq e, hld] at hql
              cases hql.2
            have hhi : countLoud bm (fun q => Lf listed q.i) rs ≤ m - countLoud bm (fun q => ((masksFrom ops.toList []).getD q.i 0).testBit r.i) rs := by
              have := countLoud_add (bm := bm) (p := fun q => Lf listed q.i) (q := fun q => ((masksFrom ops.toList []).getD q.i 0).testBit r.i) (rs := rs) (fun q hq _ ⟨x, y⟩ => by rw [hnext q hq y] at x; cases x)
              rw [← hI.cnt] at this
              omega
            cases hal : isBirth bm r.o.op with
            | true =>
              have hpu : isPure r.o.op = false := birth_pure hal
              obtain ⟨Hx, g1, g2⟩ := quiet_spec hq r hr hw hld hpu (by rw [hal]; simp) _ hlo hhi
              rw [hHc] at g1; injection g1 with g1; subst g1
              obtain ⟨v, ob, z1, z3⟩ := looks_birth hal g2
              have hv : r.v = atBlk (s.H.next + r.i) v := by
                unfold aopD at d2
                split at d2
                · rename_i ty hop
                  rw [hop] at z1
                  simp only [resA, Option.some.injEq, Prod.mk.injEq] at d2
                  obtain ⟨Hq, y1, y2⟩ := born_of z1
                  simp only [aop] at y1
                  cases hz : zeroV E ty with
                  | none => rw [hz] at y1; cases y1
                  | some zz =>
                    rw [hz] at y1
                    obtain ⟨u, H9, x1, x2⟩ := rvh_some y1
                    injection x2 with x2 x3
                    unfold newVal at x1
                    cases hc9 : cellsOf zz with
                    | none => rw [hc9] at x1; cases x1
                    | some vs9 =>
                      rw [hc9] at x1
                      simp only [Option.map_some, Option.some.injEq, Prod.mk.injEq] at x1
                      rw [x2, ← x1.1]
                      exact d2.1.symm
                · rw [hal, z1] at d2
                  simp only [cond_true, Option.map_some, resA, Option.some.injEq, Prod.mk.injEq] at d2
                  exact d2.1.symm
              rw [← bornA_congr (ev_congr hlooks)] at z1
              have hmu := hun r.i r.o ho hal hLi
              obtain ⟨L, V, w', e1, e2, e3, e4⟩ := bornD_ok hE hH hal (fun x => ev_rel hH hT x) z1 hmu (by omega) z3
              unfold Oper.wp
              rw [e1]
              rw [← hv] at e2
              have hle1 := Inj.le_add L hmu
              refine ih _ _ w' _ Hc hsz' hfuel hcl' ⟨Inj.le_trans hle.1 hle1, fun i hi => ?_, hle.2.2⟩ hnx ?_ (TRel_congr hput ((hT.mono hle1).put _ e2)) ?_ e3 (hB.trans e4)
              · unfold Inj.add
                rw [if_neg (by omega)]
                exact hle.2.1 i hi
              · intro j o' h1 h2 h3
                rw [hL'] at h3
                simp only [Bool.or_eq_false_iff, decide_eq_false_iff_not] at h3
                unfold Inj.add
                rw [if_neg (by omega)]
                exact hun j o' h1 h2 h3.1
              · rw [hcount, if_neg (by simp [hrl])]
                exact hHc
            | false =>
            have hna := hal
            have hld' : isLoud r.o.op = false := by rw [← loudD_of hna]; exact hld
            rw [aopD_of hna] at d2
            have hres : resA sem (aop E (ev E (TL s.T (Lf listed) rs)) r.o.op Hc) Hc = some (r.v, Hc) := by
              rw [haop]
              cases hrr : aop E (ev E r.T) r.o.op H1 with
              | none => rw [hrr] at d2; cases d2
              | some rr =>
                obtain ⟨v0, rfl⟩ := aop_quiet hld' hrr
                rw [hrr] at d2
                simp only [resA, Option.some.injEq, Prod.mk.injEq] at d2
                obtain ⟨rfl, rfl⟩ := d2
                cases hpu : isPure r.o.op with
                | true =>
                  obtain ⟨v1, e1, e2⟩ := aop_pure hpu hrr Hc
                  injection e1 with e1
                  rw [e2, e1]; rfl
                | false =>
                  cases hss : (stricts bm ops (masksFrom ops.toList [])).getD r.i false with
                  | true =>
                    have hk : countLoud bm (fun q => Lf listed q.i) rs = r.k := by
                      rw [f.cnt]
                      refine countLoud_congr fun q hq hql => ?_
                      have hqop : isLoudD bm q.o.op = true := by simp only [DR.loud, Bool.and_eq_true] at hql; exact hql.2
                      have hqr : q.i ≠ r.i := fun e => by rw [hsame q hq e, hld] at hqop; cases hqop
                      rcases stricts_spec hss (hI.facts q hq).op hqr hqop with hbit | hbit
                      · rw [hpast _ hbit hqr]
                        rcases Nat.lt_or_ge q.i r.i with hlt | hge
                        · simp [hlt]
                        · exact absurd hbit (by
                            intro hbit
                            have := mask_lt hst r.i q.i hbit
                            omega)
                      · rw [hnext q hq hbit]
                        rcases Nat.lt_or_ge r.i q.i with hlt | hge
                        · simp; omega
                        · exact absurd hbit (by
                            intro hbit
                            have := mask_lt hst q.i r.i hbit
                            omega)
                    rw [hk, d1] at hHc
                    injection hHc with hHc
                    subst hHc
                    rw [hrr]; rfl
                  | false =>
                  obtain ⟨Hx, g1, g2⟩ := quiet_spec hq r hr hw hld hpu (by rw [hss]; rfl) _ hlo hhi
                  rw [hHc] at g1; injection g1 with g1; subst g1
                  obtain ⟨v1, Hy, g2, g3⟩ := looks_value hna g2
                  obtain ⟨v2, e2⟩ := aop_quiet hld' g2
                  injection e2 with e3 e4
                  rw [g2, e4, ← sameN_eq 8 _ _ g3]
                  rfl
            refine oper_ok hE hF hH (fun x => ev_rel hH hT x) hT hres ?_
            intro V μ' w' q1 q2 q3 q4 q5
            refine ih _ _ w' μ' Hc hsz' hfuel hcl' (hle.trans q1) hnx (hun' q1) (TRel_congr hput q3) ?_ q4 (hB.trans q5)
            rw [hcount, if_neg (by simp [hrl])]
            exact hHc
  have hHpre : HRel E B0 μ ⟨tr, s.H.next + ops.size⟩ w := hs.2.pre ops.size fun j hj => preA_get s.H.next ops.toList 0 os _ _ hpa j hj
  have h0 : ∀ j, Lf (Array.replicate ops.size false) j = false := by
    intro j
    unfold Lf
    rw [Array.getD_eq_getD_getElem?, Array.getElem?_replicate]
    split <;> rfl
  have hc0 : countLoud bm (fun q => Lf (Array.replicate ops.size false) q.i) rs = 0 := by
    rw [countLoud_congr (q := fun _ => false) fun r _ _ => h0 _]
    clear main finish hI hq hp1 hmem hrec hHpre
    induction rs with
    | nil => rfl
    | cons x rest ih => simp [countLoud, ih]
  refine main ops.size _ a w μ ⟨tr, s.H.next + ops.size⟩ (by simp) ?_ (fun j o hj => by rw [h0] at hj; cases hj) ⟨Inj.le_refl _, fun _ _ => rfl, by simp⟩ (Nat.le_refl _) (fun j o _ _ _ => hs.2.fresh _ (by omega)) ?_ (by rw [hc0]; exact hI.first) hHpre (Below.refl _ _)
  · simp
  · refine TRel_congr (fun t => ?_) hs.1
    rw [TL_get]
    have : lastW (Lf (Array.replicate ops.size false)) t rs = none := by
      clear main finish hI hq hp1 hmem hrec hc0 hHpre
      induction rs with
      | nil => rfl
      | cons x rest ih => simp [lastW, h0, ih]
    rw [this]
    cases s.T.get t <;> rfl

theorem runDraw_ok (hE : E.Ok) {B0 : Nat} {sem : FSem} (hF : FOK E B0 sem) {ops : Array Oper} {s s' : St} {μ : Inj} {a : Act} {w : World} (h : runDraw E sem ops s = some s') (hs : SRel E B0 μ s a w)
    {Q : Exit → Act → World → Prop} (hQ : ∀ μ' a' w', Grow s.H μ s'.H μ' → SRel E B0 μ' s' a' w' → Below B0 w w' → Q .normal a' w') :
    wpAny E.prog .any ops Q ops.size (Array.replicate ops.size false) a w := by
  unfold runDraw at h
  cases h0 : staticOk false ops with
  | true => rw [h0] at h; exact runDrawB_ok hE hF h0 h hs hQ
  | false =>
    rw [h0] at h
    simp only [cond_false] at h
    cases h1 : staticOk true ops with
    | false => rw [h1] at h; cases h
    | true =>
      rw [h1] at h
      simp only [cond_true] at h
      split at h
      · exact runDrawB_ok hE hF h1 h hs hQ
      · cases h
end
end Go.AS
