/-
  What a piece of code needs, if it is so, makes the plain machine answer.
-/
import Derived.Test.YtlkmdcncpdadbaaAs20
namespace Go.AS
open Go.RowKit
set_option linter.unusedVariables false

/-! ### Frames -/
theorem ofL_get (xs : Fr) (k : Nat) : (ofL xs).get k = xs[k]? := by
  unfold ofL
  rw [updsFrom_get, Tr.get_fill _ _ _ _ (Nat.le_refl _)]
  by_cases h : k < xs.length
  · rw [if_pos (by omega), if_pos h]
    simp [h]
  · rw [if_neg (by omega), if_neg h]
    simp [Nat.le_of_not_lt h]

section trees
variable {α : Type}
theorem Tr.upd_upd (v w : α) : ∀ (t : Tr α) (n : Nat), (t.upd n v).upd n w = t.upd n w
  | .nil, n => rfl
  | .node o l r, 0 => by cases o <;> rfl
  | .node o l r, n + 1 => by
    simp only [Tr.upd_succ]
    cases hb : Nat.beq (Nat.mod n 2) 0 <;> simp only [cond_true, cond_false, Tr.upd_succ, hb, Tr.upd_upd v w]

theorem Tr.upd_comm (v w : α) : ∀ (t : Tr α) (n m : Nat), n ≠ m → (t.upd n v).upd m w = (t.upd m w).upd n v
  | .nil, n, m, _ => rfl
  | .node o l r, 0, 0, h => absurd rfl h
  | .node o l r, 0, m + 1, h => by
    simp only [Tr.upd_succ, Tr.upd_zero]
    cases hb : Nat.beq (Nat.mod m 2) 0 <;> simp only [cond_true, cond_false, Tr.upd_succ, Tr.upd_zero, hb]
  | .node o l r, n + 1, 0, h => by
    simp only [Tr.upd_succ, Tr.upd_zero]
    cases hb : Nat.beq (Nat.mod n 2) 0 <;> simp only [cond_true, cond_false, Tr.upd_succ, Tr.upd_zero, hb]
  | .node o l r, n + 1, m + 1, h => by
    simp only [Tr.upd_succ]
    have key : ∀ b, Nat.beq (Nat.mod n 2) 0 = b → Nat.beq (Nat.mod m 2) 0 = b → Nat.div n 2 ≠ Nat.div m 2 := by
      intro b h1 h2
      cases b with
      | true => have e1 := even_of h1; have e2 := even_of h2; simp only [div_def]; omega
      | false => have e1 := odd_of h1; have e2 := odd_of h2; simp only [div_def]; omega
    cases hb : Nat.beq (Nat.mod n 2) 0 <;> cases hc : Nat.beq (Nat.mod m 2) 0 <;> simp only [cond_true, cond_false, Tr.upd_succ, hb, hc]
    · rw [Tr.upd_comm v w r _ _ (key _ hb hc)]
    · rw [Tr.upd_comm v w l _ _ (key _ hb hc)]

theorem updsFrom_upd (v : α) : ∀ (xs : List α) (n : Nat) (t : Tr α) (k : Nat), k < xs.length → (Tr.updsFrom xs n t).upd (n + k) v = Tr.updsFrom (xs.set k v) n t
  | [], n, t, k, h => by simp at h
  | x :: xs, n, t, k, h => by
    have out : ∀ (l : List α) (m : Nat) (s : Tr α), n < m → (Tr.updsFrom l m s).upd n v = Tr.updsFrom l m (s.upd n v) := by
      intro l
      induction l with
      | nil => intro m s _; rfl
      | cons y l ih =>
        intro m s hm
        simp only [Tr.updsFrom_cons]
        rw [ih (m + 1) _ (by omega), Tr.upd_comm y v _ _ _ (show m ≠ n by omega)]
    cases k with
    | zero =>
      simp only [Nat.add_zero, List.set_cons_zero, Tr.updsFrom_cons]
      rw [out xs (n + 1) _ (by omega), Tr.upd_upd]
    | succ k =>
      simp only [List.set_cons_succ, Tr.updsFrom_cons]
      have := updsFrom_upd v xs (n + 1) (t.upd n x) k (by simpa using h)
      rw [show n + (k + 1) = n + 1 + k from by omega]
      exact this

theorem Tr.upd_out (v : α) (t : Tr α) (n : Nat) (h : t.get n = none) : t.upd n v = t := by
  induction t generalizing n with
  | nil => rfl
  | node o l r il ir =>
    cases n with
    | zero =>
      have : o = none := h
      subst this; rfl
    | succ n =>
      simp only [Tr.get_succ] at h
      simp only [Tr.upd_succ]
      cases hb : Nat.beq (Nat.mod n 2) 0 <;> rw [hb] at h <;> simp only [cond_true, cond_false] at h ⊢
      · rw [ir _ h]
      · rw [il _ h]
end trees

theorem ofL_set (xs : Fr) (d : Nat) (v : Value) : (ofL xs).upd d v = ofL (xs.set d v) := by
  by_cases h : d < xs.length
  · unfold ofL
    rw [List.length_set]
    have := updsFrom_upd v xs 0 (Tr.fill undef xs.length xs.length) d h
    rwa [Nat.zero_add] at this
  · rw [List.set_eq_of_length_le (Nat.le_of_not_lt h)]
    refine Tr.upd_out _ _ _ ?_
    rw [ofL_get]; simp [Nat.le_of_not_lt h]

theorem putT_ofL (xs : Fr) (d : Option Tmp) (v : Value) : putT (ofL xs) d v = ofL (putL xs d v) := by
  cases d with
  | none => rfl
  | some d => exact ofL_set xs d v

theorem ev_ofL (E : Env) (xs : Fr) : ev E (ofL xs) = evL E xs := by
  funext x
  cases x with
  | tmp t =>
    show ((ofL xs).get t).getD undef = xs.getD t undef
    rw [ofL_get, List.getD_eq_getElem?_getD]
  | const v => rfl
  | global g => rfl
  | func f => rfl

theorem initT_ofL {fn : Func} {args : List Value} (h : args.length ≤ fn.ntmps) : initT fn args = some (ofL (fr0 fn.ntmps args)) := by
  unfold initT
  rw [Nat.ble_eq_true_of_le h]
  simp only [cond_true, Option.some.injEq]
  unfold ofL fr0
  have hl : (args ++ List.replicate (fn.ntmps - args.length) undef).length = fn.ntmps := by simp; omega
  rw [hl]
  have app : ∀ (l m : List Value) (n : Nat) (t : Tr Value), Tr.updsFrom (l ++ m) n t = Tr.updsFrom m (n + l.length) (Tr.updsFrom l n t) := by
    intro l
    induction l with
    | nil => intro m n t; rfl
    | cons x l ih =>
      intro m n t
      simp only [List.cons_append, Tr.updsFrom_cons, ih, List.length_cons]
      rw [show n + 1 + l.length = n + (l.length + 1) from by omega]
  rw [app]
  have same : ∀ (k n : Nat) (t : Tr Value), (∀ j, n ≤ j → j < n + k → t.get j = some undef) → Tr.updsFrom (List.replicate k undef) n t = t := by
    intro k
    induction k with
    | zero => intro n t _; rfl
    | succ k ih =>
      intro n t ht
      simp only [List.replicate_succ, Tr.updsFrom_cons]
      have e : t.upd n undef = t := by
        have := ht n (Nat.le_refl _) (by omega)
        clear ht ih
        induction t generalizing n with
        | nil => rfl
        | node o l r il ir =>
          cases n with
          | zero =>
            have h0 : o = some undef := this
            subst h0; rfl
          | succ n =>
            simp only [Tr.get_succ] at this
            simp only [Tr.upd_succ]
            cases hb : Nat.beq (Nat.mod n 2) 0 <;> rw [hb] at this <;> simp only [cond_true, cond_false] at this ⊢
            · rw [ir _ this]
            · rw [il _ this]
      rw [e]
      exact ih (n + 1) t fun j h1 h2 => ht j (by omega) (by omega)
  rw [same]
  intro j h1 h2
  rw [updsFrom_get, if_neg (by omega), Tr.get_fill _ _ _ _ (Nat.le_refl _), if_pos (by omega)]

section
variable {E : Env}

/-! ### Values -/
theorem asBool_elim {v : Value} {K : Bool → Prop} (h : asBool v K) : ∃ b, v = .bool b ∧ K b := by
  unfold asBool at h
  split at h
  · exact ⟨_, rfl, h⟩
  · exact h.elim

theorem asInt_elim {k : IntKind} {v : Value} {K : Int → Prop} (h : asInt k v K) : ∃ n, v = .int k n ∧ K n := by
  unfold asInt at h
  split at h
  · rename_i j n
    by_cases e : j = k
    · subst e; simp only [decide_true, cond_true] at h; exact ⟨_, rfl, h⟩
    · simp only [e, decide_false, cond_false] at h
  · exact h.elim

theorem asNum_elim {v : Value} {K : Int → Prop} (h : asNum v K) : ∃ k n, v = .int k n ∧ K n := by
  unfold asNum at h
  split at h
  · exact ⟨_, _, rfl, h⟩
  · exact h.elim

theorem asAddr_elim {v : Value} {K : Nat → Nat → Prop} (h : asAddr v K) : ∃ i o, v = .pointer (some ⟨i, o, none⟩) ∧ K i o := by
  unfold asAddr at h
  split at h
  · exact ⟨_, _, rfl, h⟩
  · exact h.elim

theorem asRow_elim {a : Option Addr} {K : Nat → Nat → Prop} (h : asRow a K) : ∃ i o, a = some ⟨i, o, none⟩ ∧ K i o := by
  unfold asRow at h
  split at h
  · exact ⟨_, _, rfl, h⟩
  · exact h.elim

theorem asSlice_elim {v : Value} {K : Option Addr → Nat → Prop} (h : asSlice v K) : ∃ a l c, v = .slice a l c ∧ K a l := by
  unfold asSlice at h
  split at h
  · exact ⟨_, _, _, rfl, h⟩
  · exact h.elim

theorem asMap_elim {v : Value} {K : Option Nat → Prop} (h : asMap v K) : ∃ m, v = .map m ∧ K m := by
  unfold asMap at h
  split at h
  · exact ⟨_, rfl, h⟩
  · exact h.elim

theorem asFn_elim {v : Value} {K : FuncId → List Value → List Value → Prop} (h : asFn v K) : ∃ f fs cs, v = .func (.func f) fs cs ∧ K f fs.toList cs.toList := by
  unfold asFn at h
  split at h
  · exact ⟨_, _, _, rfl, h⟩
  · exact h.elim

theorem asCells_elim {v : Value} {K : List Value → Prop} (h : asCells v K) : ∃ l, cellsOf v = some l ∧ K l := by
  unfold asCells at h
  split at h
  · exact ⟨_, ‹_›, h⟩
  · exact h.elim

theorem asSome_elim {α : Type} {o : Option α} {K : α → Prop} (h : asSome o K) : ∃ x, o = some x ∧ K x := by
  unfold asSome at h
  split at h
  · exact ⟨_, rfl, h⟩
  · exact h.elim

/-- What is to hold of what an operation gives. -/
def ResK (E : Env) (H : Heap) (K : Value → Heap → Prop) : Option Res → Prop
  | some (.val v H') => K v H'
  | some (.call f args) => CA E f args H K
  | none => False

theorem resK_rv {H : Heap} {K : Value → Heap → Prop} {o : Option Value} (h : ∃ v, o = some v ∧ K v H) : ResK E H K (rv H o) := by
  obtain ⟨v, rfl, h⟩ := h
  exact h

theorem resK_rh {H : Heap} {K : Value → Heap → Prop} {o : Option Heap} (h : ∃ H', o = some H' ∧ K undef H') : ResK E H K (rh o) := by
  obtain ⟨v, rfl, h⟩ := h
  exact h

theorem resK_rvh {H : Heap} {K : Value → Heap → Prop} {o : Option (Value × Heap)} (h : ∃ v H', o = some (v, H') ∧ K v H') : ResK E H K (rvh o) := by
  obtain ⟨v, H', rfl, h⟩ := h
  exact h

theorem wpLoad_ok {t : Nat} {a : Value} {H : Heap} {K : Value → Prop} (h : wpLoad E t a H K) : ∃ v, loadV E H t a = some v ∧ K v := by
  replace h := asAddr_elim h
  obtain ⟨i, o, rfl, h⟩ := h
  simp only [loadV]
  split at h
  · rename_i hagg
    obtain ⟨v, h1, h2⟩ := exOne_some h
    refine ⟨v, ?_, h2⟩
    unfold Heap.cell at h1
    split at h1
    · rename_i w z c hg
      rw [hg]
      simp only [hagg]
      exact h1
    · cases h1
  · rename_i hagg
    split at h
    · rename_i n hn
      cases hb : Nat.beq n 0 with
      | true => rw [hb] at h; exact h.elim
      | false =>
        rw [hb] at h
        obtain ⟨l, h1, h2⟩ := exCells_some h
        refine ⟨_, ?_, h2⟩
        unfold Heap.cellsAt at h1
        split at h1
        · rename_i w z c hg
          rw [hg]
          simp only [hagg, hn, Option.bind_some]
          rw [if_neg (Nat.ne_of_beq_eq_false hb), h1]
          rfl
        · cases h1
    · exact h.elim
  · exact h.elim

theorem stc_ok {H : Heap} {i o : Nat} {vs : List Value} {K : Heap → Prop} (h : stc H i o vs K) : ∃ H', storeCellsA H i o vs = some H' ∧ K H' := by
  obtain ⟨z, c, h1, h2, h3⟩ := h
  refine ⟨_, ?_, h3⟩
  unfold storeCellsA
  rw [h1]
  simp only
  rw [if_pos h2]

theorem wpStore_ok {t : Nat} {a v : Value} {H : Heap} {K : Heap → Prop} (h : wpStore E t a v H K) : ∃ H', storeV E H t a v = some H' ∧ K H' := by
  replace h := asAddr_elim h
  obtain ⟨i, o, rfl, h⟩ := h
  obtain ⟨vs, hc, h⟩ := asCells_elim h
  split at h
  · rename_i n hn
    cases hb : Nat.beq vs.length n with
    | false => rw [hb] at h; exact h.elim
    | true =>
      rw [hb] at h
      obtain ⟨H', h1, h2⟩ := stc_ok h
      refine ⟨H', ?_, h2⟩
      simp only [storeV, hc, hn, Option.bind_some]
      rw [if_pos (Nat.eq_of_beq_eq_true hb)]
      exact h1
  · exact h.elim

theorem wpInt_ok {op : BinOp} {k : IntKind} {a b : Int} {K : Value → Prop} (h : wpInt op k a b K) : (isShift op = true → ∃ v, shiftA op k a b = some v ∧ K v) ∧ (isShift op = false → ∃ v, intBinA op k a b = some v ∧ K v) := by
  cases op <;> simp only [wpInt, isShift] at h ⊢ <;> refine ⟨fun hs => ?_, fun hs => ?_⟩ <;> first
    | (cases hs; done)
    | (obtain ⟨h1, h2⟩ := h
       refine ⟨_, ?_, h2⟩
       first
         | (simp only [intBinA]; rw [if_neg h1])
         | (simp only [shiftA]; rw [if_neg (by unfold nn at h1; omega)]))
    | exact asSome_elim h

theorem wpEqS_ok {H : Heap} {d t : Nat} {x y : Value} {K : Bool → Prop} (h : wpEqS E t x y K) : ∃ b, eqA E H (d + 1) t x y = some b ∧ K b := by
  unfold wpEqS at h
  split at h
  · rename_i k hu
    split at h
    · rename_i k a j b
      by_cases e : k = j
      · subst e
        simp only [decide_true, cond_true] at h
        refine ⟨_, ?_, h⟩
        simp [eqA, hu]
      · simp only [e, decide_false, cond_false] at h
    · exact h.elim
  · rename_i hu
    split at h
    · refine ⟨_, ?_, h⟩
      simp [eqA, hu]
    · exact h.elim
  · exact h.elim

theorem wpEqF_ok {H : Heap} {d : Nat} {xs ys : Array Value} : ∀ {fs : List Field} {K : Bool → Prop}, wpEqF E xs ys fs K → ∃ b, eqFieldsA E (eqA E H (d + 1)) xs ys fs = some b ∧ K b
  | [], K, h => ⟨true, rfl, h⟩
  | f :: fs, K, h => by
    simp only [wpEqF] at h
    split at h
    · rename_i u hu
      split at h
      · rename_i v hv
        obtain ⟨b, h1, h2⟩ := wpEqS_ok (H := H) (d := d) h
        simp only [eqFieldsA, hu, hv, Option.bind_some, h1]
        split at h2
        · cases b with
          | true => exact ⟨true, rfl, h2⟩
          | false => exact ⟨false, rfl, h2⟩
        · obtain ⟨b', h3, h4⟩ := wpEqF_ok (H := H) (d := d) h2
          cases b with
          | true => exact ⟨b', h3, by simpa using h4⟩
          | false => exact ⟨false, rfl, by simpa using h4⟩
      · exact h.elim
    · exact h.elim

theorem wpBin_ok {H : Heap} {op : BinOp} {t : Nat} {x y : Value} {K : Value → Prop} (h : wpBin E H op t x y K) : ∃ v, binA E H op t x y = some v ∧ K v := by
  unfold wpBin at h
  split at h
  · rename_i k a
    split at h
    · rename_i j b
      cases hs : isShift op with
      | true =>
        rw [hs] at h
        obtain ⟨v, h1, h2⟩ := (wpInt_ok h).1 hs
        exact ⟨v, by simp only [binA, hs, cond_true]; exact h1, h2⟩
      | false =>
        rw [hs] at h
        simp only [cond_false] at h
        by_cases e : k = j
        · subst e
          simp only [decide_true, cond_true] at h
          obtain ⟨v, h1, h2⟩ := (wpInt_ok h).2 hs
          exact ⟨v, by simp only [binA, hs, cond_false, if_pos]; exact h1, h2⟩
        · simp only [e, decide_false, cond_false] at h
    · exact h.elim
  · rename_i a
    split at h
    · rename_i b
      split at h
      · rename_i hu
        split at h
        · exact ⟨_, by simp [binA, eqKind, eqA, hu], h⟩
        · exact ⟨_, by simp [binA, eqKind, eqA, hu], h⟩
        · exact h.elim
      · exact h.elim
    · exact h.elim
  · rename_i xs
    split at h
    · rename_i ys
      cases hq : E.eqOk t with
      | false => rw [hq] at h; exact h.elim
      | true =>
        rw [hq] at h
        simp only [cond_true] at h
        split at h
        · rename_i fields hu
          obtain ⟨b, h1, h2⟩ := wpEqF_ok (H := H) (d := 2) h
          have e : eqA E H 4 t (.agg xs) (.agg ys) = some b := by
            unfold eqA
            simp only [hu, hq, cond_true]
            exact h1
          split at h2
          · exact ⟨_, by simp only [binA, hq, cond_true, e, Option.map_some], h2⟩
          · exact ⟨_, by simp only [binA, hq, cond_true, e, Option.map_some], h2⟩
          · exact h2.elim
        · exact h.elim
    · exact h.elim
  · exact asSome_elim h

theorem wpNilCmp_ok {H : Heap} {op : BinOp} {t : Nat} {c v : Value} {K : Value → Prop} (h : wpNilCmp E op t c v K) : ∃ u, binA E H op t v c = some u ∧ K u := by
  unfold wpNilCmp nilFor at h
  split at h
  · rename_i hu
    split at h
    · rename_i p
      split at h <;> first
        | exact h.elim
        | (refine ⟨_, ?_, h⟩
           cases p with
           | none => simp [binA, eqKind, eqA, hu]
           | some a => simp [binA, eqKind, eqA, hu])
    · exact h.elim
  · rename_i hu
    split at h
    · rename_i p _ _
      split at h <;> first
        | exact h.elim
        | (refine ⟨_, ?_, h⟩
           cases p with
           | none => simp [binA, eqKind, eqA, hu]
           | some a => simp [binA, eqKind, eqA, hu])
    · exact h.elim
  · rename_i hu
    split at h
    · rename_i p
      split at h <;> first
        | exact h.elim
        | (refine ⟨_, ?_, h⟩
           cases p with
           | none => simp [binA, eqKind, eqA, hu]
           | some a => simp [binA, eqKind, eqA, hu])
    · exact h.elim
  · rename_i hu
    unfold asFnNil at h
    split at h
    · split at h <;> first
        | exact h.elim
        | exact ⟨_, by simp [binA, eqKind, eqA, hu], h⟩
    · split at h <;> first
        | exact h.elim
        | exact ⟨_, by simp [binA, eqKind, eqA, hu], h⟩
    · exact h.elim
  · exact h.elim

theorem bndHi_ok {len : Nat} {hi : Option Value} {K : Nat → Prop} (h : bndHi len hi K) : ∃ n, boundA 0 len len hi = some n ∧ K n := by
  unfold bndHi at h
  split at h
  · exact ⟨len, by simp [boundA], h⟩
  · replace h := asNum_elim h
    obtain ⟨k, n, rfl, h1, h2⟩ := h
    exact ⟨_, by simp only [boundA]; rw [if_pos (by simpa [inS] using h1)], h2⟩

theorem bndLo_ok {hh : Nat} {lo : Option Value} {K : Nat → Prop} (h : bndLo hh lo K) : ∃ n, boundA 0 0 hh lo = some n ∧ K n := by
  unfold bndLo at h
  split at h
  · exact ⟨0, by simp [boundA], h⟩
  · replace h := asNum_elim h
    obtain ⟨k, n, rfl, h1, h2⟩ := h
    exact ⟨_, by simp only [boundA]; rw [if_pos (by simpa [inS] using h1)], h2⟩

theorem wpSlice_ok {H : Heap} {t : Nat} {x : Value} {lo hi mx : Option Value} {K : Value → Prop} (h : wpSlice E H t x lo hi mx K) : ∃ v, sliceA E H t x lo hi mx = some v ∧ K v := by
  unfold wpSlice at h
  split at h
  · exact h.elim
  · split at h
    · rename_i e hu
      split at h
      · rename_i n hn
        replace h := asSlice_elim h
        obtain ⟨a, len, c, rfl, h⟩ := h
        obtain ⟨hh, h1, h⟩ := bndHi_ok h
        obtain ⟨l, h2, h⟩ := bndLo_ok h
        unfold slK at h
        simp only [sliceA, hu, hn, Option.bind_some, h1, h2]
        split at h
        · exact ⟨_, rfl, h⟩
        · obtain ⟨⟨w, z, c, h3, h4⟩, h5⟩ := h
          refine ⟨_, ?_, h5⟩
          simp only [h3]
          rw [if_pos h4]
        · exact h.elim
      · exact h.elim
    · rename_i n e hu
      split at h
      · rename_i hn
        replace h := asAddr_elim h
        obtain ⟨i, o, rfl, ⟨w, c, h3⟩, h5⟩ := h
        exact ⟨_, by simp only [sliceA, hu, h3, hn, Option.bind_some], h5⟩
      · exact h.elim
    · exact h.elim

theorem wpLookup_ok {H : Heap} {t : Nat} {x k : Value} {ok : Bool} {K : Value → Prop} (h : wpLookup E H t x k ok K) : ∃ v, lookupA E H t x k ok = some v ∧ K v := by
  unfold wpLookup at h
  split at h
  · rename_i kt e hu
    split at h
    · rename_i kd hk
      split at h
      · rename_i z hz
        replace h := asMap_elim h
        obtain ⟨m, rfl, r, hr, h⟩ := h
        obtain ⟨v, h1, h2⟩ := exPart_some h
        refine ⟨_, ?_, h2⟩
        unfold got at h1
        unfold mapGet entriesOf at hr
        simp only [lookupA, hu, hk, hz, Option.bind_some]
        cases m with
        | none =>
          simp only [Option.bind_some] at hr ⊢
          rw [hr]
          cases r with
          | none => simp only at h1; subst h1; cases ok <;> rfl
          | some p => obtain ⟨j, u⟩ := p; simp only at h1; subst h1; cases ok <;> rfl
        | some i =>
          simp only at hr ⊢
          split at hr
          · rename_i es ck hg
            simp only [hg, Option.bind_some] at hr ⊢
            rw [hr]
            cases r with
            | none => simp only at h1; subst h1; cases ok <;> rfl
            | some p => obtain ⟨j, u⟩ := p; simp only at h1; subst h1; cases ok <;> rfl
          · cases hr
      · exact h.elim
    · exact h.elim
  · exact h.elim

theorem wpMapUpdate_ok {H : Heap} {t : Nat} {m k v : Value} {K : Heap → Prop} (h : wpMapUpdate E H t m k v K) : ∃ H', mapUpdateA E H t m k v = some H' ∧ K H' := by
  unfold wpMapUpdate at h
  split at h
  · rename_i kt e hu
    split at h
    · rename_i kd hk
      replace h := asMap_elim h
      obtain ⟨m, rfl, i, es, ck, r, rfl, h1, h2, h3⟩ := h
      refine ⟨_, ?_, h3⟩
      simp only [mapUpdateA, hu, hk, Option.bind_some, h1, h2, Option.map_some, Option.some.injEq]
      cases r with
      | none => rfl
      | some p => rfl
    · exact h.elim
  · exact h.elim

theorem wpDelete_ok {H : Heap} {t : Nat} {m k : Value} {K : Heap → Prop} (h : wpDelete E H t m k K) : ∃ H', deleteA E H t m k = some H' ∧ K H' := by
  unfold wpDelete at h
  split at h
  · rename_i kt e hu
    split at h
    · rename_i kd hk
      replace h := asMap_elim h
      obtain ⟨m, rfl, i, es, ck, r, rfl, h1, h2, h3⟩ := h
      refine ⟨_, ?_, h3⟩
      simp only [deleteA, hu, hk, Option.bind_some, h1, h2, Option.map_some, Option.some.injEq]
      cases r with
      | none => rfl
      | some p => rfl
    · exact h.elim
  · exact h.elim

theorem wpLen_ok {H : Heap} {t : Nat} {x : Value} {K : Value → Prop} (h : wpLen E H t x K) : ∃ v, lenA E H t x = some v ∧ K v := by
  unfold wpLen at h
  split at h
  · rename_i e hu
    replace h := asSlice_elim h
    obtain ⟨a, n, c, rfl, h⟩ := h
    exact ⟨_, by simp only [lenA, hu]; rfl, h⟩
  · rename_i hu
    split at h
    · exact ⟨_, by simp only [lenA, hu]; rfl, h⟩
    · exact h.elim
  · rename_i n e hu
    exact ⟨_, by simp only [lenA, hu]; rfl, h⟩
  · rename_i kt e hu
    replace h := asMap_elim h
    obtain ⟨m, rfl, es, h1, h2⟩ := h
    unfold entriesOf at h1
    cases m with
    | none =>
      simp only [Option.some.injEq] at h1
      subst h1
      exact ⟨_, by simp only [lenA, hu]; rfl, h2⟩
    | some i =>
      simp only at h1
      split at h1
      · rename_i es' ck hg
        simp only [Option.some.injEq] at h1
        subst h1
        exact ⟨_, by simp only [lenA, hu, hg]; rfl, h2⟩
      · cases h1
  · exact h.elim

theorem rowOf_ok {H : Heap} {es : Nat} {a : Option Addr} {n c : Nat} {l : List Value} (h : rowOf H es a n = some l) : firstCellsA H es n (.slice a n c) = some l := by
  unfold rowOf at h
  cases a with
  | none => exact h
  | some A =>
    obtain ⟨i, o, s⟩ := A
    cases s <;> exact h

theorem wpAppend_ok {H : Heap} {ts : Array TypeId} {args : List Value} {K : Value → Heap → Prop} (h : wpAppend E H ts args K) : ∃ v H', appendA E H ts args = some (v, H') ∧ K v H' := by
  unfold wpAppend at h
  split at h
  · rename_i st xt hts
    cases hb : Nat.beq xt st with
    | false => rw [hb] at h; exact h.elim
    | true =>
      obtain rfl := Nat.eq_of_beq_eq_true hb
      rw [hb] at h
      simp only [cond_true] at h
      split at h
      · rename_i e hu
        split at h
        · rename_i es z i h1 h2 h3
          cases hz : (Nat.beq es 0 || Nat.beq i.bytes 0) with
          | true => rw [hz] at h; exact h.elim
          | false =>
            rw [hz] at h
            simp only [cond_false] at h
            simp only [Bool.or_eq_false_iff] at hz
            split at h
            · rename_i x y
              replace h := asSlice_elim h
              obtain ⟨a, len, c, rfl, h⟩ := h
              replace h := asSlice_elim h
              obtain ⟨b, n, c', rfl, new, hnew, h⟩ := h
              have hb1 : 1 ≤ i.bytes := by have := Nat.ne_of_beq_eq_false hz.2; omega
              simp only [appendA, hts, if_pos, hu, h1, Option.bind_some, lenOfA, rowOf_ok hnew, hz.1, cond_false]
              rcases h with ⟨rfl, h⟩ | ⟨hn, h⟩
              · rw [if_pos rfl]
                refine ⟨_, _, rfl, ?_⟩
                exact h
              · rw [if_neg (by omega)]
                rcases h with ⟨rfl, rfl, hlim, h⟩ | ⟨j, o, cs, rfl, hg, h⟩
                · simp only [if_pos, growsA, h2, h3, Option.bind_some]
                  rw [if_pos ⟨hlim, hb1⟩]
                  exact ⟨_, _, rfl, by simpa [newRowA] using h⟩
                · simp only [hg, if_pos]
                  rcases h with ⟨hc, H', hs, h⟩ | ⟨hc, old, ho, hlim, h⟩
                  · rw [if_pos hc, hs]
                    exact ⟨_, _, rfl, h⟩
                  · rw [if_neg (by omega), ho]
                    simp only [Option.bind_some, growsA, h2, h3]
                    rw [if_pos ⟨hlim, hb1⟩]
                    exact ⟨_, _, rfl, h⟩
            · exact h.elim
        · exact h.elim
      · exact h.elim
  · exact h.elim

theorem wpBuiltin_ok {H : Heap} {b : Builtin} {ts : Array TypeId} {args : List Value} {K : Value → Heap → Prop} (h : wpBuiltin E H b ts args K) : ResK E H K (builtinA E H b ts args) := by
  unfold wpBuiltin at h
  split at h
  · exact resK_rvh (wpAppend_ok h)
  · obtain ⟨v, H', h1, h2⟩ := h
    obtain ⟨u, rfl, h2⟩ := exOne_some h2
    exact resK_rvh ⟨_, _, h1, h2⟩
  · split at h
    · rename_i t _ x _ ht
      simp only [builtinA, ht]
      exact resK_rv (wpLen_ok h)
    · exact h.elim
  · split at h
    · rename_i t _ m k ht
      simp only [builtinA, ht]
      exact resK_rh (wpDelete_ok h)
    · exact h.elim
  · split at h
    · rename_i t _ x ht
      simp only [builtinA, ht]
      exact resK_rh (asSome_elim h)
    · exact h.elim
  · exact resK_rv (asSome_elim h)
  · exact resK_rv (asSome_elim h)
  · exact h.elim

theorem CA_like {f : FuncId} {args : List Value} {H : Heap} {z : Value} {K : Value → Heap → Prop} (h : CA E f args H fun v H' => exLike z fun u => v = u ∧ K u H') : CA E f args H K :=
  h.mono fun v H' h => by
    obtain ⟨u, rfl, h⟩ := exLike_some h
    exact h

theorem wpCall_ok {e : Operand → Value} {t : TypeId} {c : Call} {H : Heap} {K : Value → Heap → Prop} (h : wpCall E e t c H K) (he : ∀ f, e (.func f) = .func (.func f) #[] #[]) :
    ResK E H K (match c.callee with
      | .value f => callA E H (e f) (c.args.toList.map e)
      | .builtin b => builtinA E H b c.argTypes (c.args.toList.map e)
      | .invoke _ _ => none) := by
  unfold wpCall at h
  split at h
  · rename_i f hf
    rw [hf]
    simp only [he, callA, List.nil_append, List.append_nil]
    unfold wpCallF at h
    split at h
    · rename_i fn hfn
      simp only [hfn]
      exact CA_like h
    · rename_i hfn
      simp only [hfn]
      cases hc : E.clone f with
      | false => rw [hc] at h; exact h.elim
      | true =>
        rw [hc] at h
        simp only [cond_true] at h ⊢
        split at h
        · rename_i t v ha
          obtain ⟨m, hv, i, es, ck, rfl, h1, h2⟩ := asMap_elim h
          subst hv
          simp only [cloneA, ha, h1]
          exact h2
        · exact h.elim
  · rename_i f hf hne
    rw [hne]
    obtain ⟨k, fs, cs, hv, ⟨fn, hfn⟩, h⟩ := asFn_elim h
    simp only [hv, callA, hfn]
    exact CA_like h
  · rename_i b hb
    rw [hb]
    exact wpBuiltin_ok h
  · exact h.elim

theorem wpMakeSlice_ok {H : Heap} {t : Nat} {len cap : Value} {K : Value → Heap → Prop} (h : wpMakeSlice E H t len cap K) : ∃ v H', makeSliceA E H t len cap = some (v, H') ∧ K v H' := by
  unfold wpMakeSlice at h
  split at h
  · rename_i e hu
    split at h
    · rename_i z i hz hi
      replace h := asNum_elim h
      obtain ⟨k, l, rfl, h⟩ := h
      replace h := asNum_elim h
      obtain ⟨k', c, rfl, h1, h⟩ := h
      cases hb : (Nat.ble 1 i.bytes && Nat.ble 1 z.length) with
      | false => rw [hb] at h; exact h.elim
      | true =>
        rw [hb] at h
        simp only [Bool.and_eq_true] at hb
        refine ⟨_, _, ?_, h⟩
        simp only [makeSliceA, hu, hz, hi, Option.bind_some]
        rw [if_pos ⟨h1.1, h1.2.1, h1.2.2, Nat.le_of_ble_eq_true hb.1, Nat.le_of_ble_eq_true hb.2⟩]
        rfl
    · exact h.elim
  · exact h.elim

theorem wpOp_ok {e : Operand → Value} {o : Oper} {H : Heap} {K : Value → Heap → Prop} (he : ∀ f, e (.func f) = .func (.func f) #[] #[]) (hc : ∀ v, plain v = true → e (.const v) = v) (h : wpOp E e o H K) : ResK E H K (aop E e o.op H) := by
  unfold wpOp at h
  split at h
  case h_1 hop => simp only [hop, aop]; exact h
  case h_2 hop => simp only [hop, aop]; exact h
  case h_3 c a b hop =>
    simp only [hop, aop]
    obtain ⟨t, h1, h2⟩ := asBool_elim h
    simp only [h1]
    cases t <;> exact h2
  case h_4 t hop =>
    simp only [hop, aop]
    split at h
    · rename_i vs hz
      cases h1 : zeroV E t with
      | none => rw [h1] at hz; cases hz
      | some z =>
        rw [h1] at hz
        simp only [Option.bind_some] at hz ⊢
        refine resK_rvh ⟨_, _, by rw [newVal, hz]; rfl, h⟩
    · exact h.elim
  case h_5 t x hop =>
    simp only [hop, aop]
    obtain ⟨vs, h1, h2⟩ := asCells_elim h
    exact resK_rvh ⟨_, _, by rw [newVal, h1]; rfl, h2⟩
  case h_6 t parts hop =>
    simp only [hop, aop]
    have e1 : parts.map (fun p => (p.1, e p.2)) = ⟨parts.toList.map fun p => (p.1, e p.2)⟩ := by rw [← Array.toList_inj]; simp
    rw [e1]
    exact resK_rv (asSome_elim h)
  case h_7 t len parts hop =>
    simp only [hop, aop]
    have e1 : parts.map (fun p => (p.1, e p.2)) = ⟨parts.toList.map fun p => (p.1, e p.2)⟩ := by rw [← Array.toList_inj]; simp
    rw [e1]
    obtain ⟨p, h1, h2⟩ := asSome_elim h
    have h3 : buildSliceA E H t len ⟨parts.toList.map fun p => (p.1, e p.2)⟩ = some (.slice (some ⟨H.next, 0, none⟩) len 0, H.new (.cells true p.1 p.2)) := by
      unfold cellsBuilt at h1
      unfold buildSliceA
      split at h1
      · rename_i el hu
        cases hz : zeroCellsA E el with
        | none => rw [hz] at h1; cases h1
        | some z =>
          rw [hz] at h1
          simp only [hu, hz, Option.bind_some] at h1 ⊢
          cases hcd : (partsOk ⟨parts.toList.map fun p => (p.1, e p.2)⟩ && Nat.ble (len * z.length) 16777216 && Nat.ble 1 z.length) with
          | false => rw [hcd] at h1; cases h1
          | true =>
          rw [hcd] at h1
          simp only [cond_true] at h1 ⊢
          cases hfill : Instr.fill (fun i => some (i * z.length, z.length)) ⟨reps len z⟩ (parts.toList.map fun p => (p.1, e p.2)) with
          | none => rw [hfill] at h1; cases h1
          | some cs =>
            rw [hfill] at h1
            simp only [Option.bind_some] at h1 ⊢
            cases ho : cs.toList.all one with
            | false => rw [ho] at h1; cases h1
            | true =>
              rw [ho] at h1
              simp only [cond_true, Option.some.injEq] at h1
              subst h1
              simp [newRowA]
      · cases h1
    exact resK_rvh ⟨_, _, h3, h2⟩
  case h_8 t a hop => simp only [hop, aop]; exact resK_rv (wpLoad_ok h)
  case h_9 t a x hop => simp only [hop, aop]; exact resK_rh (wpStore_ok h)
  case h_10 x hop =>
    simp only [hop, aop]
    split at h
    · obtain ⟨f, fs, cs, h1, h2⟩ := asFn_elim h
      simp only [h1]
      exact h2
    · obtain ⟨i, o, h1, h2⟩ := asAddr_elim h
      simp only [h1]
      exact h2
  case h_11 op t x y t2 hop =>
    simp only [hop, aop]
    split at h
    · rename_i c
      cases hb : (isNilLit c && plain c) with
      | true =>
        rw [hb] at h
        simp only [Bool.and_eq_true] at hb
        rw [hc _ hb.2]
        exact resK_rv (wpNilCmp_ok h)
      | false => rw [hb] at h; exact resK_rv (wpBin_ok h)
    · exact resK_rv (wpBin_ok h)
  case h_12 hop => simp only [hop, aop]; exact resK_rv (asSome_elim h)
  case h_13 hop => simp only [hop, aop]; exact resK_rv (asSome_elim h)
  case h_14 t x hop =>
    simp only [hop, aop]
    split at h
    · exact h.elim
    · rename_i d hne hd
      rw [hd]
      cases d <;> first
        | exact h
        | exact (hne _ rfl).elim
    · exact h.elim
  case h_15 f first captured hop =>
    simp only [hop, aop]
    have e1 : first.map e = ⟨first.toList.map e⟩ := by rw [← Array.toList_inj]; simp
    have e2 : captured.map e = ⟨captured.toList.map e⟩ := by rw [← Array.toList_inj]; simp
    rw [e1, e2]
    exact h
  case h_16 hop => simp only [hop, aop]; exact h
  case h_17 t r hop =>
    simp only [hop, aop]
    split at h
    · rename_i kt e' hu
      obtain ⟨k, n, h1, h2⟩ := asNum_elim h
      simp only [hu, h1]
      exact h2
    · exact h.elim
  case h_18 hop => simp only [hop, aop]; exact resK_rvh (wpMakeSlice_ok h)
  case h_19 hop => simp only [hop, aop]; exact resK_rv (wpSlice_ok h)
  case h_20 s x f hop =>
    simp only [hop, aop]
    unfold wpFieldAddr at h
    split at h
    · rename_i fields hu
      split at h
      · rename_i fd hf
        split at h
        · rename_i n hn
          cases hb : Nat.beq n 0 with
          | true => rw [hb] at h; exact h.elim
          | false =>
            rw [hb] at h
            obtain ⟨i, o, h1, h2⟩ := asAddr_elim h
            simp only [hu, h1, hf, hn, Option.bind_some]
            rw [if_neg (Nat.ne_of_beq_eq_false hb)]
            exact h2
        · exact h.elim
      · exact h.elim
    · exact h.elim
  case h_21 t x f hop =>
    simp only [hop, aop]
    split at h
    · rename_i fields cs hu hx
      split at h
      · rename_i fd hf
        simp only [hu, hx, hf]
        exact resK_rv (asSome_elim h)
      · exact h.elim
    · exact h.elim
  case h_22 t x ix hop =>
    simp only [hop, aop]
    unfold wpIndexAddr at h
    split at h
    · rename_i el hu
      split at h
      · rename_i s hs
        obtain ⟨a, len, c, hx, h1⟩ := asSlice_elim h
        obtain ⟨k, n, hi, hb, h2⟩ := asNum_elim h1
        obtain ⟨i, o, rfl, h3⟩ := asRow_elim h2
        simp only [hu, hx, hi, hs, Option.bind_some]
        rw [if_pos (show _ ∧ _ from hb)]
        exact h3
      · exact h.elim
    · rename_i len el hu
      split at h
      · rename_i s hs
        obtain ⟨i, o, hx, h⟩ := asAddr_elim h
        obtain ⟨k, n, hi, hb, h⟩ := asNum_elim h
        simp only [hu, hx, hi, hs, Option.bind_some]
        rw [if_pos (show _ ∧ _ from hb)]
        exact h
      · exact h.elim
    · exact h.elim
  case h_23 t x ix hop =>
    simp only [hop, aop]
    split at h
    · rename_i len el hu
      split at h
      · rename_i cs s hx hs
        obtain ⟨k, n, hi, hb, h⟩ := asNum_elim h
        simp only [hu, hx, hi, hs, Option.bind_some]
        rw [if_pos (show _ ∧ _ from hb)]
        exact resK_rv (asSome_elim h)
      · exact h.elim
    · rename_i hu
      split at h
      · rename_i s hx
        obtain ⟨k, n, hi, h⟩ := asNum_elim h
        obtain ⟨v, h1, h⟩ := asSome_elim h
        obtain ⟨u, rfl, h⟩ := exOne_some h
        simp only [hu, hx, hi]
        exact resK_rv ⟨_, h1, h⟩
      · exact h.elim
    · exact h.elim
  case h_24 hop => simp only [hop, aop]; exact resK_rv (wpLookup_ok h)
  case h_25 hop => simp only [hop, aop]; exact resK_rh (wpMapUpdate_ok h)
  case h_26 hop => simp only [hop, aop]; exact resK_rh (wpMapUpdate_ok h)
  case h_27 x t0 asserted hop =>
    simp only [hop, aop]
    split at h
    · exact h.elim
    · rename_i d hne hu
      split at h
      · rename_i t v hx
        cases hb : Nat.beq t asserted with
        | false => rw [hb] at h; exact h.elim
        | true =>
          rw [hb] at h
          have et := Nat.eq_of_beq_eq_true hb
          rw [hu, hx]
          cases d <;> first
            | (simp only; rw [if_pos et]; exact h)
            | exact (hne _ rfl).elim
      · exact h.elim
    · exact h.elim
  case h_28 t ix hop =>
    simp only [hop, aop]
    split at h
    · rename_i vs hx
      split at h
      · rename_i v hv
        simp only [hx, hv]
        exact h
      · exact h.elim
    · exact h.elim
  case h_29 c hop => simp only [hop, aop]; exact wpCall_ok h he
  case h_30 => exact h.elim
end
end Go.AS
