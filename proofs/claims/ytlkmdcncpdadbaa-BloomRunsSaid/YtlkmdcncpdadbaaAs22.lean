/-
  The same for regions, code and calls.
-/
import Derived.Test.YtlkmdcncpdadbaaAs21
namespace Go.AS
open Go.RowKit

theorem turnInto {β α : Prop} (h : β) (e : α = β) : α := e.mpr h

set_option linter.unusedVariables false

section
variable {E : Env} {bm : Bool}

theorem evL_func (xs : Fr) (f : FuncId) : evL E xs (.func f) = .func (.func f) #[] #[] := rfl
theorem evL_const (xs : Fr) (v : Value) (h : plain v = true) : evL E xs (.const v) = v := by simp [evL, h]

theorem set_self {xs : Fr} {d : Nat} {v : Value} (h : xs[d]? = some v) : xs.set d v = xs := by
  obtain ⟨h1, rfl⟩ := List.getElem?_eq_some_iff.1 h
  exact List.set_getElem_self h1

theorem wpWant_ok {ops : Array Oper} {xs : Fr} {o : Oper} {yes no : Fr → Prop} (h : wpWant ops xs o yes no) : (wantedA ops (ofL xs) o = some true ∧ yes xs) ∨ (wantedA ops (ofL xs) o = some false ∧ no xs) := by
  unfold wpWant at h
  unfold wantedA
  cases hg : o.guard with
  | none => rw [hg] at h; exact .inl ⟨rfl, h⟩
  | some p =>
    obtain ⟨j, want⟩ := p
    rw [hg] at h
    simp only at h ⊢
    cases hd : (ops[j]?).bind (·.dst) with
    | none => rw [hd] at h; exact .inr ⟨rfl, h⟩
    | some d =>
      rw [hd] at h
      simp only [ofL_get] at h ⊢
      split at h
      · rename_i b hx
        cases want <;> cases b <;> simp only [cond_true, cond_false, set_self hx] at h
        · exact .inl ⟨by rw [hx]; rfl, h⟩
        · exact .inr ⟨by rw [hx]; rfl, h⟩
        · exact .inr ⟨by rw [hx]; rfl, h⟩
        · exact .inl ⟨by rw [hx]; rfl, h⟩
      · rename_i hx; exact .inr ⟨by rw [hx], h⟩
      · rename_i hx; exact .inr ⟨by rw [hx], h⟩
      · exact h.elim

theorem wpOps_ok {ops : Array Oper} : ∀ {l : List Oper} {xs : Fr} {H : Heap} {Q : Fr → Heap → Prop}, wpOps E ops l xs H Q →
    OA E ops l (ofL xs) H fun T H' => ∃ xs', T = ofL xs' ∧ xs'.length = xs.length ∧ (∀ k, k ∉ writesOps l [] → xs'[k]? = xs[k]?) ∧ Q xs' H'
  | [], xs, H, Q, h => OA_nil ⟨xs, rfl, rfl, fun _ _ => rfl, h⟩
  | o :: l, xs, H, Q, h => by
    have mem : ∀ (l : List Oper) (ds : List Nat) (k : Nat), k ∈ ds → k ∈ writesOps l ds := by
      intro l
      induction l with
      | nil => intro ds k hk; exact hk
      | cons o l ih =>
        intro ds k hk
        simp only [writesOps]
        split
        · rename_i d hd
          refine ih _ _ ?_
          cases ds.any (Nat.beq d)
          · exact List.mem_append_left _ hk
          · exact hk
        · exact ih _ _ hk
    have mem' : ∀ (l : List Oper) (ds ds' : List Nat) (k : Nat), (∀ k, k ∈ ds → k ∈ ds') → k ∈ writesOps l ds → k ∈ writesOps l ds' := by
      intro l
      induction l with
      | nil => intro ds ds' k hs hk; exact hs _ hk
      | cons o l ih =>
        intro ds ds' k hs hk
        simp only [writesOps] at hk ⊢
        cases hd : o.dst with
        | none => rw [hd] at hk; exact ih _ _ _ hs hk
        | some d =>
          rw [hd] at hk
          refine ih _ _ _ (fun j hj => ?_) hk
          have hd' : d ∈ (bif ds'.any (Nat.beq d) then ds' else ds' ++ [d]) := by
            cases ha : ds'.any (Nat.beq d) with
            | false => simp
            | true =>
              simp only [List.any_eq_true] at ha
              obtain ⟨u, hu, hb⟩ := ha
              rw [cond_true, Nat.eq_of_beq_eq_true hb]
              exact hu
          have hj' : j ∈ ds ∨ j = d := by
            cases ha : ds.any (Nat.beq d) with
            | false => rw [ha] at hj; simpa using hj
            | true => rw [ha] at hj; exact .inl hj
          rcases hj' with hj' | rfl
          · have := hs _ hj'
            cases ds'.any (Nat.beq d)
            · exact List.mem_append_left _ this
            · exact this
          · exact hd'
    have same : ∀ (v : Value) (k : Nat), k ∉ writesOps (o :: l) [] → (putL xs o.dst v)[k]? = xs[k]? := by
      intro v k hk
      unfold putL
      split
      · rename_i d hd
        have : k ≠ d := by
          rintro rfl
          refine hk ?_
          simp only [writesOps, hd]
          exact mem _ _ _ (by simp)
        rw [List.getElem?_set_ne (Ne.symm this)]
      · rfl
    have sub : ∀ k, k ∉ writesOps (o :: l) [] → k ∉ writesOps l [] := by
      intro k hk hk'
      refine hk ?_
      simp only [writesOps]
      split
      · exact mem' _ _ _ _ (by simp) hk'
      · exact hk'
    have len : ∀ v, (putL xs o.dst v).length = xs.length := by
      intro v; unfold putL; split <;> simp
    have lift : ∀ (v : Value) (T : Tr Value) (H' : Heap), (∃ xs', T = ofL xs' ∧ xs'.length = (putL xs o.dst v).length ∧ (∀ k, k ∉ writesOps l [] → xs'[k]? = (putL xs o.dst v)[k]?) ∧ Q xs' H') →
        ∃ xs', T = ofL xs' ∧ xs'.length = xs.length ∧ (∀ k, k ∉ writesOps (o :: l) [] → xs'[k]? = xs[k]?) ∧ Q xs' H' := by
      rintro v T H' ⟨xs', h1, h2, h3, h4⟩
      exact ⟨xs', h1, h2.trans (len v), fun k hk => (h3 k (sub k hk)).trans (same v k hk), h4⟩
    have oam : ∀ {l : List Oper} {T : Tr Value} {H : Heap} {Q Q' : Tr Value → Heap → Prop}, OA E ops l T H Q → (∀ T H, Q T H → Q' T H) → OA E ops l T H Q' :=
      fun h hq => let ⟨n, s, h1, h2⟩ := h; ⟨n, s, h1, hq _ _ h2⟩
    rcases wpWant_ok h with ⟨hw, h⟩ | ⟨hw, h⟩
    · refine OA_cons ?_
      rw [hw]
      simp only [OpW]
      have h1 := wpOp_ok (evL_func xs) (evL_const xs) h
      rw [ev_ofL]
      cases hr : aop E (evL E xs) o.op H with
      | none => rw [hr] at h1; exact h1.elim
      | some r =>
        rw [hr] at h1
        cases r with
        | val v H' =>
          simp only [OpA, putT_ofL]
          exact oam (wpOps_ok h1) (lift v)
        | call f args =>
          simp only [OpA, putT_ofL]
          exact CA.mono h1 fun v H' h2 => oam (wpOps_ok h2) (lift v)
    · refine OA_cons ?_
      rw [hw]
      simp only [OpW, putT_ofL]
      exact oam (wpOps_ok h) (lift undef)

/-! ### Regions that draw their order -/
theorem sameP_ok {v w : Value} (h : sameP v w) : sameN 8 v w = true := by
  unfold sameP at h
  split at h
  · rename_i k a j b
    by_cases e : k = j
    · subst e
      simp only [decide_true, cond_true] at h
      subst h
      simp [sameN]
    · simp only [e, decide_false, cond_false] at h
  · subst h; simp [sameN]
  · subst h; simp [sameN]
  · obtain ⟨rfl, rfl, rfl⟩ := h; simp [sameN]
  · subst h; simp [sameN]
  · exact h

theorem birth_val {bm : Bool} {e : Operand → Value} {op : Op} {H : Heap} {r : Res} (hb : isBirth bm op = true) (h : aop E e op H = some r) : ∃ v H', r = .val v H' := by
  cases op
  case alloc t =>
    simp only [aop] at h
    cases hz : zeroV E t with
    | none => rw [hz] at h; cases h
    | some z => rw [hz] at h; obtain ⟨v, H', _, e2⟩ := rvh_some h; exact ⟨_, _, e2⟩
  case box t x => obtain ⟨v, H', _, e2⟩ := rvh_some (show rvh _ = some r from h); exact ⟨_, _, e2⟩
  case buildSlice t l p => obtain ⟨v, H', _, e2⟩ := rvh_some (show rvh _ = some r from h); exact ⟨_, _, e2⟩
  case makeSlice t l p => obtain ⟨v, H', _, e2⟩ := rvh_some (show rvh _ = some r from h); exact ⟨_, _, e2⟩
  case makeMap t rr =>
    cases rr with
    | none => simp only [aop, Option.some.injEq] at h; exact ⟨_, _, h.symm⟩
    | some x =>
      simp only [aop] at h
      split at h
      · simp only [Option.some.injEq] at h; exact ⟨_, _, h.symm⟩
      · cases h
  all_goals (simp [isBirth] at hb)

theorem wpBorn_ok {bm : Bool} {e : Operand → Value} {o : Oper} {K : Value → Obj → Prop} (he : ∀ f, e (.func f) = .func (.func f) #[] #[]) (hc : ∀ v, plain v = true → e (.const v) = v) (hb : isBirth bm o.op = true)
    (h : wpOp E e o heap1 fun v H' => asSome (H'.get 0) fun ob => K v ob) : ∃ v ob, bornA E e o.op = some (v, ob) ∧ K v ob := by
  have h1 := wpOp_ok he hc h
  cases hx : aop E e o.op heap1 with
  | none => rw [hx] at h1; exact h1.elim
  | some q =>
    obtain ⟨v, H', rfl⟩ := birth_val hb hx
    rw [hx] at h1
    obtain ⟨ob, h2, h3⟩ := asSome_elim h1
    exact ⟨v, ob, by simp only [bornA, hx, h2, Option.map_some], h3⟩

theorem looksP_ok {base : Nat} {r : DR} {xs : Fr} (hr : r.T = ofL xs) {H : Heap} (hl : isLoudD bm r.o.op = false) (h : looksP bm E base r H) : looksAt bm E base r H = true := by
  unfold looksP at h
  unfold looksAt
  have he : ∀ f, ev E r.T (.func f) = .func (.func f) #[] #[] := by intro f; rw [hr, ev_ofL]; rfl
  have hc : ∀ v, plain v = true → ev E r.T (.const v) = v := by intro v hv; rw [hr, ev_ofL]; exact evL_const xs v hv
  split at h
  · rename_i ty hop
    simp only [hop]
    split at h
    · rename_i vs hz
      obtain ⟨c, h1, h2⟩ := h
      simp only [hz, h1, h2]
    · exact h.elim
  · rename_i hne
    split
    · rename_i ty hop; exact (hne ty hop).elim
    cases hb : isBirth bm r.o.op with
    | true =>
      rw [hb] at h
      simp only [cond_true] at h ⊢
      obtain ⟨v, ob, h1, o, h2, h3⟩ := wpBorn_ok he hc hb h
      simp only [h1, h2, h3]
    | false =>
    rw [hb] at h
    simp only [cond_false] at h ⊢
    have h1 := wpOp_ok he hc h
    have hl' : isLoud r.o.op = false := by rw [← loudD_of hb]; exact hl
    have : ∃ v H', aop E (ev E r.T) r.o.op H = some (.val v H') ∧ sameP r.v v := by
      cases hx : aop E (ev E r.T) r.o.op H with
      | none => rw [hx] at h1; exact h1.elim
      | some q =>
        obtain ⟨v, rfl⟩ := aop_quiet hl' hx
        rw [hx] at h1
        exact ⟨_, _, rfl, h1⟩
    obtain ⟨v, H', h2, h3⟩ := this
    simp only [h2, sameP_ok h3]

theorem checkP_ok {base : Nat} {r : DR} {xs : Fr} (hr : r.T = ofL xs) (hl : isLoudD bm r.o.op = false) {hs : List Heap} : ∀ (n k : Nat), checkP bm E base r hs k n → checkAt bm E base r hs k n = true
  | 0, k, _ => rfl
  | n + 1, k, h => by
    simp only [checkP] at h
    simp only [checkAt]
    cases hk : hs[k]? with
    | none => rw [hk] at h; exact h.1.elim
    | some H =>
      rw [hk] at h
      simp only [looksP_ok hr hl h.1, checkP_ok hr hl n (k + 1) h.2, Bool.and_self]

theorem quietP_ok {base : Nat} {ss : List Bool} {ms : List Nat} {all : List DR} {hs : List Heap} {m : Nat} : ∀ {l : List DR}, (∀ r ∈ l, ∃ xs, r.T = ofL xs) → quietP bm E base ss ms all hs m l → quietOk bm E base ss ms all hs m l = true
  | [], _, _ => rfl
  | r :: l, hT, h => by
    simp only [quietP] at h
    simp only [quietOk]
    obtain ⟨xs, hx⟩ := hT r (by simp)
    cases hb : (!r.w || isLoudD bm r.o.op || isPure r.o.op || (ss.getD r.i false && !isBirth bm r.o.op)) with
    | true =>
      rw [hb] at h
      simp only [cond_true] at h
      simp only [Bool.true_or, Bool.true_and]
      exact quietP_ok (fun r hr => hT r (by simp [hr])) h
    | false =>
      rw [hb] at h
      simp only [cond_false] at h
      have hl : isLoudD bm r.o.op = false := by
        simp only [Bool.or_eq_false_iff] at hb
        exact hb.1.1.2
      simp only [Bool.false_or, checkP_ok hx hl _ _ h.1, Bool.true_and]
      exact quietP_ok (fun r hr => hT r (by simp [hr])) h.2

theorem preH_ok {base : Nat} : ∀ (l : List Oper) (i : Nat) (os : List Obj) (H H' : Heap), preH bm E base l i os H = some H' → preA bm E base l i os H.tr = some H'.tr ∧ H'.next = H.next
  | [], i, os, H, H', h => by
    simp only [preH, Option.some.injEq] at h
    subst h
    exact ⟨rfl, rfl⟩
  | o :: l, i, os, H, H', h => by
    simp only [preH] at h
    simp only [preA]
    rcases isAlloc o.op with ⟨ty, hop⟩ | hna
    · rw [hop] at h ⊢
      simp only at h ⊢
      cases hz : (zeroV E ty).bind cellsOf with
      | none => rw [hz] at h; cases h
      | some vs =>
        rw [hz] at h
        obtain ⟨h1, h2⟩ := preH_ok l (i + 1) os _ H' h
        exact ⟨h1, h2⟩
    · split at h
      · rename_i ty hop; exact (hna _ hop).elim
      · split
        · rename_i ty hop; exact (hna _ hop).elim
        · cases hb : isBirth bm o.op with
          | false =>
            rw [hb] at h
            exact preH_ok l (i + 1) os H H' h
          | true =>
            rw [hb] at h
            simp only [cond_true] at h ⊢
            cases os with
            | nil => cases h
            | cons ob os =>
              obtain ⟨h1, h2⟩ := preH_ok l (i + 1) os _ H' h
              exact ⟨h1, h2⟩

theorem wpPass_ok {ops : Array Oper} {base : Nat} : ∀ {l : List Oper} {i : Nat} {xs : Fr} {H : Heap} {k : Nat} {rs : List DR} {hs : List Heap} {F : List DR → Fr → List Heap → Heap → Prop},
    wpPass bm E ops base l i xs H k rs hs F → (∀ r ∈ rs, ∃ xs, r.T = ofL xs) →
    ∃ n rs' xs' hs' H', pass1 bm E (sem E n) ops base l i (ofL xs) H k rs hs = some (rs', ofL xs', hs', H') ∧ xs'.length = xs.length ∧ (∀ k, k ∉ writesOps l [] → xs'[k]? = xs[k]?) ∧ (∀ r ∈ rs', ∃ xs, r.T = ofL xs) ∧ F rs' xs' hs' H'
  | [], i, xs, H, k, rs, hs, F, h, hT => ⟨0, rs, xs, hs, H, rfl, rfl, fun _ _ => rfl, hT, h⟩
  | o :: l, i, xs, H, k, rs, hs, F, h, hT => by
    have mem : ∀ (l : List Oper) (ds : List Nat) (k : Nat), k ∈ ds → k ∈ writesOps l ds := by
      intro l
      induction l with
      | nil => intro ds k hk; exact hk
      | cons o l ih =>
        intro ds k hk
        simp only [writesOps]
        split
        · rename_i d hd
          refine ih _ _ ?_
          cases ds.any (Nat.beq d)
          · exact List.mem_append_left _ hk
          · exact hk
        · exact ih _ _ hk
    have mem' : ∀ (l : List Oper) (ds ds' : List Nat) (k : Nat), (∀ k, k ∈ ds → k ∈ ds') → k ∈ writesOps l ds → k ∈ writesOps l ds' := by
      intro l
      induction l with
      | nil => intro ds ds' k hs hk; exact hs _ hk
      | cons o l ih =>
        intro ds ds' k hs hk
        simp only [writesOps] at hk ⊢
        cases hd : o.dst with
        | none => rw [hd] at hk; exact ih _ _ _ hs hk
        | some d =>
          rw [hd] at hk
          refine ih _ _ _ (fun j hj => ?_) hk
          have hd' : d ∈ (bif ds'.any (Nat.beq d) then ds' else ds' ++ [d]) := by
            cases ha : ds'.any (Nat.beq d) with
            | false => simp
            | true =>
              simp only [List.any_eq_true] at ha
              obtain ⟨u, hu, hb⟩ := ha
              rw [cond_true, Nat.eq_of_beq_eq_true hb]
              exact hu
          have hj' : j ∈ ds ∨ j = d := by
            cases ha : ds.any (Nat.beq d) with
            | false => rw [ha] at hj; simpa using hj
            | true => rw [ha] at hj; exact .inl hj
          rcases hj' with hj' | rfl
          · have := hs _ hj'
            cases ds'.any (Nat.beq d)
            · exact List.mem_append_left _ this
            · exact this
          · exact hd'
    have same : ∀ (v : Value) (k : Nat), k ∉ writesOps (o :: l) [] → (putL xs o.dst v)[k]? = xs[k]? := by
      intro v k hk
      unfold putL
      split
      · rename_i d hd
        have : k ≠ d := by
          rintro rfl
          refine hk ?_
          simp only [writesOps, hd]
          exact mem _ _ _ (by simp)
        rw [List.getElem?_set_ne (Ne.symm this)]
      · rfl
    have sub : ∀ k, k ∉ writesOps (o :: l) [] → k ∉ writesOps l [] := by
      intro k hk hk'
      refine hk ?_
      simp only [writesOps]
      split
      · exact mem' _ _ _ _ (by simp) hk'
      · exact hk'
    have len : ∀ v, (putL xs o.dst v).length = xs.length := by
      intro v; unfold putL; split <;> simp
    have hT' : ∀ (w : Bool) (v : Value), ∀ r ∈ (⟨i, o, w, ofL xs, v, k⟩ :: rs : List DR), ∃ xs, r.T = ofL xs := by
      intro w v r hr
      rcases List.mem_cons.1 hr with rfl | hr
      · exact ⟨xs, rfl⟩
      · exact hT r hr
    rcases wpWant_ok h with ⟨hw, h⟩ | ⟨hw, h⟩
    · have step : ∀ (n : Nat) (v : Value) (H' : Heap), resA (sem E n) (aopD bm E base i (ev E (ofL xs)) o.op H) H = some (v, H') →
          (bif isLoudD bm o.op then wpPass bm E ops base l (i + 1) (putL xs o.dst v) H' (k + 1) (⟨i, o, true, ofL xs, v, k⟩ :: rs) (hs ++ [H']) F
            else wpPass bm E ops base l (i + 1) (putL xs o.dst v) H k (⟨i, o, true, ofL xs, v, k⟩ :: rs) hs F) →
          (isLoudD bm o.op = false → H' = H) →
          ∃ n rs' xs' hs' H', pass1 bm E (sem E n) ops base (o :: l) i (ofL xs) H k rs hs = some (rs', ofL xs', hs', H') ∧ xs'.length = xs.length ∧ (∀ k, k ∉ writesOps (o :: l) [] → xs'[k]? = xs[k]?) ∧ (∀ r ∈ rs', ∃ xs, r.T = ofL xs) ∧ F rs' xs' hs' H' := by
        intro n v H' hr h hq
        cases hl : isLoudD bm o.op with
        | true =>
          rw [hl] at h
          simp only [cond_true] at h
          obtain ⟨m, rs', xs', hs', H2, g1, g2, g3, g4, g5⟩ := wpPass_ok h (hT' _ _)
          refine ⟨max n m, rs', xs', hs', H2, ?_, g2.trans (len v), fun k hk => (g3 k (sub k hk)).trans (same v k hk), g4, g5⟩
          simp only [pass1, hw]
          rw [resA_mono (sem_mono (Nat.le_max_left n m)) hr]
          simp only [hl, cond_true, putT_ofL]
          exact pass1_mono (sem_mono (Nat.le_max_right n m)) g1
        | false =>
          rw [hl] at h
          simp only [cond_false] at h
          obtain rfl := hq hl
          obtain ⟨m, rs', xs', hs', H2, g1, g2, g3, g4, g5⟩ := wpPass_ok h (hT' _ _)
          refine ⟨max n m, rs', xs', hs', H2, ?_, g2.trans (len v), fun k hk => (g3 k (sub k hk)).trans (same v k hk), g4, g5⟩
          simp only [pass1, hw]
          rw [resA_mono (sem_mono (Nat.le_max_left n m)) hr]
          simp only [hl, cond_false, putT_ofL]
          exact pass1_mono (sem_mono (Nat.le_max_right n m)) g1
      unfold wpOpD at h
      rcases isAlloc o.op with ⟨ty, hop⟩ | hna
      · simp only [hop] at h
        exact step 0 (.pointer (some ⟨base + i, 0, none⟩)) H (by simp only [hop, aopD, resA]) (by simp only [hop]; exact h) (fun _ => rfl)
      · split at h
        · rename_i t hop; exact absurd hop (hna t)
        · cases hbb : isBirth bm o.op with
          | true =>
            rw [hbb] at h
            simp only [cond_true] at h
            obtain ⟨v, ob, h1, h2⟩ := wpBorn_ok (evL_func xs) (evL_const xs) hbb h
            refine step 0 (atBlk (base + i) v) H ?_ h2 fun _ => rfl
            rw [ev_ofL]
            unfold aopD
            split
            · rename_i t hop; exact absurd hop (hna t)
            · rw [hbb, h1]; rfl
          | false =>
          rw [hbb] at h
          simp only [cond_false] at h
          have hna := hbb
          have h1 := wpOp_ok (evL_func xs) (evL_const xs) h
          have hD := aopD_of (E := E) (base := base) (i := i) (e := evL E xs) (H := H) hbb
          cases hr : aop E (evL E xs) o.op H with
          | none => rw [hr] at h1; exact h1.elim
          | some r =>
            rw [hr] at h1
            cases r with
            | val v H' =>
              refine step 0 v H' (by rw [ev_ofL, hD, hr]; rfl) h1 fun hl => ?_
              have hl' : isLoud o.op = false := by rw [← loudD_of hna]; exact hl
              obtain ⟨v', e⟩ := aop_quiet hl' hr
              injection e
            | call f args =>
              obtain ⟨n, v, H', h2, h3⟩ := h1
              refine step n v H' (by rw [ev_ofL, hD, hr]; exact h2) h3 fun hl => ?_
              have hl' : isLoud o.op = false := by rw [← loudD_of hna]; exact hl
              obtain ⟨v', e⟩ := aop_quiet hl' hr
              cases e
    · obtain ⟨m, rs', xs', hs', H2, g1, g2, g3, g4, g5⟩ := wpPass_ok h (hT' _ _)
      refine ⟨m, rs', xs', hs', H2, ?_, g2.trans (len undef), fun k hk => (g3 k (sub k hk)).trans (same undef k hk), g4, g5⟩
      simp only [pass1, hw, putT_ofL]
      exact g1

theorem wpPass0_ok {ops : Array Oper} {base : Nat} : ∀ {l : List Oper} {i : Nat} {xs : Fr} {H : Heap} {os : List Obj} {F : List Obj → Prop},
    wpPass0 E ops base l i xs H os F → ∃ n r, pass0 E (sem E n) ops base l i (ofL xs) H os = some r ∧ F r
  | [], i, xs, H, os, F, h => ⟨0, _, rfl, h⟩
  | o :: l, i, xs, H, os, F, h => by
    simp only [wpPass0] at h
    rcases wpWant_ok h with ⟨hw, h⟩ | ⟨hw, h⟩
    · cases hb : isBirth true o.op with
      | true =>
        rw [hb] at h
        simp only [cond_true] at h
        obtain ⟨v, ob, h1, h2⟩ := wpBorn_ok (evL_func xs) (evL_const xs) hb h
        obtain ⟨n, r, g1, g2⟩ := wpPass0_ok h2
        refine ⟨n, r, ?_, g2⟩
        simp only [pass0, hw, hb, cond_true]
        rw [ev_ofL, h1]
        simp only [putT_ofL]
        exact g1
      | false =>
        rw [hb] at h
        simp only [cond_false] at h
        have h1 := wpOp_ok (evL_func xs) (evL_const xs) h
        have key : ∃ n v H', resA (sem E n) (aop E (ev E (ofL xs)) o.op H) H = some (v, H') ∧ wpPass0 E ops base l (i + 1) (putL xs o.dst v) H' os F := by
          rw [ev_ofL]
          cases hr : aop E (evL E xs) o.op H with
          | none => rw [hr] at h1; exact h1.elim
          | some r =>
            rw [hr] at h1
            cases r with
            | val v H' => exact ⟨0, v, H', rfl, h1⟩
            | call f args =>
              obtain ⟨n, v, H', h2, h3⟩ := h1
              exact ⟨n, v, H', h2, h3⟩
        obtain ⟨n, v, H', h2, h3⟩ := key
        obtain ⟨m, r, g1, g2⟩ := wpPass0_ok h3
        refine ⟨max n m, r, ?_, g2⟩
        simp only [pass0, hw, hb, cond_false]
        rw [resA_mono (sem_mono (Nat.le_max_left n m)) h2]
        simp only [putT_ofL]
        exact pass0_mono (sem_mono (Nat.le_max_right n m)) g1
    · obtain ⟨n, r, g1, g2⟩ := wpPass0_ok h
      refine ⟨n, r, ?_, g2⟩
      simp only [pass0, hw, putT_ofL]
      exact g1

theorem wpDrawB_ok {ops : Array Oper} {os : List Obj} {xs : Fr} {H : Heap} {Q : Fr → Heap → Prop} (h : wpDrawB bm E ops os xs H Q) :
    ∃ n s', runDrawB bm E (sem E n) ops os ⟨ofL xs, H⟩ = some s' ∧ ∃ xs', s'.T = ofL xs' ∧ xs'.length = xs.length ∧ (∀ k, k ∉ writesOps ops.toList [] → xs'[k]? = xs[k]?) ∧ Q xs' s'.H := by
  unfold wpDrawB at h
  split at h
  · exact h.elim
  · rename_i H0 hp
    obtain ⟨h1, h2⟩ := preH_ok _ _ _ _ _ hp
    obtain ⟨n, rs', xs', hs', H', g1, g2, g3, g4, g5, g6⟩ := wpPass_ok h (by simp)
    have e0 : H0 = ⟨H0.tr, H.next + ops.size⟩ := by
      cases H0 with
      | mk t m => simp only [Heap.bump] at h2 ⊢; rw [h2]
    refine ⟨n, ⟨ofL xs', H'⟩, ?_, xs', rfl, g2, g3, g5⟩
    unfold runDrawB
    have h1' : preA bm E H.next ops.toList 0 os H.tr = some H0.tr := h1
    simp only
    rw [h1']
    simp only
    rw [← e0, g1]
    simp only
    rw [quietP_ok g4 g6]
    rfl

theorem wpDraw_ok {ops : Array Oper} {xs : Fr} {H : Heap} {Q : Fr → Heap → Prop} (h : wpDraw E ops xs H Q) :
    ∃ n s', runDraw E (sem E n) ops ⟨ofL xs, H⟩ = some s' ∧ ∃ xs', s'.T = ofL xs' ∧ xs'.length = xs.length ∧ (∀ k, k ∉ writesOps ops.toList [] → xs'[k]? = xs[k]?) ∧ Q xs' s'.H := by
  unfold wpDraw at h
  unfold runDraw
  cases hst : staticOk false ops with
  | true => rw [hst] at h; exact wpDrawB_ok h
  | false =>
    rw [hst] at h
    simp only [cond_false] at h ⊢
    cases hst2 : staticOk true ops with
    | false => rw [hst2] at h; exact h.elim
    | true =>
      rw [hst2] at h
      simp only [cond_true] at h ⊢
      obtain ⟨n, os, h1, h2⟩ := wpPass0_ok h
      obtain ⟨m, s', h3, h4⟩ := wpDrawB_ok h2
      refine ⟨max n m, s', ?_, h4⟩
      have e : pass0 E (sem E (max n m)) ops H.next ops.toList 0 (ofL xs) ⟨H.tr, H.next + ops.size⟩ [] = some os := pass0_mono (sem_mono (Nat.le_max_left n m)) h1
      rw [e]
      exact runDrawB_mono (sem_mono (Nat.le_max_right n m)) h3

/-! ### Code -/
theorem writesOps_iff : ∀ (l : List Oper) (ds : List Nat) (k : Nat), k ∈ writesOps l ds ↔ k ∈ ds ∨ k ∈ writesOps l []
  | [], ds, k => by simp [writesOps]
  | o :: l, ds, k => by
    simp only [writesOps]
    cases hd : o.dst with
    | none => exact writesOps_iff l ds k
    | some d =>
      simp only
      rw [writesOps_iff l _ k, writesOps_iff l (bif ([] : List Nat).any (Nat.beq d) then [] else [] ++ [d]) k]
      simp only [List.any_nil, cond_false, List.nil_append, List.mem_singleton]
      cases ha : ds.any (Nat.beq d) with
      | false => simp [or_assoc]
      | true =>
        simp only [List.any_eq_true] at ha
        obtain ⟨u, hu, hb⟩ := ha
        obtain rfl := Nat.eq_of_beq_eq_true hb
        simp only [cond_true]
        constructor
        · rintro (h | h)
          · exact .inl h
          · exact .inr (.inr h)
        · rintro (h | h | h)
          · exact .inl h
          · exact .inl (h ▸ hu)
          · exact .inr h

theorem writesIn_iff : ∀ (c : Code) (ds : List Nat) (k : Nat), k ∈ writesIn c ds ↔ k ∈ ds ∨ k ∈ writesIn c [] := by
  intro c
  induction c with
  | region id ops d => intro ds k; exact writesOps_iff _ _ _
  | seq a b iha ihb =>
    intro ds k
    simp only [writesIn]
    rw [ihb (writesIn a ds) k, ihb (writesIn a []) k, iha ds k, or_assoc]
  | cond c a b iha ihb =>
    intro ds k
    simp only [writesIn]
    rw [ihb (writesIn a ds) k, ihb (writesIn a []) k, iha ds k, or_assoc]
  | block id b ih => intro ds k; exact ih ds k
  | loop b ih => intro ds k; exact ih ds k
  | scope b ih => intro ds k; exact ih ds k
  | _ => intro ds k; simp [writesIn]

theorem asSl_elim {v : Value} {K : Option Addr → Nat → Prop} (h : asSl v K) : ∃ a l, v = .slice a l 0 ∧ K a l := by
  unfold asSl at h
  split at h
  · rename_i a l c
    cases hc : Nat.beq c 0 with
    | false => rw [hc] at h; exact h.elim
    | true => rw [hc] at h; rw [Nat.eq_of_beq_eq_true hc]; exact ⟨_, _, rfl, h⟩
  · exact h.elim

theorem asPtr_elim {v : Value} {K : Option Addr → Prop} (h : asPtr v K) : ∃ p, v = .pointer p ∧ K p := by
  unfold asPtr at h
  split at h
  · exact ⟨_, rfl, h⟩
  · exact h.elim

theorem asLike0_self {z v : Value} {K : Value → Prop} (h : asLike0 z v K) : K v := by
  unfold asLike0 at h
  split at h
  · replace h := asInt_elim h; obtain ⟨n, rfl, h⟩ := h; exact h
  · replace h := asBool_elim h; obtain ⟨b, rfl, h⟩ := h; exact h
  · replace h := asSl_elim h; obtain ⟨a, l, rfl, h⟩ := h; exact h
  · replace h := asPtr_elim h; obtain ⟨p, rfl, h⟩ := h; exact h
  · replace h := asMap_elim h; obtain ⟨m, rfl, h⟩ := h; exact h
  · exact h

theorem asLikes_self : ∀ {zs vs : List Value} {K : List Value → Prop}, asLikes zs vs K → K vs
  | [], [], K, h => h
  | z :: zs, v :: vs, K, h => asLikes_self (zs := zs) (K := fun l => K (v :: l)) (asLike0_self (K := fun u => asLikes zs vs fun l => K (u :: l)) h)
  | [], _ :: _, K, h => h.elim
  | _ :: _, [], K, h => h.elim

theorem asAgg_elim {v : Value} {K : List Value → Prop} (h : asAgg v K) : ∃ l, v = .agg ⟨l⟩ ∧ K l := by
  unfold asAgg at h
  split at h
  · exact ⟨_, rfl, h⟩
  · exact h.elim

theorem asLike_self {z v : Value} {K : Value → Prop} (h : asLike z v K) : K v := by
  unfold asLike at h
  split at h
  · replace h := asAgg_elim h
    obtain ⟨l, rfl, h⟩ := h
    exact asLikes_self h
  · exact asLike0_self h

theorem outOf_ok {zs : Sorts} {K : Fr → Prop} {xs : Fr} : ∀ (ws : List Nat) (acc : Fr), acc.length = xs.length → (∀ k, k ∉ ws → acc[k]? = xs[k]?) → outOf zs ws acc K xs → K xs
  | [], acc, hl, hs, h => by
    have : acc = xs := List.ext_getElem? fun k => hs k (by simp)
    subst this
    exact h
  | w :: ws, acc, hl, hs, h => by
    have h1 := asLike_self h
    refine outOf_ok ws _ (by simpa using hl) (fun k hk => ?_) h1
    by_cases e : k = w
    · subst e
      by_cases hlt : k < xs.length
      · rw [List.getElem?_set_self (by omega), List.getD_eq_getElem?_getD]
        simp [hlt]
      · rw [List.getElem?_eq_none (by simp; omega), List.getElem?_eq_none (by omega)]
    · rw [List.getElem?_set_ne (Ne.symm e)]
      exact hs k (by simp [e, hk])

theorem wpCode_ok : ∀ (c : Code) {Z : List Sorts} {xs : Fr} {H : Heap} {Q : X → Fr → Heap → Prop}, wpCode E c Z xs H Q →
    WA E c (ofL xs) H fun x T H' => ∃ xs', T = ofL xs' ∧ xs'.length = xs.length ∧ (∀ k, k ∉ writes c → xs'[k]? = xs[k]?) ∧ Q x xs' H' := by
  intro c
  induction c with
  | skip => intro Z xs H Q h; exact WA_skip ⟨xs, rfl, rfl, fun _ _ => rfl, h⟩
  | label l => intro Z xs H Q h; exact ⟨0, .normal, ⟨ofL xs, H⟩, rfl, xs, rfl, rfl, fun _ _ => rfl, h⟩
  | exit id => intro Z xs H Q h; exact WA_exit ⟨xs, rfl, rfl, fun _ _ => rfl, h⟩
  | ret => intro Z xs H Q h; exact WA_ret ⟨xs, rfl, rfl, fun _ _ => rfl, h⟩
  | scope b ih => intro Z xs H Q h; exact WA_scope (ih h)
  | region id ops d =>
    intro Z xs H Q h
    cases d with
    | false => exact WA_region (wpOps_ok h)
    | true =>
      obtain ⟨n, s, h1, h2⟩ := wpDraw_ok h
      exact ⟨n, .normal, s, by simp only [runCode, cond_true]; rw [h1], h2⟩
  | seq a b iha ihb =>
    intro Z xs H Q h
    refine WA_seq ((iha h).mono ?_)
    rintro x T H' ⟨xs', rfl, h1, h2, h3⟩
    have lift : ∀ xs'' : Fr, xs''.length = xs'.length → (∀ k, k ∉ writes b → xs''[k]? = xs'[k]?) → xs''.length = xs.length ∧ ∀ k, k ∉ writes (.seq a b) → xs''[k]? = xs[k]? := by
      intro xs'' g1 g2
      refine ⟨g1.trans h1, fun k hk => ?_⟩
      have : k ∉ writes a ∧ k ∉ writes b := by
        simp only [writes, writesIn] at hk
        rw [writesIn_iff] at hk
        exact ⟨fun e => hk (.inl e), fun e => hk (.inr e)⟩
      exact (g2 k this.2).trans (h2 k this.1)
    cases x with
    | normal =>
      simp only [XThen]
      refine (ihb h3).mono ?_
      rintro y T H' ⟨xs'', rfl, g1, g2, g3⟩
      exact ⟨xs'', rfl, (lift xs'' g1 g2).1, (lift xs'' g1 g2).2, g3⟩
    | exit id => exact ⟨xs', rfl, (lift xs' rfl fun _ _ => rfl).1, (lift xs' rfl fun _ _ => rfl).2, h3⟩
    | ret => exact ⟨xs', rfl, (lift xs' rfl fun _ _ => rfl).1, (lift xs' rfl fun _ _ => rfl).2, h3⟩
  | cond c a b iha ihb =>
    intro Z xs H Q h
    have goal : ∃ t, ev E (ofL xs) c = .bool t ∧ if t = true then wpCode E a Z xs H Q else wpCode E b (Z.drop (loopsN a)) xs H Q := by
      simp only [wpCode] at h
      rw [ev_ofL]
      split at h
      · rename_i t
        obtain ⟨v, h1, h2⟩ := asBool_elim h
        refine ⟨v, h1, ?_⟩
        have hs : xs.set t (.bool v) = xs := by
          by_cases hlt : t < xs.length
          · refine set_self ?_
            rw [List.getD_eq_getElem?_getD] at h1
            simp only [hlt, List.getElem?_eq_getElem, Option.getD_some] at h1 ⊢
            rw [h1]
          · exact List.set_eq_of_length_le (Nat.le_of_not_lt hlt)
        cases v with
        | true => rw [if_pos rfl]; simp only [cond_true, hs] at h2; exact h2
        | false => rw [if_neg (by simp)]; simp only [cond_false, hs] at h2; exact h2
      · obtain ⟨v, h1, h2⟩ := asBool_elim h
        refine ⟨v, h1, ?_⟩
        cases v with
        | true => rw [if_pos rfl]; exact h2
        | false => rw [if_neg (by simp)]; exact h2
    obtain ⟨t, h1, h2⟩ := goal
    refine WA_cond h1 ?_
    have sub : ∀ k, k ∉ writes (.cond c a b) → k ∉ writes a ∧ k ∉ writes b := by
      intro k hk
      simp only [writes, writesIn] at hk
      rw [writesIn_iff] at hk
      exact ⟨fun e => hk (.inl e), fun e => hk (.inr e)⟩
    cases t with
    | true =>
      rw [if_pos rfl] at h2 ⊢
      refine (iha h2).mono ?_
      rintro x T H' ⟨xs', rfl, g1, g2, g3⟩
      exact ⟨xs', rfl, g1, fun k hk => g2 k (sub k hk).1, g3⟩
    | false =>
      rw [if_neg (by simp)] at h2 ⊢
      refine (ihb h2).mono ?_
      rintro x T H' ⟨xs', rfl, g1, g2, g3⟩
      exact ⟨xs', rfl, g1, fun k hk => g2 k (sub k hk).2, g3⟩
  | block id b ih =>
    intro Z xs H Q h
    refine WA_block ((ih h).mono ?_)
    rintro x T H' ⟨xs', rfl, g1, g2, g3⟩
    cases x with
    | normal => exact ⟨xs', rfl, g1, g2, g3⟩
    | ret => exact ⟨xs', rfl, g1, g2, g3⟩
    | exit j =>
      simp only [XBlock]
      cases hb : Nat.beq j id with
      | true =>
        rw [if_pos (Nat.eq_of_beq_eq_true hb)]
        simp only [hb, cond_true] at g3
        exact ⟨xs', rfl, g1, g2, g3⟩
      | false =>
        rw [if_neg (Nat.ne_of_beq_eq_false hb)]
        simp only [hb, cond_false] at g3
        exact ⟨xs', rfl, g1, g2, g3⟩
  | loop b ih =>
    intro Z xs H Q h
    have h0 : LA E b xs H ((exitsIn b []).map fun x => (x, fun xs' H' => outOf (Z.headD []) (writes b) xs (fun xs'' => Q x xs'' H') xs')) := h
    refine WA.mono h0 ?_
    rintro x T H' ⟨xs', rfl, g1, g2, p, hp, rfl, g3⟩
    refine ⟨xs', rfl, g1, g2, ?_⟩
    simp only [List.mem_map] at hp
    obtain ⟨y, hy, rfl⟩ := hp
    exact outOf_ok (writes b) xs g1.symm (fun k hk => (g2 k hk).symm) g3
  | _ => intro Z xs H Q h; exact h.elim

theorem resOfL_ok {xs : Fr} {H : Heap} : ∀ {l : List ResultVar} {K : List Value → Prop}, resOfL E xs H l K → ∃ vs, resultsL E ⟨ofL xs, H⟩ l = some vs ∧ K vs
  | [], K, h => ⟨[], rfl, h⟩
  | .tmp t :: l, K, h => by
    obtain ⟨vs, h1, h2⟩ := resOfL_ok (l := l) h
    refine ⟨_, ?_, h2⟩
    simp only [resultsL, h1, Option.map_some, ofL_get, List.getD_eq_getElem?_getD]
  | .cell a t :: l, K, h => by
    obtain ⟨v, h1, h2⟩ := wpLoad_ok h
    obtain ⟨vs, h3, h4⟩ := resOfL_ok (l := l) h2
    refine ⟨_, ?_, h4⟩
    simp only [resultsL, h3, ofL_get, ← List.getD_eq_getElem?_getD, h1, Option.bind_some, Option.map_some]

theorem wpFn_ok {f : FuncId} {fn : Func} (ht : E.truth f = false) (hf : E.fn f = some fn) {args : List Value} {H : Heap} {R : Value → Heap → Prop} {Z : List Sorts} (h : wpFn E Z fn args H R) : CA E f args H R := by
  unfold wpFn at h
  split at h
  · rename_i c hc
    cases hb : Nat.ble args.length fn.ntmps with
    | false => rw [hb] at h; exact h.elim
    | true =>
      rw [hb] at h
      simp only [cond_true] at h
      refine CA_enter ht hf hc (initT_ofL (Nat.le_of_ble_eq_true hb)) ((wpCode_ok c h).mono ?_)
      rintro x T H' ⟨xs', rfl, g1, g2, g3⟩
      cases x with
      | normal => exact resOfL_ok g3
      | ret => exact resOfL_ok g3
      | exit id => exact g3.elim
  · exact h.elim

theorem CA_truth {f : FuncId} (ht : E.truth f = true) {H : Heap} {R : Value → Heap → Prop} (h : R (.bool true) H) : CA E f [] H R :=
  ⟨1, .bool true, H, by simp [sem, ht], h⟩

/-! ### Loops -/
/-- For all values of the slots. -/
def outAll : List Nat → Fr → (Fr → Prop) → Prop
  | [], acc, K => K acc
  | w :: ws, acc, K => ∀ v, outAll ws (acc.set w v) K

theorem outAll_ok {K : Fr → Prop} {xs : Fr} : ∀ (ws : List Nat) (acc : Fr), acc.length = xs.length → (∀ k, k ∉ ws → acc[k]? = xs[k]?) → outAll ws acc K → K xs
  | [], acc, hl, hs, h => by
    have : acc = xs := List.ext_getElem? fun k => hs k (by simp)
    subst this
    exact h
  | w :: ws, acc, hl, hs, h => by
    refine outAll_ok ws _ (by simpa using hl) (fun k hk => ?_) (h (xs.getD w undef))
    by_cases e : k = w
    · subst e
      by_cases hlt : k < xs.length
      · rw [List.getElem?_set_self (by omega), List.getD_eq_getElem?_getD]
        simp [hlt]
      · rw [List.getElem?_eq_none (by simp; omega), List.getElem?_eq_none (by omega)]
    · rw [List.getElem?_set_ne (Ne.symm e)]
      exact hs k (by simp [e, hk])

def isX (x y : X) : Bool :=
  match x with
  | .normal => match y with
    | .normal => true
    | _ => false
  | .exit i => match y with
    | .exit j => Nat.beq i j
    | _ => false
  | .ret => match y with
    | .ret => true
    | _ => false

theorem isX_eq {x y : X} (h : isX x y = true) : x = y := by
  cases x <;> cases y <;> first
    | rfl
    | (cases h; done)
    | (rw [Nat.eq_of_beq_eq_true h])

/-- What is to hold at that end. -/
def atEnd (x : X) (xs : Fr) (H : Heap) : List (X × (Fr → Heap → Prop)) → Prop
  | [] => False
  | p :: l => bif isX p.1 x then p.2 xs H else atEnd x xs H l

theorem atEnd_ok {x : X} {xs : Fr} {H : Heap} : ∀ {l : List (X × (Fr → Heap → Prop))}, atEnd x xs H l → ∃ p ∈ l, p.1 = x ∧ p.2 xs H
  | [], h => h.elim
  | p :: l, h => by
    simp only [atEnd] at h
    cases hb : isX p.1 x with
    | true => rw [hb] at h; exact ⟨p, by simp, isX_eq hb, h⟩
    | false =>
      rw [hb] at h
      obtain ⟨q, h1, h2⟩ := atEnd_ok h
      exact ⟨q, by simp [h1], h2⟩

def loopQ (P : Nat → Fr → Heap → Prop) (n : Nat) (Ks : List (X × (Fr → Heap → Prop))) (x : X) (xs : Fr) (H : Heap) : Prop :=
  match x with
  | .normal => ∃ m, m < n ∧ P m xs H
  | .exit id => atEnd (.exit id) xs H Ks
  | .ret => atEnd .ret xs H Ks

theorem LA_rule {b : Code} {xs : Fr} {Z : List Sorts} (P : Nat → Fr → Heap → Prop) {Ks : List (X × (Fr → Heap → Prop))}
    (hstep : ∀ n H, outAll (writes b) xs fun xs' => P n xs' H → wpCode E b Z xs' H (loopQ P n Ks)) (n : Nat) (H : Heap) (h : P n xs H) : LA E b xs H Ks := by
  have key : ∀ n (xs1 : Fr) (H : Heap), xs1.length = xs.length → (∀ k, k ∉ writes b → xs1[k]? = xs[k]?) → P n xs1 H →
      WA E (.loop b) (ofL xs1) H fun x T H' => ∃ xs', T = ofL xs' ∧ xs'.length = xs.length ∧ (∀ k, k ∉ writes b → xs'[k]? = xs[k]?) ∧ ∃ p ∈ Ks, p.1 = x ∧ p.2 xs' H' := by
    intro n
    induction n using Nat.strongRecOn with
    | _ n ih =>
      intro xs1 H hl hs hP
      have h1 := outAll_ok (writes b) xs hl.symm (fun k hk => (hs k hk).symm) (hstep n H) hP
      refine WA_loop ((wpCode_ok b h1).mono ?_)
      rintro x T H' ⟨xs', rfl, g1, g2, g3⟩
      have s1 : xs'.length = xs.length := g1.trans hl
      have s2 : ∀ k, k ∉ writes b → xs'[k]? = xs[k]? := fun k hk => (g2 k hk).trans (hs k hk)
      cases x with
      | normal =>
        obtain ⟨m, hm, hP'⟩ := g3
        exact ih m hm xs' H' s1 s2 hP'
      | exit id => exact ⟨xs', rfl, s1, s2, atEnd_ok g3⟩
      | ret => exact ⟨xs', rfl, s1, s2, atEnd_ok g3⟩
  exact key n xs H rfl (fun _ _ => rfl) h
end
end Go.AS
