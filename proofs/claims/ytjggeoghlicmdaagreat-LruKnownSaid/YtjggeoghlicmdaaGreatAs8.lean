/-
  The plain machine's regions are the model's: those that draw their order.
-/
import Derived.Test.YtjggeoghlicmdaaGreatAs7
namespace Go.AS
open Go.RowKit
set_option linter.unusedVariables false

/-! ### What an operation that does not write leaves -/
theorem sameL_eq (d : Nat) (ih : ∀ v w, sameN d v w = true → v = w) : ∀ l m : List Value, sameN.sameL d l m = true → l = m
  | [], [], _ => rfl
  | [], _ :: _, h => by simp [sameN.sameL] at h
  | _ :: _, [], h => by simp [sameN.sameL] at h
  | v :: l, w :: m, h => by
    simp only [sameN.sameL, Bool.and_eq_true] at h
    rw [ih v w h.1, sameL_eq d ih l m h.2]

theorem sameN_eq : ∀ (d : Nat) (v w : Value), sameN d v w = true → v = w
  | 0, _, _, h => by simp [sameN] at h
  | d + 1, v, w, h => by
    unfold sameN at h
    split at h
    all_goals first
      | (cases h; done)
      | rfl
      | (simp only [Bool.and_eq_true, decide_eq_true_eq, beq_iff_eq] at h; simp only [h]; done)
      | (simp only [Bool.and_eq_true, decide_eq_true_eq] at h
         obtain ⟨⟨h1, h2⟩, h3⟩ := h
         have e2 := sameL_eq d (sameN_eq d) _ _ h2
         have e3 := sameL_eq d (sameN_eq d) _ _ h3
         rw [h1, Array.toList_inj.1 e2, Array.toList_inj.1 e3])
      | (have e2 := sameL_eq d (sameN_eq d) _ _ h
         rw [Array.toList_inj.1 e2])

section
variable {E : Env}

theorem rv_val {H : Heap} {o : Option Value} {r : Res} (h : rv H o = some r) : ∃ v, r = .val v H := by
  obtain ⟨v, _, rfl⟩ := rv_some h
  exact ⟨v, rfl⟩

theorem aop_quiet {e : Operand → Value} {op : Op} {H : Heap} {r : Res} (hl : isLoud op = false) (h : aop E e op H = some r) : ∃ v, r = .val v H := by
  cases op
  case call c =>
    obtain ⟨callee, args, ts⟩ := c
    cases callee with
    | value f => simp [isLoud] at hl
    | invoke r n => simp [isLoud] at hl
    | builtin b =>
      cases b <;> first
        | (simp [isLoud] at hl; done)
        | (simp only [aop, builtinA] at h
           first
             | exact rv_val h
             | (split at h
                · exact rv_val h
                · cases h))
  all_goals first
    | (simp [isLoud] at hl; done)
    | (simp only [aop] at h; exact rv_val h)
    | (simp only [aop] at h; cases h; done)
    | (simp only [aop, Option.some.injEq] at h; exact ⟨_, h.symm⟩)
    | skip
  case makeFunc fn first captured =>
    cases fn <;> simp only [aop] at h <;> first
      | (cases h; done)
      | (simp only [Option.some.injEq] at h; exact ⟨_, h.symm⟩)
  case typeAssert x xt asserted ok =>
    cases ok <;> simp only [aop] at h
    · split at h
      · cases h
      · split at h
        · simp only [Option.some.injEq] at h; exact ⟨_, h.symm⟩
        · cases h
      · cases h
    · cases h
  all_goals
    simp only [aop] at h
    split at h
    all_goals first
      | (cases h; done)
      | (simp only [Option.some.injEq] at h; exact ⟨_, h.symm⟩)
      | exact rv_val h
      | skip
    all_goals first
      | (split at h
         all_goals first
           | (cases h; done)
           | exact rv_val h
           | (simp only [Option.some.injEq] at h; exact ⟨_, h.symm⟩)
           | (obtain ⟨n, _, h⟩ := Option.bind_eq_some_iff.1 h
              split at h
              · cases h
              · simp only [Option.some.injEq] at h; exact ⟨_, h.symm⟩))
      | (obtain ⟨n, _, h⟩ := Option.bind_eq_some_iff.1 h
         split at h
         · first
             | exact rv_val h
             | (simp only [Option.some.injEq] at h; exact ⟨_, h.symm⟩)
         · cases h)

theorem rv_pure {H : Heap} {o : Option Value} {r : Res} (h : rv H o = some r) (H' : Heap) : ∃ v, r = .val v H ∧ rv H' o = some (.val v H') := by
  obtain ⟨v, e, rfl⟩ := rv_some h
  exact ⟨v, rfl, by rw [e]; rfl⟩

theorem aop_pure {e : Operand → Value} {op : Op} {H : Heap} {r : Res} (hl : isPure op = true) (h : aop E e op H = some r) (H' : Heap) : ∃ v, r = .val v H ∧ aop E e op H' = some (.val v H') := by
  cases op
  all_goals first
    | (simp [isPure] at hl; done)
    | (simp only [aop] at h ⊢; exact rv_pure h H')
    | (simp only [aop, Option.some.injEq] at h ⊢; exact ⟨_, h.symm, rfl⟩)
    | skip
  case makeFunc fn first captured =>
    cases fn <;> simp only [aop] at h ⊢ <;> first
      | (cases h; done)
      | (simp only [Option.some.injEq] at h; exact ⟨_, h.symm, rfl⟩)
  all_goals
    simp only [aop] at h ⊢
    split at h
    all_goals first
      | (cases h; done)
      | (simp only [Option.some.injEq] at h; exact ⟨_, h.symm, rfl⟩)
      | exact rv_pure h H'
      | skip
    all_goals first
      | (split at h
         all_goals first
           | (cases h; done)
           | exact rv_pure h H'
           | (simp only [Option.some.injEq] at h; exact ⟨_, h.symm, rfl⟩)
           | (obtain ⟨n, hn, h⟩ := Option.bind_eq_some_iff.1 h
              split at h
              · cases h
              · rename_i hc
                simp only [Option.some.injEq] at h; exact ⟨_, h.symm, by rw [hn]; simp only [Option.bind_some]; rw [if_neg hc]⟩))
      | (obtain ⟨n, hn, h⟩ := Option.bind_eq_some_iff.1 h
         split at h
         · rename_i hc
           first
             | (obtain ⟨v, h1, h2⟩ := rv_pure h H'
                exact ⟨v, h1, by rw [hn]; simp only [Option.bind_some]; rw [if_pos hc]; exact h2⟩)
             | (simp only [Option.some.injEq] at h; exact ⟨_, h.symm, by rw [hn]; simp only [Option.bind_some]; rw [if_pos hc]⟩)
         · cases h)

theorem loudD_of {b : Bool} {op : Op} (h : isBirth b op = false) : isLoudD b op = isLoud op := by
  unfold isLoudD; rw [h]; rfl

theorem birth_loud {b : Bool} {op : Op} (h : isBirth b op = true) : isLoudD b op = false := by
  unfold isLoudD; rw [h]; rfl

theorem loud_noBirth {b : Bool} {op : Op} (h : isLoudD b op = true) : isBirth b op = false := by
  cases hb : isBirth b op with
  | false => rfl
  | true => rw [birth_loud hb] at h; cases h

theorem birth_pure {b : Bool} {op : Op} (h : isBirth b op = true) : isPure op = false := by
  cases op <;> first | rfl | (simp [isBirth] at h)

theorem aopD_of {b : Bool} {base i : Nat} {e : Operand → Value} {op : Op} {H : Heap} (h : isBirth b op = false) : aopD b E base i e op H = aop E e op H := by
  unfold aopD
  split
  · simp [isBirth] at h
  · rw [h]; rfl

theorem isAlloc (op : Op) : (∃ t, op = .alloc t) ∨ ∀ t, op ≠ .alloc t := by
  cases op <;> first | exact .inl ⟨_, rfl⟩ | exact .inr fun _ h => by cases h

/-- Only the operation's own operands count. -/
theorem aop_congr {e e' : Operand → Value} {op : Op} {H : Heap} (h : ∀ x ∈ op.operands, e x = e' x) : aop E e op H = aop E e' op H := by
  cases op
  case build t parts =>
    have : (parts.map fun p => (p.1, e p.2)) = parts.map fun p => (p.1, e' p.2) := Array.map_congr_left fun p hp => by rw [h p.2 (by simp [Op.operands]; exact ⟨p.1, hp⟩)]
    simp only [aop, this]
  case buildSlice t len parts =>
    have : (parts.map fun p => (p.1, e p.2)) = parts.map fun p => (p.1, e' p.2) := Array.map_congr_left fun p hp => by rw [h p.2 (by simp [Op.operands]; exact ⟨p.1, hp⟩)]
    simp only [aop, this]
  case makeFunc fn first captured =>
    have h1 : first.map e = first.map e' := Array.map_congr_left fun p hp => h p (by simp [Op.operands, hp])
    have h2 : captured.map e = captured.map e' := Array.map_congr_left fun p hp => h p (by simp [Op.operands, hp])
    cases fn <;> simp only [aop, h1, h2]
  case makeMap t r =>
    cases r with
    | none => rfl
    | some x => simp only [aop, h x (by simp [Op.operands])]
  case slice t x lo hi mx =>
    have ho : ∀ (o : Option Operand), (∀ y ∈ o, y ∈ (Op.slice t x lo hi mx).operands) → o.map e = o.map e' := by
      intro o ho
      cases o with
      | none => rfl
      | some y => simp only [Option.map_some, h y (ho y rfl)]
    simp only [aop, h x (by simp [Op.operands]), ho lo (by intro y hy; cases hy; simp [Op.operands]), ho hi (by intro y hy; cases hy; simp [Op.operands]), ho mx (by intro y hy; cases hy; simp [Op.operands])]
  case typeAssert x a b ok => cases ok <;> simp only [aop, h x (by simp [Op.operands])]
  case call c =>
    obtain ⟨callee, args, ts⟩ := c
    have ha : args.toList.map e = args.toList.map e' := List.map_congr_left fun p hp => h p (by simp [Op.operands, Call.operands]; right; simpa using hp)
    cases callee with
    | value f => simp only [aop, ha, h f (by simp [Op.operands, Call.operands])]
    | builtin b => simp only [aop, ha]
    | invoke r n => rfl
  all_goals first
    | rfl
    | (simp only [aop, h _ (show _ ∈ Op.operands _ by simp [Op.operands])]; done)
    | skip
  case move x => simp only [aop, h x (by simp [Op.operands])]
  case assign x => simp only [aop, h x (by simp [Op.operands])]
  case box t x => simp only [aop, h x (by simp [Op.operands])]
  case load t x => simp only [aop, h x (by simp [Op.operands])]
  case nilCheck x => simp only [aop, h x (by simp [Op.operands])]
  case unOp o t x => simp only [aop, h x (by simp [Op.operands])]
  case convert s t x => simp only [aop, h x (by simp [Op.operands])]
  case makeInterface t x => simp only [aop, h x (by simp [Op.operands])]
  case fieldAddr t x f => simp only [aop, h x (by simp [Op.operands])]
  case field t x f => simp only [aop, h x (by simp [Op.operands])]
  case extract x i => simp only [aop, h x (by simp [Op.operands])]
  case pick c a b => simp only [aop, h c (by simp [Op.operands]), h a (by simp [Op.operands]), h b (by simp [Op.operands])]
  case store t a v => simp only [aop, h a (by simp [Op.operands]), h v (by simp [Op.operands])]
  case binOp op t a v u => simp only [aop, h a (by simp [Op.operands]), h v (by simp [Op.operands])]
  case makeSlice t a v => simp only [aop, h a (by simp [Op.operands]), h v (by simp [Op.operands])]
  case indexAddr t a v => simp only [aop, h a (by simp [Op.operands]), h v (by simp [Op.operands])]
  case index t a v => simp only [aop, h a (by simp [Op.operands]), h v (by simp [Op.operands])]
  case lookup t a v ok => simp only [aop, h a (by simp [Op.operands]), h v (by simp [Op.operands])]
  case mapUpdate t a v u => simp only [aop, h a (by simp [Op.operands]), h v (by simp [Op.operands]), h u (by simp [Op.operands])]
  case insert t a v u => simp only [aop, h a (by simp [Op.operands]), h v (by simp [Op.operands]), h u (by simp [Op.operands])]

theorem bornA_congr {e e' : Operand → Value} {op : Op} (h : ∀ x ∈ op.operands, e x = e' x) : bornA E e op = bornA E e' op := by
  unfold bornA; rw [aop_congr h]

theorem aopD_congr {b : Bool} {base i : Nat} {e e' : Operand → Value} {op : Op} {H : Heap} (h : ∀ x ∈ op.operands, e x = e' x) : aopD b E base i e op H = aopD b E base i e' op H := by
  unfold aopD
  split
  · rfl
  · rw [bornA_congr h, aop_congr h]

/-! ### Masks -/
theorem masksFrom_append : ∀ (l : List Oper) (acc : List Nat), ∃ m, masksFrom l acc = acc ++ m ∧ m.length = l.length
  | [], acc => ⟨[], by simp [masksFrom], rfl⟩
  | o :: l, acc => by
    obtain ⟨m, h1, h2⟩ := masksFrom_append l (acc ++ [maskOf acc o])
    exact ⟨maskOf acc o :: m, by simp [masksFrom, h1], by simp [h2]⟩

theorem masksFrom_get : ∀ (l : List Oper) (acc : List Nat) (j : Nat) (o : Oper), l[j]? = some o → (masksFrom l acc)[acc.length + j]? = some (maskOf ((masksFrom l acc).take (acc.length + j)) o)
  | [], _, j, o, h => by simp at h
  | o' :: l, acc, j, o, h => by
    cases j with
    | zero =>
      simp only [List.getElem?_cons_zero, Option.some.injEq] at h
      subst h
      simp only [masksFrom]
      obtain ⟨m, h1, h2⟩ := masksFrom_append l (acc ++ [maskOf acc o'])
      rw [h1]
      simp
    | succ j =>
      simp only [List.getElem?_cons_succ] at h
      have := masksFrom_get l (acc ++ [maskOf acc o']) j o h
      simp only [List.length_append, List.length_cons, List.length_nil, Nat.zero_add] at this
      simp only [masksFrom]
      rw [show acc.length + (j + 1) = acc.length + 1 + j from by omega]
      exact this

theorem maskOf_bit (acc : List Nat) (o : Oper) (i : Nat) (h : (maskOf acc o).testBit i = true) : ∃ e ∈ o.after.toList, binding e = true ∧ (e.on = i ∨ (acc.getD e.on 0).testBit i = true) := by
  unfold maskOf at h
  have key : ∀ (l : List Edge) (s : Nat), (l.foldl (fun s e => bif binding e then s ||| 2 ^ e.on ||| acc.getD e.on 0 else s) s).testBit i = true → s.testBit i = true ∨ ∃ e ∈ l, binding e = true ∧ (e.on = i ∨ (acc.getD e.on 0).testBit i = true) := by
    intro l
    induction l with
    | nil => intro s h; exact .inl h
    | cons e l ih =>
      intro s h
      simp only [List.foldl_cons] at h
      rcases ih _ h with h | ⟨e', h1, h2⟩
      · cases hb : binding e with
        | false => rw [hb] at h; exact .inl h
        | true =>
          rw [hb] at h
          simp only [cond_true, Nat.testBit_or, Bool.or_eq_true] at h
          rcases h with (h | h) | h
          · exact .inl h
          · right
            refine ⟨e, by simp, hb, .inl ?_⟩
            rw [Nat.testBit_two_pow] at h
            simpa using h
          · exact .inr ⟨e, by simp, hb, .inr h⟩
      · exact .inr ⟨e', by simp [h1], h2⟩
  rcases key _ _ h with h | h
  · simp at h
  · exact h

/-- What is listed has what it hangs on listed. -/
def Closed (ops : Array Oper) (L : Nat → Bool) : Prop := ∀ j o, L j = true → ops[j]? = some o → ∀ e ∈ o.after.toList, binding e = true → L e.on = true

theorem closed_mask {ops : Array Oper} {L : Nat → Bool} (hc : Closed ops L) : ∀ (j : Nat) (o : Oper), ops[j]? = some o → L j = true → ∀ i, ((masksFrom ops.toList []).getD j 0).testBit i = true → L i = true := by
  intro j
  induction j using Nat.strongRecOn with
  | _ j ih =>
    intro o ho hL i hi
    have hg := masksFrom_get ops.toList [] j o (by simpa using ho)
    simp only [List.length_nil, Nat.zero_add] at hg
    rw [List.getD_eq_getElem?_getD, hg] at hi
    simp only [Option.getD_some] at hi
    obtain ⟨e, he, hb, hor⟩ := maskOf_bit _ _ _ hi
    have hLe := hc j o hL ho e he hb
    rcases hor with rfl | hbit
    · exact hLe
    · rw [List.getD_eq_getElem?_getD, List.getElem?_take] at hbit
      split at hbit
      · rename_i hlt
        cases hoe : ops[e.on]? with
        | none =>
          have : (masksFrom ops.toList [])[e.on]? = none := by
            obtain ⟨m, h1, h2⟩ := masksFrom_append ops.toList []
            rw [h1, List.nil_append, List.getElem?_eq_none]
            rw [h2, Array.length_toList]
            rcases Nat.lt_or_ge e.on ops.size with h | h
            · rw [Array.getElem?_eq_getElem h] at hoe; cases hoe
            · exact h
          rw [this] at hbit
          simp at hbit
        | some o' => exact ih e.on hlt o' hoe hLe i (by rw [List.getD_eq_getElem?_getD]; exact hbit)
      · simp at hbit

/-- Two operations of a region. -/
def PairOk (bm : Bool) (ops : Array Oper) (x y : Oper) (i m : Nat) : Prop := m.testBit i = true ∨ (Oper.apart ops x y = true ∧ ¬ (isLoudD bm x.op = true ∧ isLoudD bm y.op = true))

theorem pairs_spec {bm : Bool} {ops : Array Oper} : ∀ (l : List (Oper × Nat)), pairsOk bm ops l = true → ∀ (j : Nat) (p : Oper × Nat), l.reverse[j]? = some p →
    (∀ i q, i < j → l.reverse[i]? = some q → PairOk bm ops q.1 p.1 i p.2) ∧ (∀ e ∈ p.1.after.toList, binding e = true → e.on < j)
  | [], _, j, p, h => by simp at h
  | (o, m) :: l, hok, j, p, h => by
    simp only [pairsOk, Bool.and_eq_true] at hok
    obtain ⟨⟨h1, h2⟩, h3⟩ := hok
    simp only [List.reverse_cons] at h ⊢
    by_cases hj : j < l.length
    · rw [List.getElem?_append_left (by simpa using hj)] at h
      obtain ⟨a, b⟩ := pairs_spec l h3 j p h
      refine ⟨fun i q hi hq => a i q hi ?_, b⟩
      rwa [List.getElem?_append_left (by simp; omega)] at hq
    · rw [List.getElem?_append_right (by simp; omega)] at h
      simp only [List.length_reverse] at h
      have hj0 : j - l.length = 0 := by
        rcases Nat.eq_zero_or_pos (j - l.length) with h' | h'
        · exact h'
        · rw [List.getElem?_eq_none (by simp; omega)] at h; cases h
      rw [hj0] at h
      simp only [List.getElem?_cons_zero, Option.some.injEq] at h
      subst h
      have hjl : j = l.length := by omega
      subst hjl
      refine ⟨fun i q hi hq => ?_, fun e he hb => ?_⟩
      · rw [List.getElem?_append_left (by simpa using hi), List.getElem?_reverse hi] at hq
        rw [List.all_eq_true] at h1
        have hm : (q, l.length - 1 - i) ∈ l.zipIdx := by
          rw [List.mem_zipIdx_iff_getElem?]
          exact hq
        have := h1 _ hm
        simp only at this
        rw [show l.length - 1 - (l.length - 1 - i) = i from by omega] at this
        simp only [Bool.or_eq_true, Bool.and_eq_true, Bool.not_eq_true', Bool.and_eq_false_imp] at this
        rcases this with h | ⟨ha, hb⟩
        · exact .inl h
        · exact .inr ⟨ha, fun ⟨c, d⟩ => by rw [hb c] at d; cases d⟩
      · rw [List.all_eq_true] at h2
        have := h2 e he
        simp only [hb, Bool.not_true, Bool.false_or, Nat.ble_eq] at this
        exact this

theorem static_spec {bm : Bool} {ops : Array Oper} (h : staticOk bm ops = true) {i j : Nat} {x y : Oper} (hi : ops[i]? = some x) (hj : ops[j]? = some y) (hij : i < j) :
    PairOk bm ops x y i ((masksFrom ops.toList []).getD j 0) := by
  unfold staticOk at h
  obtain ⟨m, h1, h2⟩ := masksFrom_append ops.toList []
  rw [List.nil_append] at h1
  have hget : ∀ k z, ops[k]? = some z → ((ops.toList.zip (masksFrom ops.toList [])).reverse.reverse)[k]? = some (z, (masksFrom ops.toList []).getD k 0) := by
    intro k z hk
    rw [List.reverse_reverse, List.getElem?_zip_eq_some]
    refine ⟨by simpa using hk, ?_⟩
    have hlt : k < (masksFrom ops.toList []).length := by
      rw [h1, h2, Array.length_toList]
      rcases Nat.lt_or_ge k ops.size with h | h
      · exact h
      · rw [Array.getElem?_eq_none h] at hk; cases hk
    rw [List.getD_eq_getElem?_getD, List.getElem?_eq_getElem hlt]
    rfl
  exact (pairs_spec _ h j _ (hget j y hj)).1 i _ hij (hget i x hi)

theorem static_edges {bm : Bool} {ops : Array Oper} (h : staticOk bm ops = true) {j : Nat} {y : Oper} (hj : ops[j]? = some y) : ∀ e ∈ y.after.toList, binding e = true → e.on < j := by
  unfold staticOk at h
  obtain ⟨m, h1, h2⟩ := masksFrom_append ops.toList []
  rw [List.nil_append] at h1
  have hget : ((ops.toList.zip (masksFrom ops.toList [])).reverse.reverse)[j]? = some (y, (masksFrom ops.toList []).getD j 0) := by
    rw [List.reverse_reverse, List.getElem?_zip_eq_some]
    refine ⟨by simpa using hj, ?_⟩
    have hlt : j < (masksFrom ops.toList []).length := by
      rw [h1, h2, Array.length_toList]
      rcases Nat.lt_or_ge j ops.size with h | h
      · exact h
      · rw [Array.getElem?_eq_none h] at hj; cases hj
    rw [List.getD_eq_getElem?_getD, List.getElem?_eq_getElem hlt]
    rfl
  exact (pairs_spec _ h j _ hget).2
end
end Go.AS
