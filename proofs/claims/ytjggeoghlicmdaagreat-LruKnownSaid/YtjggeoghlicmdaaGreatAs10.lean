/-
  What the plain machine answers, the model answers: on every tape, in whatever memory.
-/
import Derived.Test.YtjggeoghlicmdaaGreatAs9
namespace Go.AS
open Go.RowKit
set_option linter.unusedVariables false

section
variable {E : Env}

def X.toExit : X → Exit
  | .normal => .normal
  | .exit id => .exit id
  | .ret => .ret

/-- What comes to hold behind a piece of code. -/
def Post (E : Env) (B0 : Nat) (H : Heap) (μ : Inj) (w : World) (x : X) (s : St) (Q : Exit → Act → World → Prop) : Prop :=
  ∀ μ' a' w', Grow H μ s.H μ' → SRel E B0 μ' s a' w' → Below B0 w w' → Q x.toExit a' w'

theorem Post.trans {B0 : Nat} {H H' : Heap} {μ μ' : Inj} {w w' : World} {x : X} {s : St} {Q : Exit → Act → World → Prop} (h : Post E B0 H μ w x s Q) (hle : Grow H μ H' μ') (hB : Below B0 w w') : Post E B0 H' μ' w' x s Q :=
  fun μ2 a2 w2 h1 h2 h3 => h μ2 a2 w2 (hle.trans h1) h2 (hB.trans h3)

theorem runCode_ok (hE : E.Ok) (hmix : E.prog.follows .mixedOrders = true) {B0 : Nat} {sem : FSem} (hF : FOK E B0 sem) (n : Nat) : ∀ (c : Code) (s s' : St) (x : X) (μ : Inj) (a : Act) (w : World) (Q : Exit → Act → World → Prop),
    runCode E sem n c s = some (x, s') → SRel E B0 μ s a w → Post E B0 s.H μ w x s' Q → c.wp E.prog Q a w := by
  intro c
  induction c with
  | skip =>
    intro s s' x μ a w Q h hs hQ
    simp only [runCode, Option.some.injEq, Prod.mk.injEq] at h
    obtain ⟨rfl, rfl⟩ := h
    exact wp_skip (hQ μ a w (Grow.refl _ _) hs (Below.refl _ _))
  | label l =>
    intro s s' x μ a w Q h hs hQ
    simp only [runCode, Option.some.injEq, Prod.mk.injEq] at h
    obtain ⟨rfl, rfl⟩ := h
    exact wp_label (hQ μ a w (Grow.refl _ _) hs (Below.refl _ _))
  | region id ops d =>
    intro s s' x μ a w Q h hs hQ
    simp only [runCode] at h
    cases d with
    | true =>
      simp only [cond_true] at h
      cases hr : runDraw E sem ops s with
      | none => rw [hr] at h; cases h
      | some s1 =>
        rw [hr] at h
        simp only [Option.some.injEq, Prod.mk.injEq] at h
        obtain ⟨rfl, rfl⟩ := h
        refine wp_region_any hmix ?_
        exact runDraw_ok (w := w.drew) hE hF hr ⟨hs.1, hs.2.heap rfl⟩ fun μ' a' w' h1 h2 h3 => hQ μ' a' w' h1 h2 ((Below.refl B0 w).drew.trans h3)
    | false =>
      simp only [cond_false] at h
      cases hr : runOps E sem ops ops.toList s with
      | none => rw [hr] at h; cases h
      | some s1 =>
        rw [hr] at h
        simp only [Option.some.injEq, Prod.mk.injEq] at h
        obtain ⟨rfl, rfl⟩ := h
        exact wp_region_list (runOps_ok hE hF ops.toList s s1 μ a w hr hs hQ)
  | seq c1 c2 ih1 ih2 =>
    intro s s' x μ a w Q h hs hQ
    simp only [runCode] at h
    refine wp_seq ?_
    cases h1 : runCode E sem n c1 s with
    | none => rw [h1] at h; cases h
    | some p =>
      obtain ⟨x1, s1⟩ := p
      rw [h1] at h
      cases x1 with
      | normal =>
        simp only at h
        refine ih1 s s1 .normal μ a w _ h1 hs fun μ' a' w' q1 q2 q3 => ?_
        exact ih2 s1 s' x μ' a' w' Q h q2 (hQ.trans q1 q3)
      | exit id =>
        simp only [Option.some.injEq, Prod.mk.injEq] at h
        obtain ⟨rfl, rfl⟩ := h
        exact ih1 s s1 _ μ a w _ h1 hs hQ
      | ret =>
        simp only [Option.some.injEq, Prod.mk.injEq] at h
        obtain ⟨rfl, rfl⟩ := h
        exact ih1 s s1 _ μ a w _ h1 hs hQ
  | cond c t e ih1 ih2 =>
    intro s s' x μ a w Q h hs hQ
    simp only [runCode] at h
    split at h
    case h_2 => cases h
    rename_i b hc
    have hev := ev_rel hs.2 hs.1 c
    rw [hc] at hev
    cases b with
    | true => exact wp_cond_true hev.bool_eq (ih1 s s' x μ a w Q h hs hQ)
    | false => exact wp_cond_false hev.bool_eq (ih2 s s' x μ a w Q h hs hQ)
  | block id c ih =>
    intro s s' x μ a w Q h hs hQ
    simp only [runCode] at h
    refine wp_block ?_
    cases h1 : runCode E sem n c s with
    | none => rw [h1] at h; cases h
    | some p =>
      obtain ⟨x1, s1⟩ := p
      rw [h1] at h
      cases x1 with
      | normal =>
        simp only [Option.some.injEq, Prod.mk.injEq] at h
        obtain ⟨rfl, rfl⟩ := h
        exact ih s s1 _ μ a w _ h1 hs hQ
      | exit j =>
        simp only at h
        cases hj : Nat.beq j id with
        | true =>
          rw [hj] at h
          simp only [cond_true, Option.some.injEq, Prod.mk.injEq] at h
          obtain ⟨rfl, rfl⟩ := h
          refine ih s s1 _ μ a w _ h1 hs fun μ' a' w' q1 q2 q3 => ?_
          simp only [X.toExit, Exit.inBlock]
          rw [if_pos (Nat.eq_of_beq_eq_true hj)]
          exact hQ μ' a' w' q1 q2 q3
        | false =>
          rw [hj] at h
          simp only [cond_false, Option.some.injEq, Prod.mk.injEq] at h
          obtain ⟨rfl, rfl⟩ := h
          refine ih s s1 _ μ a w _ h1 hs fun μ' a' w' q1 q2 q3 => ?_
          simp only [X.toExit, Exit.inBlock]
          rw [if_neg (Nat.ne_of_beq_eq_false hj)]
          exact hQ μ' a' w' q1 q2 q3
      | ret =>
        simp only [Option.some.injEq, Prod.mk.injEq] at h
        obtain ⟨rfl, rfl⟩ := h
        exact ih s s1 _ μ a w _ h1 hs hQ
  | loop c ih =>
    intro s s' x μ a w Q h hs hQ
    simp only [runCode] at h
    have key : ∀ (k : Nat) (s s' : St) (x : X) (μ : Inj) (a : Act) (w : World), loopN (runCode E sem n c) k s = some (x, s') → SRel E B0 μ s a w → Post E B0 s.H μ w x s' Q → Code.rounds E.prog c Q k a w := by
      intro k
      induction k with
      | zero => intro s s' x μ a w h; simp [loopN] at h
      | succ k ihk =>
        intro s s' x μ a w h hs hQ
        simp only [loopN] at h
        rw [rounds_succ]
        cases h1 : runCode E sem n c s with
        | none => rw [h1] at h; cases h
        | some p =>
          obtain ⟨x1, s1⟩ := p
          rw [h1] at h
          cases x1 with
          | normal =>
            simp only at h
            refine ih s s1 .normal μ a w _ h1 hs fun μ' a' w' q1 q2 q3 => ?_
            exact ihk s1 s' x μ' a' w' h q2 (hQ.trans q1 q3)
          | exit id =>
            simp only [Option.some.injEq, Prod.mk.injEq] at h
            obtain ⟨rfl, rfl⟩ := h
            exact ih s s1 _ μ a w _ h1 hs hQ
          | ret =>
            simp only [Option.some.injEq, Prod.mk.injEq] at h
            obtain ⟨rfl, rfl⟩ := h
            exact ih s s1 _ μ a w _ h1 hs hQ
    exact wp_loop_rounds n (key n s s' x μ a w h hs hQ)
  | exit id =>
    intro s s' x μ a w Q h hs hQ
    simp only [runCode, Option.some.injEq, Prod.mk.injEq] at h
    obtain ⟨rfl, rfl⟩ := h
    exact wp_exit (hQ μ a w (Grow.refl _ _) hs (Below.refl _ _))
  | ret =>
    intro s s' x μ a w Q h hs hQ
    simp only [runCode, Option.some.injEq, Prod.mk.injEq] at h
    obtain ⟨rfl, rfl⟩ := h
    exact wp_ret (hQ μ a w (Grow.refl _ _) hs (Below.refl _ _))
  | scope c ih =>
    intro s s' x μ a w Q h hs hQ
    simp only [runCode] at h
    refine wp_scope_straight (ih s s' x μ a w _ h hs fun μ' a' w' q1 q2 q3 => ?_)
    have := hQ μ' a' w' q1 q2 q3
    cases x <;> exact this
  | rangeFunc f ps as b ih1 ih2 => intro s s' x μ a w Q h; simp [runCode] at h
  | goto l => intro s s' x μ a w Q h; simp [runCode] at h
  | refuse w => intro s s' x μ a w Q h; simp [runCode] at h

theorem updsFrom_get : ∀ (l : List Value) (n : Nat) (T : Tr Value) (t : Nat), (Tr.updsFrom l n T).get t = if n ≤ t ∧ t < n + l.length then (T.get t).map (fun _ => l.getD (t - n) undef) else T.get t
  | [], n, T, t => by
    simp only [Tr.updsFrom_nil, List.length_nil, Nat.add_zero]
    rw [if_neg (by omega)]
  | v :: l, n, T, t => by
    simp only [Tr.updsFrom_cons, updsFrom_get l (n + 1) _ t, Tr.get_upd, List.length_cons]
    by_cases h1 : n + 1 ≤ t ∧ t < n + 1 + l.length
    · rw [if_pos h1, if_neg (by omega), if_pos (by omega), show t - n = (t - (n + 1)) + 1 from by omega]
      rfl
    · rw [if_neg h1]
      by_cases h2 : t = n
      · subst h2
        rw [if_pos rfl, if_pos (by omega), Nat.sub_self]
        rfl
      · rw [if_neg h2, if_neg (by omega)]

theorem initT_ok {fn : Func} {args : List Value} {T : Tr Value} {μ : Inj} {ARGS : Array Value} (h : initT fn args = some T) (ha : VRels μ args ARGS.toList) :
    TRel μ T { tmps := ARGS ++ Array.replicate (fn.ntmps - ARGS.size) undef, defers := [] } := by
  unfold initT at h
  cases hb : Nat.ble args.length fn.ntmps with
  | false => rw [hb] at h; cases h
  | true =>
    rw [hb] at h
    simp only [cond_true, Option.some.injEq] at h
    subst h
    have hle := Nat.le_of_ble_eq_true hb
    have hl := ha.length
    simp only [Array.length_toList] at hl
    refine ⟨fun t => ?_, rfl⟩
    rw [updsFrom_get, Tr.get_fill _ _ _ _ (Nat.le_refl _), Array.getElem?_append, Array.getElem?_replicate]
    by_cases h1 : t < args.length
    · right
      have hlt : t < fn.ntmps := by omega
      have c1 : 0 ≤ t ∧ t < 0 + args.length := by omega
      have c2 : t < ARGS.size := by omega
      obtain ⟨V, hV, hr⟩ := ha.get (j := t) (v := args[t]) (by simp [h1])
      rw [if_pos c1, if_pos hlt, if_pos c2]
      refine ⟨args[t], V, ?_, ?_, hr⟩
      · simp [h1]
      · rw [← Array.getElem?_toList]; exact hV
    · have c1 : ¬ (0 ≤ t ∧ t < 0 + args.length) := by omega
      have c2 : ¬ t < ARGS.size := by omega
      rw [if_neg c1, if_neg c2]
      by_cases h2 : t < fn.ntmps
      · right
        have c3 : t - ARGS.size < fn.ntmps - ARGS.size := by omega
        rw [if_pos h2, if_pos c3]
        exact ⟨_, _, rfl, rfl, VRel.undef⟩
      · left
        have c3 : ¬ t - ARGS.size < fn.ntmps - ARGS.size := by omega
        rw [if_neg h2, if_neg c3]
        exact ⟨rfl, rfl⟩

def resOne (tmps : Array Value) : ResultVar → Sem Value
  | .tmp t => pure (tmps.getD t undef)
  | .cell a t => do loadVar t (← asAddr (tmps.getD a undef))

theorem resultsL_ok (hE : E.Ok) {B0 : Nat} {μ : Inj} {s : St} {a : Act} {w : World} (hs : SRel E B0 μ s a w) : ∀ (l : List ResultVar) (vs : List Value), resultsL E s l = some vs →
    ∃ VS : List Value, VRels μ vs VS ∧ (l.mapM (resOne a.tmps)).run E.prog w = .ok VS w
  | [], vs, h => by
    simp only [resultsL, Option.some.injEq] at h
    subst h
    exact ⟨[], .nil, by simp⟩
  | .tmp t :: l, vs, h => by
    simp only [resultsL] at h
    cases hr : resultsL E s l with
    | none => rw [hr] at h; cases h
    | some us =>
      rw [hr] at h
      simp only [Option.map_some, Option.some.injEq] at h
      subst h
      obtain ⟨VS, h1, h2⟩ := resultsL_ok hE hs l us hr
      exact ⟨_ :: VS, .cons (hs.1.at t) h1, by simp [List.mapM_cons, resOne, h2]⟩
  | .cell x t :: l, vs, h => by
    simp only [resultsL] at h
    cases hv : loadV E s.H t ((s.T.get x).getD undef) with
    | none => rw [hv] at h; cases h
    | some v =>
      rw [hv] at h
      cases hr : resultsL E s l with
      | none => rw [hr] at h; cases h
      | some us =>
        rw [hr] at h
        simp only [Option.bind_some, Option.map_some, Option.some.injEq] at h
        subst h
        obtain ⟨VS, h1, h2⟩ := resultsL_ok hE hs l us hr
        obtain ⟨V, g1, g2⟩ := load_ok hE hs.2 (hs.1.at x) hv
        refine ⟨V :: VS, .cons g2 h1, ?_⟩
        have hat := hs.1.at x
        generalize (s.T.get x).getD undef = y at hv hat
        generalize hY : a.tmps.getD x undef = Y at hat g1
        unfold loadV at hv
        split at hv
        case h_2 => cases hv
        cases hat with
        | @ptr i o L hm =>
          simp only [Instr.loadAt, Instr.sureAddr, Sem.run_bind, Sem.run_pure, Result.andThen_ok] at g1
          simp [List.mapM_cons, resOne, hY, asAddr, g1, h2]

theorem results_ok (hE : E.Ok) {B0 : Nat} {μ : Inj} {s : St} {a : Act} {w : World} (hs : SRel E B0 μ s a w) {fn : Func} {vs : List Value} (h : resultsL E s fn.results.toList = some vs) :
    ∃ V, (results fn a.tmps).run E.prog w = .ok V w ∧ VRel μ (resultOf vs) V := by
  obtain ⟨VS, h1, h2⟩ := resultsL_ok hE hs _ _ h
  refine ⟨resultOf VS, ?_, ?_⟩
  · have e0 : results fn a.tmps = (fn.results.mapM (resOne a.tmps) >>= fun vs => pure (if h : vs.size = 1 then vs[0] else .tuple vs)) := rfl
    rw [e0, Array.mapM_eq_mapM_toList]
    simp only [Sem.run_bind, Sem.run_map, h2, Result.andThen_ok, Sem.run_pure]
    congr 1
    cases VS with
    | nil => rfl
    | cons v l => cases l with
      | nil => rfl
      | cons u l => simp [resultOf]
  · cases h1 with
    | nil => exact .tuple .nil
    | cons g gs => cases gs with
      | nil => exact g
      | cons g' gs' => exact .tuple (.cons g (.cons g' gs'))

/-- ████ What the plain machine answers, the model answers. ████ -/
theorem sem_ok (hE : E.Ok) (hmix : E.prog.follows .mixedOrders = true) (B0 : Nat) : ∀ n, FOK E B0 (sem E n)
  | 0 => by intro f args H v H' h; simp [sem] at h
  | n + 1 => by
    intro f args H v H' h μ w ARGS hH ha
    simp only [sem] at h
    cases ht : (E.truth f && args.isEmpty) with
    | true =>
      rw [ht] at h
      simp only [cond_true, Option.some.injEq, Prod.mk.injEq] at h
      obtain ⟨rfl, rfl⟩ := h
      simp only [Bool.and_eq_true, List.isEmpty_iff] at ht
      obtain ⟨ht, rfl⟩ := ht
      have hA : ARGS = #[] := by
        have := ha.length
        simp only [List.length_nil, Array.length_toList] at this
        exact Array.eq_empty_of_size_eq_zero this.symm
      subst hA
      refine (hE.truth f ht w).mono ?_
      rintro e w' ⟨rfl, hB⟩
      exact ⟨_, μ, rfl, Grow.refl _ _, .bool _, hH.world hB.block hB.size, hB.mono hH.base⟩
    | false =>
    rw [ht] at h
    simp only [cond_false] at h
    cases hfn : E.fn f with
    | none => rw [hfn] at h; cases h
    | some fn =>
      rw [hfn] at h
      simp only at h
      cases hb : fn.body with
      | none => rw [hb] at h; cases h
      | some c =>
        rw [hb] at h
        simp only at h
        cases hi : initT fn args with
        | none => rw [hi] at h; cases h
        | some T =>
          rw [hi] at h
          simp only at h
          refine calls_of_wp (hE.fn _ _ hfn).1 hb ?_
          cases hr : runCode E (sem E n) n c ⟨T, H⟩ with
          | none => rw [hr] at h; cases h
          | some p =>
            obtain ⟨x, s⟩ := p
            rw [hr] at h
            have hfin : ∀ (hh : (resultsL E s fn.results.toList).map (fun vs => (resultOf vs, s.H)) = some (v, H')), ∀ μ' a' w', Grow H μ s.H μ' → SRel E B0 μ' s a' w' → Below B0 w w' →
                a'.defers = [] ∧ ∃ V, (results fn a'.tmps).run E.prog w' = .ok V w' ∧ ∃ V' μ'', Ending.returned V = .returned V' ∧ Grow H μ H' μ'' ∧ VRel μ'' v V' ∧ HRel E B0 μ'' H' w' ∧ Below B0 w w' := by
              intro hh μ' a' w' q1 q2 q3
              cases hrl : resultsL E s fn.results.toList with
              | none => rw [hrl] at hh; cases hh
              | some vs =>
                rw [hrl] at hh
                simp only [Option.map_some, Option.some.injEq, Prod.mk.injEq] at hh
                obtain ⟨rfl, rfl⟩ := hh
                obtain ⟨V, g1, g2⟩ := results_ok hE q2 hrl
                exact ⟨q2.1.2, V, g1, V, μ', rfl, q1, g2, q2.2, q3⟩
            refine runCode_ok hE hmix (sem_ok hE hmix B0 n) n c ⟨T, H⟩ s x μ _ w _ hr ⟨initT_ok hi ha, hH⟩ ?_
            cases x with
            | normal => exact fun μ' a' w' q1 q2 q3 => hfin h μ' a' w' q1 q2 q3
            | ret => exact fun μ' a' w' q1 q2 q3 => hfin h μ' a' w' q1 q2 q3
            | exit id => simp at h
end
end Go.AS
