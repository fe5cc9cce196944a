/-
  hashOnce.proved: part 2 of its proof. No condition.
  Written by a program out of the texts As10 As11 As13 Env Truths Names As12 As20 As21 As22 As41 VcM VcK As23 As24 As40 As42 As43 Kit.
-/
import Derived.Test.YtjggeoghlicmdaaGreatHashOnceP1
import Derived.Test.YtjggeoghlicmdaaGreatRows
import Derived.Eval
namespace Go.AS
open Go.RowKit
set_option linter.unusedVariables false
section
variable {E : Env}
def X.toExit : X → Exit
  | .normal => .normal
  | .exit id => .exit id
  | .ret => .ret
def Post (E : Env) (B0 : Nat) (H : Heap) (μ : Inj) (w : World) (x : X) (s : St) (Q : Exit → Act → World → Prop) : Prop :=
  ∀ μ' a' w', Grow H μ s.H μ' → SRel E B0 μ' s a' w' → Below B0 w w' → Q x.toExit a' w'
theorem Post.trans {B0 : Nat} {H H' : Heap} {μ μ' : Inj} {w w' : World} {x : X} {s : St} {Q : Exit → Act → World → Prop} (h : Post E B0 H μ w x s Q) (hle : Grow H μ H' μ') (hB : Below B0 w w') : Post E B0 H' μ' w' x s Q :=
  fun μ2 a2 w2 h1 h2 h3 => h μ2 a2 w2 (hle.trans h1) h2 (hB.trans h3)
theorem runCode_ok (hE : E.Ok) (hmix : E.prog.follows .mixedOrders = true) {B0 : Nat} {sem : FSem} (hF : FOK E B0 sem) (n : Nat) : ∀ (c : Code) (s s' : St) (x : X) (μ : Inj) (a : Act) (w : World) (Q : Exit → Act → World → Prop),
    runCode E sem n c s = some (x, s') → SRel E B0 μ s a w → Post E B0 s.H μ w x s' Q → c.wp E.prog Q a w := by
  intro c
  induction c with
  | skip =>
    intro s s' x μ a w Q h hs hQ
    simp only [runCode, Option.some.injEq, Prod.mk.injEq] at h
    obtain ⟨rfl, rfl⟩ := h
    exact wp_skip (hQ μ a w (Grow.refl _ _) hs (Below.refl _ _))
  | label l =>
    intro s s' x μ a w Q h hs hQ
    simp only [runCode, Option.some.injEq, Prod.mk.injEq] at h
    obtain ⟨rfl, rfl⟩ := h
    exact wp_label (hQ μ a w (Grow.refl _ _) hs (Below.refl _ _))
  | region id ops d =>
    intro s s' x μ a w Q h hs hQ
    simp only [runCode] at h
    cases d with
    | true =>
      simp only [cond_true] at h
      cases hr : runDraw E sem ops s with
      | none => rw [hr] at h; cases h
      | some s1 =>
        rw [hr] at h
        simp only [Option.some.injEq, Prod.mk.injEq] at h
        obtain ⟨rfl, rfl⟩ := h
        refine wp_region_any hmix ?_
        exact runDraw_ok (w := w.drew) hE hF hr ⟨hs.1, hs.2.heap rfl⟩ fun μ' a' w' h1 h2 h3 => hQ μ' a' w' h1 h2 ((Below.refl B0 w).drew.trans h3)
    | false =>
      simp only [cond_false] at h
      cases hr : runOps E sem ops ops.toList s with
      | none => rw [hr] at h; cases h
      | some s1 =>
        rw [hr] at h
        simp only [Option.some.injEq, Prod.mk.injEq] at h
        obtain ⟨rfl, rfl⟩ := h
        exact wp_region_list (runOps_ok hE hF ops.toList s s1 μ a w hr hs hQ)
  | seq c1 c2 ih1 ih2 =>
    intro s s' x μ a w Q h hs hQ
    simp only [runCode] at h
    refine wp_seq ?_
    cases h1 : runCode E sem n c1 s with
    | none => rw [h1] at h; cases h
    | some p =>
      obtain ⟨x1, s1⟩ := p
      rw [h1] at h
      cases x1 with
      | normal =>
        simp only at h
        refine ih1 s s1 .normal μ a w _ h1 hs fun μ' a' w' q1 q2 q3 => ?_
        exact ih2 s1 s' x μ' a' w' Q h q2 (hQ.trans q1 q3)
      | exit id =>
        simp only [Option.some.injEq, Prod.mk.injEq] at h
        obtain ⟨rfl, rfl⟩ := h
        exact ih1 s s1 _ μ a w _ h1 hs hQ
      | ret =>
        simp only [Option.some.injEq, Prod.mk.injEq] at h
        obtain ⟨rfl, rfl⟩ := h
        exact ih1 s s1 _ μ a w _ h1 hs hQ
  | cond c t e ih1 ih2 =>
    intro s s' x μ a w Q h hs hQ
    simp only [runCode] at h
    split at h
    case h_2 => cases h
    rename_i b hc
    have hev := ev_rel hs.2 hs.1 c
    rw [hc] at hev
    cases b with
    | true => exact wp_cond_true hev.bool_eq (ih1 s s' x μ a w Q h hs hQ)
    | false => exact wp_cond_false hev.bool_eq (ih2 s s' x μ a w Q h hs hQ)
  | block id c ih =>
    intro s s' x μ a w Q h hs hQ
    simp only [runCode] at h
    refine wp_block ?_
    cases h1 : runCode E sem n c s with
    | none => rw [h1] at h; cases h
    | some p =>
      obtain ⟨x1, s1⟩ := p
      rw [h1] at h
      cases x1 with
      | normal =>
        simp only [Option.some.injEq, Prod.mk.injEq] at h
        obtain ⟨rfl, rfl⟩ := h
        exact ih s s1 _ μ a w _ h1 hs hQ
      | exit j =>
        simp only at h
        cases hj : Nat.beq j id with
        | true =>
          rw [hj] at h
          simp only [cond_true, Option.some.injEq, Prod.mk.injEq] at h
          obtain ⟨rfl, rfl⟩ := h
          refine ih s s1 _ μ a w _ h1 hs fun μ' a' w' q1 q2 q3 => ?_
          simp only [X.toExit, Exit.inBlock]
          rw [if_pos (Nat.eq_of_beq_eq_true hj)]
          exact hQ μ' a' w' q1 q2 q3
        | false =>
          rw [hj] at h
          simp only [cond_false, Option.some.injEq, Prod.mk.injEq] at h
          obtain ⟨rfl, rfl⟩ := h
          refine ih s s1 _ μ a w _ h1 hs fun μ' a' w' q1 q2 q3 => ?_
          simp only [X.toExit, Exit.inBlock]
          rw [if_neg (Nat.ne_of_beq_eq_false hj)]
          exact hQ μ' a' w' q1 q2 q3
      | ret =>
        simp only [Option.some.injEq, Prod.mk.injEq] at h
        obtain ⟨rfl, rfl⟩ := h
        exact ih s s1 _ μ a w _ h1 hs hQ
  | loop c ih =>
    intro s s' x μ a w Q h hs hQ
    simp only [runCode] at h
    have key : ∀ (k : Nat) (s s' : St) (x : X) (μ : Inj) (a : Act) (w : World), loopN (runCode E sem n c) k s = some (x, s') → SRel E B0 μ s a w → Post E B0 s.H μ w x s' Q → Code.rounds E.prog c Q k a w := by
      intro k
      induction k with
      | zero => intro s s' x μ a w h; simp [loopN] at h
      | succ k ihk =>
        intro s s' x μ a w h hs hQ
        simp only [loopN] at h
        rw [rounds_succ]
        cases h1 : runCode E sem n c s with
        | none => rw [h1] at h; cases h
        | some p =>
          obtain ⟨x1, s1⟩ := p
          rw [h1] at h
          cases x1 with
          | normal =>
            simp only at h
            refine ih s s1 .normal μ a w _ h1 hs fun μ' a' w' q1 q2 q3 => ?_
            exact ihk s1 s' x μ' a' w' h q2 (hQ.trans q1 q3)
          | exit id =>
            simp only [Option.some.injEq, Prod.mk.injEq] at h
            obtain ⟨rfl, rfl⟩ := h
            exact ih s s1 _ μ a w _ h1 hs hQ
          | ret =>
            simp only [Option.some.injEq, Prod.mk.injEq] at h
            obtain ⟨rfl, rfl⟩ := h
            exact ih s s1 _ μ a w _ h1 hs hQ
    exact wp_loop_rounds n (key n s s' x μ a w h hs hQ)
  | exit id =>
    intro s s' x μ a w Q h hs hQ
    simp only [runCode, Option.some.injEq, Prod.mk.injEq] at h
    obtain ⟨rfl, rfl⟩ := h
    exact wp_exit (hQ μ a w (Grow.refl _ _) hs (Below.refl _ _))
  | ret =>
    intro s s' x μ a w Q h hs hQ
    simp only [runCode, Option.some.injEq, Prod.mk.injEq] at h
    obtain ⟨rfl, rfl⟩ := h
    exact wp_ret (hQ μ a w (Grow.refl _ _) hs (Below.refl _ _))
  | scope c ih =>
    intro s s' x μ a w Q h hs hQ
    simp only [runCode] at h
    refine wp_scope_straight (ih s s' x μ a w _ h hs fun μ' a' w' q1 q2 q3 => ?_)
    have := hQ μ' a' w' q1 q2 q3
    cases x <;> exact this
  | rangeFunc f ps as1 b ih1 ih2 => intro s s' x μ a w Q h; simp [runCode] at h
  | goto l => intro s s' x μ a w Q h; simp [runCode] at h
  | refuse w => intro s s' x μ a w Q h; simp [runCode] at h
theorem updsFrom_get : ∀ (l : List Value) (n : Nat) (T : Tr Value) (t : Nat), (Tr.updsFrom l n T).get t = if n ≤ t ∧ t < n + l.length then (T.get t).map (fun _ => l.getD (t - n) undef) else T.get t
  | [], n, T, t => by
    simp only [Tr.updsFrom_nil, List.length_nil, Nat.add_zero]
    rw [if_neg (by omega)]
  | v :: l, n, T, t => by
    simp only [Tr.updsFrom_cons, updsFrom_get l (n + 1) _ t, Tr.get_upd, List.length_cons]
    by_cases h1 : n + 1 ≤ t ∧ t < n + 1 + l.length
    · rw [if_pos h1, if_neg (by omega), if_pos (by omega), show t - n = (t - (n + 1)) + 1 from by omega]
      rfl
    · rw [if_neg h1]
      by_cases h2 : t = n
      · subst h2
        rw [if_pos rfl, if_pos (by omega), Nat.sub_self]
        rfl
      · rw [if_neg h2, if_neg (by omega)]
theorem initT_ok {fn : Func} {args : List Value} {T : Tr Value} {μ : Inj} {ARGS : Array Value} (h : initT fn args = some T) (ha : VRels μ args ARGS.toList) :
    TRel μ T { tmps := ARGS ++ Array.replicate (fn.ntmps - ARGS.size) undef, defers := [] } := by
  unfold initT at h
  cases hb : Nat.ble args.length fn.ntmps with
  | false => rw [hb] at h; cases h
  | true =>
    rw [hb] at h
    simp only [cond_true, Option.some.injEq] at h
    subst h
    have hle := Nat.le_of_ble_eq_true hb
    have hl := ha.length
    simp only [Array.length_toList] at hl
    refine ⟨fun t => ?_, rfl⟩
    rw [updsFrom_get, Tr.get_fill _ _ _ _ (Nat.le_refl _), Array.getElem?_append, Array.getElem?_replicate]
    by_cases h1 : t < args.length
    · right
      have hlt : t < fn.ntmps := by omega
      have c1 : 0 ≤ t ∧ t < 0 + args.length := by omega
      have c2 : t < ARGS.size := by omega
      obtain ⟨V, hV, hr⟩ := ha.get (j := t) (v := args[t]) (by simp [h1])
      rw [if_pos c1, if_pos hlt, if_pos c2]
      refine ⟨args[t], V, ?_, ?_, hr⟩
      · simp [h1]
      · rw [← Array.getElem?_toList]; exact hV
    · have c1 : ¬ (0 ≤ t ∧ t < 0 + args.length) := by omega
      have c2 : ¬ t < ARGS.size := by omega
      rw [if_neg c1, if_neg c2]
      by_cases h2 : t < fn.ntmps
      · right
        have c3 : t - ARGS.size < fn.ntmps - ARGS.size := by omega
        rw [if_pos h2, if_pos c3]
        exact ⟨_, _, rfl, rfl, VRel.undef⟩
      · left
        have c3 : ¬ t - ARGS.size < fn.ntmps - ARGS.size := by omega
        rw [if_neg h2, if_neg c3]
        exact ⟨rfl, rfl⟩
def resOne (tmps : Array Value) : ResultVar → Sem Value
  | .tmp t => pure (tmps.getD t undef)
  | .cell a t => do loadVar t (← asAddr (tmps.getD a undef))
theorem resultsL_ok (hE : E.Ok) {B0 : Nat} {μ : Inj} {s : St} {a : Act} {w : World} (hs : SRel E B0 μ s a w) : ∀ (l : List ResultVar) (vs : List Value), resultsL E s l = some vs →
    ∃ VS : List Value, VRels μ vs VS ∧ (l.mapM (resOne a.tmps)).run E.prog w = .ok VS w
  | [], vs, h => by
    simp only [resultsL, Option.some.injEq] at h
    subst h
    exact ⟨[], .nil, by simp⟩
  | .tmp t :: l, vs, h => by
    simp only [resultsL] at h
    cases hr : resultsL E s l with
    | none => rw [hr] at h; cases h
    | some us =>
      rw [hr] at h
      simp only [Option.map_some, Option.some.injEq] at h
      subst h
      obtain ⟨VS, h1, h2⟩ := resultsL_ok hE hs l us hr
      exact ⟨_ :: VS, .cons (hs.1.at t) h1, by simp [List.mapM_cons, resOne, h2]⟩
  | .cell x t :: l, vs, h => by
    simp only [resultsL] at h
    cases hv : loadV E s.H t ((s.T.get x).getD undef) with
    | none => rw [hv] at h; cases h
    | some v =>
      rw [hv] at h
      cases hr : resultsL E s l with
      | none => rw [hr] at h; cases h
      | some us =>
        rw [hr] at h
        simp only [Option.bind_some, Option.map_some, Option.some.injEq] at h
        subst h
        obtain ⟨VS, h1, h2⟩ := resultsL_ok hE hs l us hr
        obtain ⟨V, g1, g2⟩ := load_ok hE hs.2 (hs.1.at x) hv
        refine ⟨V :: VS, .cons g2 h1, ?_⟩
        have hat := hs.1.at x
        generalize (s.T.get x).getD undef = y at hv hat
        generalize hY : a.tmps.getD x undef = Y at hat g1
        unfold loadV at hv
        split at hv
        case h_2 => cases hv
        cases hat with
        | @ptr i o L hm =>
          simp only [Instr.loadAt, Instr.sureAddr, Sem.run_bind, Sem.run_pure, Result.andThen_ok] at g1
          simp [List.mapM_cons, resOne, hY, asAddr, g1, h2]
theorem results_ok (hE : E.Ok) {B0 : Nat} {μ : Inj} {s : St} {a : Act} {w : World} (hs : SRel E B0 μ s a w) {fn : Func} {vs : List Value} (h : resultsL E s fn.results.toList = some vs) :
    ∃ V, (results fn a.tmps).run E.prog w = .ok V w ∧ VRel μ (resultOf vs) V := by
  obtain ⟨VS, h1, h2⟩ := resultsL_ok hE hs _ _ h
  refine ⟨resultOf VS, ?_, ?_⟩
  · have e0 : results fn a.tmps = (fn.results.mapM (resOne a.tmps) >>= fun vs => pure (if h : vs.size = 1 then vs[0] else .tuple vs)) := rfl
    rw [e0, Array.mapM_eq_mapM_toList]
    simp only [Sem.run_bind, Sem.run_map, h2, Result.andThen_ok, Sem.run_pure]
    congr 1
    cases VS with
    | nil => rfl
    | cons v l => cases l with
      | nil => rfl
      | cons u l => simp [resultOf]
  · cases h1 with
    | nil => exact .tuple .nil
    | cons g gs => cases gs with
      | nil => exact g
      | cons g' gs' => exact .tuple (.cons g (.cons g' gs'))
theorem sem_ok (hE : E.Ok) (hmix : E.prog.follows .mixedOrders = true) (B0 : Nat) : ∀ n, FOK E B0 (sem E n)
  | 0 => by intro f args H v H' h; simp [sem] at h
  | n + 1 => by
    intro f args H v H' h μ w ARGS hH ha
    simp only [sem] at h
    cases ht : (E.truth f && args.isEmpty) with
    | true =>
      rw [ht] at h
      simp only [cond_true, Option.some.injEq, Prod.mk.injEq] at h
      obtain ⟨rfl, rfl⟩ := h
      simp only [Bool.and_eq_true, List.isEmpty_iff] at ht
      obtain ⟨ht, rfl⟩ := ht
      have hA : ARGS = #[] := by
        have := ha.length
        simp only [List.length_nil, Array.length_toList] at this
        exact Array.eq_empty_of_size_eq_zero this.symm
      subst hA
      refine (hE.truth f ht w).mono ?_
      rintro e w' ⟨rfl, hB⟩
      exact ⟨_, μ, rfl, Grow.refl _ _, .bool _, hH.world hB.block hB.size, hB.mono hH.base⟩
    | false =>
    rw [ht] at h
    simp only [cond_false] at h
    cases hfn : E.fn f with
    | none => rw [hfn] at h; cases h
    | some fn =>
      rw [hfn] at h
      simp only at h
      cases hb : fn.body with
      | none => rw [hb] at h; cases h
      | some c =>
        rw [hb] at h
        simp only at h
        cases hi : initT fn args with
        | none => rw [hi] at h; cases h
        | some T =>
          rw [hi] at h
          simp only at h
          refine calls_of_wp (hE.fn _ _ hfn).1 hb ?_
          cases hr : runCode E (sem E n) n c ⟨T, H⟩ with
          | none => rw [hr] at h; cases h
          | some p =>
            obtain ⟨x, s⟩ := p
            rw [hr] at h
            have hfin : ∀ (hh : (resultsL E s fn.results.toList).map (fun vs => (resultOf vs, s.H)) = some (v, H')), ∀ μ' a' w', Grow H μ s.H μ' → SRel E B0 μ' s a' w' → Below B0 w w' →
                a'.defers = [] ∧ ∃ V, (results fn a'.tmps).run E.prog w' = .ok V w' ∧ ∃ V' μ'', Ending.returned V = .returned V' ∧ Grow H μ H' μ'' ∧ VRel μ'' v V' ∧ HRel E B0 μ'' H' w' ∧ Below B0 w w' := by
              intro hh μ' a' w' q1 q2 q3
              cases hrl : resultsL E s fn.results.toList with
              | none => rw [hrl] at hh; cases hh
              | some vs =>
                rw [hrl] at hh
                simp only [Option.map_some, Option.some.injEq, Prod.mk.injEq] at hh
                obtain ⟨rfl, rfl⟩ := hh
                obtain ⟨V, g1, g2⟩ := results_ok hE q2 hrl
                exact ⟨q2.1.2, V, g1, V, μ', rfl, q1, g2, q2.2, q3⟩
            refine runCode_ok hE hmix (sem_ok hE hmix B0 n) n c ⟨T, H⟩ s x μ _ w _ hr ⟨initT_ok hi ha, hH⟩ ?_
            cases x with
            | normal => exact fun μ' a' w' q1 q2 q3 => hfin h μ' a' w' q1 q2 q3
            | ret => exact fun μ' a' w' q1 q2 q3 => hfin h μ' a' w' q1 q2 q3
            | exit id => simp at h
end
end Go.AS
namespace Go.AS
open Go.RowKit
set_option linter.unusedVariables false
theorem ofListFrom_get {α : Type} : ∀ (l : List α) (n : Nat) (t : Tr α) (i : Nat), (Tr.ofListFrom l n t).get i = if n ≤ i ∧ i < n + l.length then l[i - n]? else t.get i
  | [], n, t, i => by
    simp only [Tr.ofListFrom_nil, List.length_nil, Nat.add_zero]
    rw [if_neg (by omega)]
  | x :: l, n, t, i => by
    simp only [Tr.ofListFrom_cons, ofListFrom_get l (n + 1) _ i, Tr.get_put, List.length_cons]
    by_cases h1 : n + 1 ≤ i ∧ i < n + 1 + l.length
    · rw [if_pos h1, if_pos (by omega), show i - n = (i - (n + 1)) + 1 from by omega]
      rfl
    · rw [if_neg h1]
      by_cases h2 : i = n
      · subst h2
        rw [if_pos rfl, if_pos (by omega), Nat.sub_self]
        rfl
      · rw [if_neg h2, if_neg (by omega)]
noncomputable def Env.of (P : Program) (tys : Tr TypeInfo) (fns : Tr Func) (eqs clones : List Nat) : Env where
  prog := P
  ty := tys.get
  fn := fun f => match fns.get f with
    | some fn => match fn.body with
      | some _ => some fn
      | none => none
    | none => none
  eqOk := fun t => eqs.any (Nat.beq t)
  clone := fun f => clones.any (Nat.beq f)
  truth := fun _ => false
  ng := P.globals.size
def eqFine (P : Program) (t : Nat) : Bool :=
  !P.stoodInHeld t && !P.eqGuardType P.depth t && (match P.underlying t with
    | some (.struct fs) => fs.toList.all fun f => !(f.name == "_")
    | _ => true)
def cloneFine (P : Program) (f : Nat) : Prop := ∃ fn, P.funcs[f]? = some fn ∧ fn.body = none ∧ (fn.name == "runtime.NumGoroutine") = false ∧ Extern.findNext fn = none ∧ Extern.find fn = some Extern.MapsClone.clone
theorem Env.of_ok {P : Program} {tys : Tr TypeInfo} {fns : Tr Func} {eqs clones : List Nat} (ht : tys = Tr.ofListFrom P.types.toList 0 .nil) (hf : fns = Tr.ofListFrom P.funcs.toList 0 .nil)
    (hn : P.funcs.toList.all (fun f => !(f.name == "runtime.NumGoroutine")) = true)
    (he : eqs.all (eqFine P) = true) (hc : ∀ f ∈ clones, cloneFine P f) : (Env.of P tys fns eqs clones).Ok := by
  subst ht; subst hf
  refine ⟨fun t i h => ?_, fun f fn h => ?_, fun t h => ?_, fun f h => ?_, fun f h => by cases h⟩
  · simp only [Env.of, ofListFrom_get, Nat.zero_add, Nat.sub_zero, Tr.get_nil] at h
    split at h
    · rename_i hb
      show P.info? t = some i
      unfold Tables.info?
      rw [if_pos (by simpa using hb.2)]
      simpa using h
    · cases h
  · simp only [Env.of, ofListFrom_get, Nat.zero_add, Nat.sub_zero, Tr.get_nil] at h
    split at h
    · rename_i g hg
      split at hg
      · split at h
        · rename_i c hb
          injection h with h; subst h
          rw [Array.getElem?_toList] at hg
          refine ⟨hg, by rw [hb]; rfl, ?_⟩
          rw [List.all_eq_true] at hn
          have := hn g (by rw [Array.mem_toList_iff]; exact Array.mem_of_getElem? hg)
          simpa using this
        · cases h
      · cases hg
    · cases h
  · simp only [Env.of, List.any_eq_true] at h
    obtain ⟨u, hu, hb⟩ := h
    obtain rfl := Nat.eq_of_beq_eq_true hb
    rw [List.all_eq_true] at he
    have := he t hu
    simp only [eqFine, Bool.and_eq_true, Bool.not_eq_true'] at this
    refine ⟨this.1.1, this.1.2, fun fs hfs f hff => ?_⟩
    have h3 := this.2
    have hfs' : P.underlying t = some (.struct fs) := hfs
    rw [hfs'] at h3
    simp only [List.all_eq_true] at h3
    have := h3 f hff
    simpa using this
  · simp only [Env.of, List.any_eq_true] at h
    obtain ⟨u, hu, hb⟩ := h
    obtain rfl := Nat.eq_of_beq_eq_true hb
    exact hc f hu
noncomputable def heap0 (E : Env) : Heap := ⟨.nil, E.ng⟩
def inj0 (E : Env) : Inj := fun g => if g < E.ng then some ⟨g, 0, 0, 0⟩ else none
theorem hrel0 (E : Env) (w : World) : HRel E w.heap.size (inj0 E) (heap0 E) w where
  fresh i hi := by
    have : ¬ i < E.ng := by have : E.ng ≤ i := hi; omega
    simp [inj0, this]
  glob g hg := ⟨⟨g, 0, 0, 0⟩, by simp [inj0, hg], rfl, rfl⟩
  obj i o h _ := by simp [heap0, Heap.get, Tr.get_nil] at h
  apart i j oi oj Li Lj h := by simp [heap0, Heap.get, Tr.get_nil] at h
  base := Nat.le_refl _
theorem closed_calls {E : Env} (hE : E.Ok) (hmix : E.prog.follows .mixedOrders = true) {n f : Nat} (h : (sem E n f [] (heap0 E)).map (·.1) = some (.bool true)) (w : World) :
    Calls E.prog f #[] w fun e w' => e = .returned (.bool true) ∧ Below w.heap.size w w' := by
  cases hs : sem E n f [] (heap0 E) with
  | none => rw [hs] at h; cases h
  | some p =>
    obtain ⟨v, H'⟩ := p
    rw [hs] at h
    simp only [Option.map_some, Option.some.injEq] at h
    subst h
    refine (sem_ok hE hmix w.heap.size n f [] (heap0 E) _ H' hs (inj0 E) w #[] (hrel0 E w) .nil).mono ?_
    rintro e w' ⟨V, μ', rfl, h1, h2, h3, h4⟩
    cases h2
    exact ⟨rfl, h4⟩
noncomputable def Env.knows (E : Env) (l : List Nat) : Env := { E with truth := fun f => l.any (Nat.beq f) }
theorem Env.knows_ok {E : Env} {l : List Nat} (hE : E.Ok) (h : ∀ f ∈ l, ∀ w : World, Calls E.prog f #[] w fun e w' => e = .returned (.bool true) ∧ Below w.heap.size w w') : (E.knows l).Ok where
  ty := hE.ty
  fn := hE.fn
  eqOk := hE.eqOk
  clone := hE.clone
  truth := fun f hf => by
    simp only [Env.knows, List.any_eq_true] at hf
    obtain ⟨u, hu, hb⟩ := hf
    obtain rfl := Nat.eq_of_beq_eq_true hb
    exact h _ hu
end Go.AS
namespace Go.AS
open Go.RowKit
set_option linter.unusedVariables false
noncomputable section
def a_move (E : Env) (e : Operand → Value) (H : Heap) (x : Operand) : Option Res := some (.val (e x) H)
def a_assign (E : Env) (e : Operand → Value) (H : Heap) (x : Operand) : Option Res := some (.val (e x) H)
def a_pick (E : Env) (e : Operand → Value) (H : Heap) (c : Operand) (a : Operand) (b : Operand) : Option Res := (match e c with
    | .bool t => some (.val (bif t then e a else e b) H)
    | _ => none)
def a_alloc (E : Env) (e : Operand → Value) (H : Heap) (elem : TypeId) : Option Res := (zeroV E elem).bind fun z => rvh (newVal H z)
def a_box (E : Env) (e : Operand → Value) (H : Heap) (elem : TypeId) (v : Operand) : Option Res := rvh (newVal H (e v))
def a_build (E : Env) (e : Operand → Value) (H : Heap) (t : TypeId) (parts : Array (Nat × Operand)) : Option Res := aop E e (.build t parts) H
def a_buildSlice (E : Env) (e : Operand → Value) (H : Heap) (t : TypeId) (len : Nat) (parts : Array (Nat × Operand)) : Option Res := aop E e (.buildSlice t len parts) H
def a_insert (E : Env) (e : Operand → Value) (H : Heap) (t : TypeId) (m : Operand) (k : Operand) (x : Operand) : Option Res := aop E e (.insert t m k x) H
def a_load (E : Env) (e : Operand → Value) (H : Heap) (t : TypeId) (a : Operand) : Option Res := rv H (loadV E H t (e a))
def a_store (E : Env) (e : Operand → Value) (H : Heap) (t : TypeId) (a : Operand) (x : Operand) : Option Res := rh (storeV E H t (e a) (e x))
def a_ready (E : Env) (e : Operand → Value) (H : Heap) (g : Nat) : Option Res := aop E e (.ready g) H
def a_waits (E : Env) (e : Operand → Value) (H : Heap) (g : Nat) : Option Res := aop E e (.waits g) H
def a_nilCheck (E : Env) (e : Operand → Value) (H : Heap) (x : Operand) : Option Res := (match e x with
    | .pointer (some a) => some (.val (.pointer (some a)) H)
    | .func (.func f) fs cs => some (.val (.func (.func f) fs cs) H)
    | _ => none)
def a_binOp (E : Env) (e : Operand → Value) (H : Heap) (op : BinOp) (t : TypeId) (x : Operand) (y : Operand) (u : TypeId) : Option Res := rv H (binA E H op t (e x) (e y))
def a_unOp (E : Env) (e : Operand → Value) (H : Heap) (op : UnOp) (t : TypeId) (x : Operand) : Option Res := rv H (unA op (e x))
def a_convert (E : Env) (e : Operand → Value) (H : Heap) (src : TypeId) (dst : TypeId) (x : Operand) : Option Res := rv H (convertA E src dst (e x))
def a_sliceToArrayPointer (E : Env) (e : Operand → Value) (H : Heap) (d : TypeId) (x : Operand) : Option Res := aop E e (.sliceToArrayPointer d x) H
def a_makeInterface (E : Env) (e : Operand → Value) (H : Heap) (t : TypeId) (x : Operand) : Option Res := aop E e (.makeInterface t x) H
def a_makeFunc (E : Env) (e : Operand → Value) (H : Heap) (f : Fn) (a : Array Operand) (b : Array Operand) : Option Res := aop E e (.makeFunc f a b) H
def a_makeMap (E : Env) (e : Operand → Value) (H : Heap) (t : TypeId) (r : Option Operand) : Option Res := aop E e (.makeMap t r) H
def a_makeChan (E : Env) (e : Operand → Value) (H : Heap) (t : TypeId) (s : Operand) : Option Res := aop E e (.makeChan t s) H
def a_makeSlice (E : Env) (e : Operand → Value) (H : Heap) (t : TypeId) (l : Operand) (c : Operand) : Option Res := aop E e (.makeSlice t l c) H
def a_slice (E : Env) (e : Operand → Value) (H : Heap) (t : TypeId) (x : Operand) (lo : Option Operand) (hi : Option Operand) (mx : Option Operand) : Option Res := aop E e (.slice t x lo hi mx) H
def a_fieldAddr (E : Env) (e : Operand → Value) (H : Heap) (s : TypeId) (x : Operand) (f : Nat) : Option Res := (match und E s, e x with
    | some (.struct fields), .pointer (some ⟨i, o, none⟩) => match fields[f]? with
      | some fd => (sizeA E fd.type).bind fun n => if n = 0 then none else some (.val (.pointer (some ⟨i, o + fd.offset, none⟩)) H)
      | none => none
    | _, _ => none)
def a_field (E : Env) (e : Operand → Value) (H : Heap) (t : TypeId) (x : Operand) (f : Nat) : Option Res := (match und E t, e x with
    | some (.struct fields), .agg cs => match fields[f]? with
      | some fd => rv H (partA E fd.type cs fd.offset)
      | none => none
    | _, _ => none)
def a_indexAddr (E : Env) (e : Operand → Value) (H : Heap) (t : TypeId) (x : Operand) (ix : Operand) : Option Res := (match und E t, e x, e ix with
    | some (.slice el), .slice (some ⟨i, o, none⟩) len _, .int _ n => (sizeA E el).bind fun s =>
      if 0 ≤ n ∧ n < len then some (.val (.pointer (some ⟨i, o + n.toNat * s, none⟩)) H) else none
    | some (.array len el), .pointer (some ⟨i, o, none⟩), .int _ n => (sizeA E el).bind fun s =>
      if 0 ≤ n ∧ n < len then some (.val (.pointer (some ⟨i, o + n.toNat * s, none⟩)) H) else none
    | _, _, _ => none)
def a_index (E : Env) (e : Operand → Value) (H : Heap) (t : TypeId) (x : Operand) (ix : Operand) : Option Res := aop E e (.index t x ix) H
def a_lookup (E : Env) (e : Operand → Value) (H : Heap) (t : TypeId) (x : Operand) (k : Operand) (ok : Bool) : Option Res := rv H (lookupA E H t (e x) (e k) ok)
def a_mapUpdate (E : Env) (e : Operand → Value) (H : Heap) (t : TypeId) (m : Operand) (k : Operand) (x : Operand) : Option Res := rh (mapUpdateA E H t (e m) (e k) (e x))
def a_mapEntry (E : Env) (e : Operand → Value) (H : Heap) (t : TypeId) (m : Operand) (k : Operand) : Option Res := aop E e (.mapEntry t m k) H
def a_entryStore (E : Env) (e : Operand → Value) (H : Heap) (t : TypeId) (m : Operand) (st : Operand) (v : Operand) : Option Res := aop E e (.entryStore t m st v) H
def a_range (E : Env) (e : Operand → Value) (H : Heap) (t : TypeId) (x : Operand) : Option Res := aop E e (.range t x) H
def a_next (E : Env) (e : Operand → Value) (H : Heap) (i : Operand) (s : Bool) : Option Res := aop E e (.next i s) H
def a_entry (E : Env) (e : Operand → Value) (H : Heap) (i : Operand) : Option Res := aop E e (.entry i) H
def a_typeAssert (E : Env) (e : Operand → Value) (H : Heap) (x : Operand) (t : TypeId) (a : TypeId) (ok : Bool) : Option Res := aop E e (.typeAssert x t a ok) H
def a_extract (E : Env) (e : Operand → Value) (H : Heap) (t : Operand) (ix : Nat) : Option Res := (match e t with
    | .tuple vs => match vs[ix]? with
      | some v => some (.val v H)
      | none => none
    | _ => none)
def a_call (E : Env) (e : Operand → Value) (H : Heap) (c : Call) : Option Res := (match c.callee with
    | .value f => callA E H (e f) (c.args.toList.map e)
    | .builtin b => builtinA E H b c.argTypes (c.args.toList.map e)
    | .invoke _ _ => none)
def a_go (E : Env) (e : Operand → Value) (H : Heap) (c : Call) : Option Res := aop E e (.go c) H
def a_defer (E : Env) (e : Operand → Value) (H : Heap) (c : Call) : Option Res := aop E e (.defer c) H
def a_panic (E : Env) (e : Operand → Value) (H : Heap) (x : Operand) : Option Res := aop E e (.panic x) H
def a_send (E : Env) (e : Operand → Value) (H : Heap) (c : Operand) (x : Operand) : Option Res := aop E e (.send c x) H
def a_recv (E : Env) (e : Operand → Value) (H : Heap) (t : TypeId) (c : Operand) (ok : Bool) : Option Res := aop E e (.recv t c ok) H
def a_select (E : Env) (e : Operand → Value) (H : Heap) (cs : Array SelectCase) (b : Bool) : Option Res := aop E e (.select cs b) H
def aopF (E : Env) (e : Operand → Value) (op : Op) (H : Heap) : Option Res :=
  Op.rec (motive := fun _ => Option Res)
    (fun x => a_move E e H x)
    (fun x => a_assign E e H x)
    (fun c a b => a_pick E e H c a b)
    (fun elem => a_alloc E e H elem)
    (fun elem v => a_box E e H elem v)
    (fun t parts => a_build E e H t parts)
    (fun t len parts => a_buildSlice E e H t len parts)
    (fun t m k x => a_insert E e H t m k x)
    (fun t a => a_load E e H t a)
    (fun t a x => a_store E e H t a x)
    (fun g => a_ready E e H g)
    (fun g => a_waits E e H g)
    (fun x => a_nilCheck E e H x)
    (fun op t x y u => a_binOp E e H op t x y u)
    (fun op t x => a_unOp E e H op t x)
    (fun src dst x => a_convert E e H src dst x)
    (fun d x => a_sliceToArrayPointer E e H d x)
    (fun t x => a_makeInterface E e H t x)
    (fun f a b => a_makeFunc E e H f a b)
    (fun t r => a_makeMap E e H t r)
    (fun t s => a_makeChan E e H t s)
    (fun t l c => a_makeSlice E e H t l c)
    (fun t x lo hi mx => a_slice E e H t x lo hi mx)
    (fun s x f => a_fieldAddr E e H s x f)
    (fun t x f => a_field E e H t x f)
    (fun t x ix => a_indexAddr E e H t x ix)
    (fun t x ix => a_index E e H t x ix)
    (fun t x k ok => a_lookup E e H t x k ok)
    (fun t m k x => a_mapUpdate E e H t m k x)
    (fun t m k => a_mapEntry E e H t m k)
    (fun t m st v => a_entryStore E e H t m st v)
    (fun t x => a_range E e H t x)
    (fun i s => a_next E e H i s)
    (fun i => a_entry E e H i)
    (fun x t a ok => a_typeAssert E e H x t a ok)
    (fun t ix => a_extract E e H t ix)
    (fun c => a_call E e H c)
    (fun c => a_go E e H c)
    (fun c => a_defer E e H c)
    (fun x => a_panic E e H x)
    (fun c x => a_send E e H c x)
    (fun t c ok => a_recv E e H t c ok)
    (fun cs b => a_select E e H cs b)
    op
theorem aopF_eq (E : Env) (e : Operand → Value) (op : Op) (H : Heap) : aopF E e op H = aop E e op H := by cases op <;> rfl
def resF (sem : FSem) (r : Option Res) (H : Heap) : Option (Value × Heap) :=
  Option.rec (motive := fun _ => Option (Value × Heap)) none (fun r => Res.rec (motive := fun _ => Option (Value × Heap)) (fun v H' => some (v, H')) (fun f args => sem f args H) r) r
theorem resF_eq (sem : FSem) (r : Option Res) (H : Heap) : resF sem r H = resA sem r H := by
  cases r with
  | none => rfl
  | some r => cases r <;> rfl
def stepF (E : Env) (sem : FSem) (ops : Array Oper) (o : Oper) (s : St) : Option St :=
  Option.rec (motive := fun _ => Option St) none
    (fun b => Bool.rec (motive := fun _ => Option St) (some ⟨putT s.T o.dst undef, s.H⟩)
      (Option.rec (motive := fun _ => Option St) none (fun p => some ⟨putT s.T o.dst p.1, p.2⟩) (resF sem (aopF E (ev E s.T) o.op s.H) s.H)) b) (wantedA ops s.T o)
theorem stepF_eq (E : Env) (sem : FSem) (ops : Array Oper) (o : Oper) (s : St) : stepF E sem ops o s = stepA E sem ops o s := by
  unfold stepF stepA
  rw [resF_eq, aopF_eq]
  cases wantedA ops s.T o with
  | none => rfl
  | some b => cases b with
    | false => rfl
    | true => simp only; cases resA sem (aop E (ev E s.T) o.op s.H) s.H <;> rfl
def runOpsF (E : Env) (sem : FSem) (ops : Array Oper) (l : List Oper) : St → Option St :=
  List.rec (motive := fun _ => St → Option St) (fun s => some s) (fun o _ ih s => Option.rec (motive := fun _ => Option St) none (fun s' => ih s') (stepF E sem ops o s)) l
theorem runOpsF_eq (E : Env) (sem : FSem) (ops : Array Oper) : ∀ (l : List Oper) (s : St), runOpsF E sem ops l s = runOps E sem ops l s
  | [], s => rfl
  | o :: l, s => by
    show Option.rec (motive := fun _ => Option St) none (fun s' => runOpsF E sem ops l s') (stepF E sem ops o s) = runOps E sem ops (o :: l) s
    rw [stepF_eq]
    simp only [runOps]
    cases stepA E sem ops o s with
    | none => rfl
    | some s' => exact runOpsF_eq E sem ops l s'
def aopDF (bm : Bool) (E : Env) (base i : Nat) (e : Operand → Value) (op : Op) (H : Heap) : Option Res :=
  Bool.rec (motive := fun _ => Option Res) (aopF E e op H) (aopD bm E base i e op H) (isBirth bm op)
theorem aopDF_eq (bm : Bool) (E : Env) (base i : Nat) (e : Operand → Value) (op : Op) (H : Heap) : aopDF bm E base i e op H = aopD bm E base i e op H := by
  unfold aopDF
  cases hb : isBirth bm op with
  | true => rfl
  | false => exact (aopF_eq E e op H).trans (aopD_of hb).symm
def pass1F (bm : Bool) (E : Env) (sem : FSem) (ops : Array Oper) (base : Nat) (l : List Oper) : Nat → Tr Value → Heap → Nat → List DR → List Heap → Option (List DR × Tr Value × List Heap × Heap) :=
  List.rec (motive := fun _ => Nat → Tr Value → Heap → Nat → List DR → List Heap → Option (List DR × Tr Value × List Heap × Heap)) (fun _ T H _ rs hs => some (rs, T, hs, H))
    (fun o _ ih i T H k rs hs =>
      Option.rec (motive := fun _ => Option (List DR × Tr Value × List Heap × Heap)) none
        (fun b => Bool.rec (motive := fun _ => Option (List DR × Tr Value × List Heap × Heap)) (ih (i + 1) (putT T o.dst undef) H k (⟨i, o, false, T, undef, k⟩ :: rs) hs)
          (Option.rec (motive := fun _ => Option (List DR × Tr Value × List Heap × Heap)) none
            (fun p => Bool.rec (motive := fun _ => Option (List DR × Tr Value × List Heap × Heap)) (ih (i + 1) (putT T o.dst p.1) H k (⟨i, o, true, T, p.1, k⟩ :: rs) hs)
              (ih (i + 1) (putT T o.dst p.1) p.2 (k + 1) (⟨i, o, true, T, p.1, k⟩ :: rs) (hs ++ [p.2])) (isLoudD bm o.op))
            (resF sem (aopDF bm E base i (ev E T) o.op H) H)) b)
        (wantedA ops T o)) l
theorem pass1F_eq (bm : Bool) (E : Env) (sem : FSem) (ops : Array Oper) (base : Nat) : ∀ (l : List Oper) (i : Nat) (T : Tr Value) (H : Heap) (k : Nat) (rs : List DR) (hs : List Heap),
    pass1F bm E sem ops base l i T H k rs hs = pass1 bm E sem ops base l i T H k rs hs
  | [], _, _, _, _, _, _ => rfl
  | o :: l, i, T, H, k, rs, hs => by
    have ih := pass1F_eq bm E sem ops base l
    simp only [pass1]
    show Option.rec (motive := fun _ => Option (List DR × Tr Value × List Heap × Heap)) none
        (fun b => Bool.rec (motive := fun _ => Option (List DR × Tr Value × List Heap × Heap)) (pass1F bm E sem ops base l (i + 1) (putT T o.dst undef) H k (⟨i, o, false, T, undef, k⟩ :: rs) hs)
          (Option.rec (motive := fun _ => Option (List DR × Tr Value × List Heap × Heap)) none
            (fun p => Bool.rec (motive := fun _ => Option (List DR × Tr Value × List Heap × Heap)) (pass1F bm E sem ops base l (i + 1) (putT T o.dst p.1) H k (⟨i, o, true, T, p.1, k⟩ :: rs) hs)
              (pass1F bm E sem ops base l (i + 1) (putT T o.dst p.1) p.2 (k + 1) (⟨i, o, true, T, p.1, k⟩ :: rs) (hs ++ [p.2])) (isLoudD bm o.op))
            (resF sem (aopDF bm E base i (ev E T) o.op H) H)) b)
        (wantedA ops T o) = _
    rw [resF_eq, aopDF_eq]
    cases wantedA ops T o with
    | none => rfl
    | some b => cases b with
      | false => exact ih _ _ _ _ _ _
      | true =>
        cases resA sem (aopD bm E base i (ev E T) o.op H) H with
        | none => rfl
        | some p =>
          obtain ⟨v, H'⟩ := p
          simp only
          cases isLoudD bm o.op with
          | true => exact ih _ _ _ _ _ _
          | false => exact ih _ _ _ _ _ _
def runDrawBF (bm : Bool) (E : Env) (sem : FSem) (ops : Array Oper) (os : List Obj) (s : St) : Option St :=
  match preA bm E s.H.next ops.toList 0 os s.H.tr with
  | none => none
  | some tr =>
    match pass1F bm E sem ops s.H.next ops.toList 0 s.T ⟨tr, s.H.next + ops.size⟩ 0 [] [⟨tr, s.H.next + ops.size⟩] with
    | some (rs, T, hs, H) => bif quietOk bm E s.H.next (stricts bm ops (masksFrom ops.toList [])) (masksFrom ops.toList []) rs hs (hs.length - 1) rs then some ⟨T, H⟩ else none
    | none => none
def runDrawF (E : Env) (sem : FSem) (ops : Array Oper) (s : St) : Option St :=
  bif staticOk false ops then runDrawBF false E sem ops [] s
  else bif staticOk true ops then (match pass0 E sem ops s.H.next ops.toList 0 s.T ⟨s.H.tr, s.H.next + ops.size⟩ [] with
    | some os => runDrawBF true E sem ops os s
    | none => none)
  else none
theorem runDrawBF_eq (bm : Bool) (E : Env) (sem : FSem) (ops : Array Oper) (os : List Obj) (s : St) : runDrawBF bm E sem ops os s = runDrawB bm E sem ops os s := by
  unfold runDrawBF runDrawB
  simp only [pass1F_eq]
  rfl
theorem runDrawF_eq (E : Env) (sem : FSem) (ops : Array Oper) (s : St) : runDrawF E sem ops s = runDraw E sem ops s := by
  unfold runDrawF runDraw
  simp only [runDrawBF_eq]
  rfl
def thenF (k : St → Option (X × St)) (r : Option (X × St)) : Option (X × St) :=
  Option.rec (motive := fun _ => Option (X × St)) none (fun p => X.rec (motive := fun _ => Option (X × St)) (k p.2) (fun i => some (.exit i, p.2)) (some (.ret, p.2)) p.1) r
def loopF (f : St → Option (X × St)) (n : Nat) : St → Option (X × St) :=
  Nat.rec (motive := fun _ => St → Option (X × St)) (fun _ => none) (fun _ ih s => thenF ih (f s)) n
theorem loopF_eq (f g : St → Option (X × St)) (h : ∀ s, f s = g s) : ∀ (n : Nat) (s : St), loopF f n s = loopN g n s
  | 0, s => rfl
  | n + 1, s => by
    show thenF (loopF f n) (f s) = _
    rw [h]
    simp only [loopN]
    cases g s with
    | none => rfl
    | some p =>
      obtain ⟨x, s'⟩ := p
      cases x with
      | normal => exact loopF_eq f g h n s'
      | exit i => rfl
      | ret => rfl
def runCodeF (E : Env) (sem : FSem) (n : Nat) (c : Code) : St → Option (X × St) :=
  Code.rec (motive := fun _ => St → Option (X × St)) (fun s => some (.normal, s))
    (fun _ ops d s => Option.rec (motive := fun _ => Option (X × St)) none (fun s' => some (.normal, s')) (Bool.rec (motive := fun _ => Option St) (runOpsF E sem ops ops.toList s) (runDrawF E sem ops s) d))
    (fun _ _ ia ib s => thenF ib (ia s))
    (fun c _ _ ia ib s => match ev E s.T c with
      | .bool t => Bool.rec (motive := fun _ => Option (X × St)) (ib s) (ia s) t
      | _ => none)
    (fun id _ ib s => Option.rec (motive := fun _ => Option (X × St)) none (fun p => X.rec (motive := fun _ => Option (X × St)) (some (.normal, p.2)) (fun j => bif Nat.beq j id then some (.normal, p.2) else some (.exit j, p.2)) (some (.ret, p.2)) p.1) (ib s))
    (fun _ ib s => loopF ib n s)
    (fun _ _ _ _ _ _ _ => none)
    (fun id s => some (.exit id, s))
    (fun _ ib s => ib s)
    (fun _ s => some (.normal, s))
    (fun _ _ => none)
    (fun s => some (.ret, s))
    (fun _ _ => none) c
theorem runCodeF_eq (E : Env) (sem : FSem) (n : Nat) : ∀ (c : Code) (s : St), runCodeF E sem n c s = runCode E sem n c s := by
  intro c
  induction c with
  | region id ops d =>
    intro s
    show Option.rec (motive := fun _ => Option (X × St)) none (fun s' => some (.normal, s')) (Bool.rec (motive := fun _ => Option St) (runOpsF E sem ops ops.toList s) (runDrawF E sem ops s) d) = _
    rw [runDrawF_eq]
    simp only [runCode]
    cases d with
    | true => simp only [cond_true]; cases runDraw E sem ops s <;> rfl
    | false => simp only [cond_false]; rw [runOpsF_eq]; cases runOps E sem ops ops.toList s <;> rfl
  | seq a b iha ihb =>
    intro s
    show thenF (runCodeF E sem n b) (runCodeF E sem n a s) = _
    rw [iha, funext ihb]
    simp only [runCode]
    cases runCode E sem n a s with
    | none => rfl
    | some p => obtain ⟨x, s'⟩ := p; cases x <;> rfl
  | cond c a b iha ihb =>
    intro s
    show (match ev E s.T c with
      | .bool t => Bool.rec (motive := fun _ => Option (X × St)) (runCodeF E sem n b s) (runCodeF E sem n a s) t
      | _ => none) = _
    simp only [runCode]
    cases ev E s.T c with
    | bool t => cases t with
      | true => exact iha s
      | false => exact ihb s
    | _ => rfl
  | block id a ih =>
    intro s
    show Option.rec (motive := fun _ => Option (X × St)) none (fun p => X.rec (motive := fun _ => Option (X × St)) (some (.normal, p.2)) (fun j => bif Nat.beq j id then some (.normal, p.2) else some (.exit j, p.2)) (some (.ret, p.2)) p.1) (runCodeF E sem n a s) = _
    rw [ih]
    simp only [runCode]
    cases runCode E sem n a s with
    | none => rfl
    | some p => obtain ⟨x, s'⟩ := p; cases x <;> rfl
  | loop a ih =>
    intro s
    show loopF (runCodeF E sem n a) n s = _
    simp only [runCode]
    exact loopF_eq _ _ ih n s
  | scope a ih => intro s; exact ih s
  | _ => intro s; rfl
def semF (E : Env) (n : Nat) : FSem :=
  Nat.rec (motive := fun _ => FSem) (fun _ _ _ => none)
    (fun n ih f args H => bif E.truth f && args.isEmpty then some (.bool true, H) else match E.fn f with
      | some fn => match fn.body with
        | some c => match initT fn args with
          | some T => match runCodeF E ih n c ⟨T, H⟩ with
            | some (.normal, s) => (resultsL E s fn.results.toList).map fun vs => (resultOf vs, s.H)
            | some (.ret, s) => (resultsL E s fn.results.toList).map fun vs => (resultOf vs, s.H)
            | _ => none
          | none => none
        | none => none
      | none => none) n
theorem semF_eq (E : Env) : ∀ n, semF E n = sem E n
  | 0 => rfl
  | n + 1 => by
    have ih := semF_eq E n
    funext f args H
    show (bif E.truth f && args.isEmpty then some (.bool true, H) else match E.fn f with
      | some fn => match fn.body with
        | some c => match initT fn args with
          | some T => match runCodeF E (semF E n) n c ⟨T, H⟩ with
            | some (.normal, s) => (resultsL E s fn.results.toList).map fun vs => (resultOf vs, s.H)
            | some (.ret, s) => (resultsL E s fn.results.toList).map fun vs => (resultOf vs, s.H)
            | _ => none
          | none => none
        | none => none
      | none => none) = _
    rw [ih]
    simp only [runCodeF_eq, sem]
    rfl
end
theorem closed_callsF {E : Env} (hE : E.Ok) (hmix : E.prog.follows .mixedOrders = true) {n f : Nat} (h : (semF E n f [] (heap0 E)).map (·.1) = some (.bool true)) (w : World) :
    Calls E.prog f #[] w fun e w' => e = .returned (.bool true) ∧ Below w.heap.size w w' := closed_calls hE hmix (by rw [← semF_eq]; exact h) w
end Go.AS
namespace Go.Proofs.YtjggeoghlicmdaaGreat
open Go.AS
noncomputable def tys : Tr TypeInfo := Tr.ofListFrom Tryz.prog.types.toList 0 .nil
noncomputable def fns : Tr Func := Tr.ofListFrom Tryz.prog.funcs.toList 0 .nil
noncomputable def env : Env := Env.of Tryz.prog tys fns [166] [297]
theorem env_ok : env.Ok := by
  refine Env.of_ok rfl rfl (by kernel_rfl) (by kernel_rfl) ?_
  intro f hf
  simp only [List.mem_cons, List.not_mem_nil, or_false] at hf
  subst hf
  exact ⟨Tryz.f297, by kernel_rfl, by kernel_rfl, by kernel_rfl, by kernel_rfl, by kernel_rfl⟩
theorem env_mix : env.prog.follows .mixedOrders = true := Checked.mixed Tryz.checked
end Go.Proofs.YtjggeoghlicmdaaGreat
namespace Go.Proofs.YtjggeoghlicmdaaGreat
open Go.AS Go.RowKit
theorem ran11 : (semF env 1000 11 [] (heap0 env)).map (·.1) = some (.bool true) := by kernel_rfl
theorem ran30 : (semF env 1000 30 [] (heap0 env)).map (·.1) = some (.bool true) := by kernel_rfl
noncomputable def en : Env := env.knows [11, 30]
theorem en_ok : en.Ok := by
  refine Env.knows_ok env_ok ?_
  intro f hf w
  simp only [List.mem_cons, List.not_mem_nil, or_false] at hf
  rcases hf with rfl | rfl
  · exact closed_callsF env_ok env_mix ran11 w
  · exact closed_callsF env_ok env_mix ran30 w
theorem en_mix : en.prog.follows .mixedOrders = true := Checked.mixed Tryz.checked
end Go.Proofs.YtjggeoghlicmdaaGreat
namespace Go.Proofs.YtjggeoghlicmdaaGreat
abbrev F.crossbarlaw15_HashOnce : Nat := 6
abbrev F.crossbarkit_Pick : Nat := 12
abbrev F.crossbarkit_SameWords : Nat := 15
abbrev F.smem_Mem_Bad : Nat := 17
abbrev F.grace_Grace_Enter : Nat := 21
abbrev F.smem_Mem_Load : Nat := 22
abbrev F.smem_Mem_Store : Nat := 23
abbrev F.crossbarlaw15_made : Nat := 26
abbrev F.crossbarlaw15_finish : Nat := 27
abbrev F.hash_Map_Begin : Nat := 28
abbrev F.crossbarlaw15_update : Nat := 29
abbrev F.crossbarlaw15_works : Nat := 30
abbrev F.crossbarlaw15_gives : Nat := 31
abbrev F.crossbarlaw15_on : Nat := 32
abbrev F.hash_Run_Step : Nat := 33
abbrev F.hash_Run_Result : Nat := 34
abbrev F.smem_New : Nat := 57
abbrev F.grace_New : Nat := 63
abbrev F.smem_Mem_access : Nat := 64
abbrev F.smem_Mem_Load_1 : Nat := 65
abbrev F.smem_Mem_Mask : Nat := 66
abbrev F.grace_Grace_sweep : Nat := 67
abbrev F.hash_New : Nat := 68
abbrev F.hash_Run_begin : Nat := 69
abbrev F.hash_Run_enter : Nat := 70
abbrev F.decl_Bucket : Nat := 71
abbrev F.hash_Map_Begin_1 : Nat := 72
abbrev F.hash_Run_seek : Nat := 73
abbrev F.hash_Map_Begin_1_1 : Nat := 74
abbrev F.hash_Run_found : Nat := 75
abbrev F.slices_Clone_uint64_uint64 : Nat := 76
abbrev F.hash_Run_give : Nat := 81
abbrev F.hash_Map_found : Nat := 82
abbrev F.hash_Run_leave : Nat := 83
abbrev F.smem_Mem_Make : Nat := 84
abbrev F.decl_Check : Nat := 103
abbrev F.smem_Mem_Swap : Nat := 115
abbrev F.slices_DeleteFunc_grace_wait_grace_wait : Nat := 116
abbrev F.grace_Grace_sweep_1 : Nat := 117
abbrev F.smem_Mem_Free : Nat := 118
abbrev F.hash_Run_search : Nat := 119
abbrev F.lock_Take : Nat := 120
abbrev F.hash_Map_lockAt : Nat := 121
abbrev F.hash_Run_enter_1 : Nat := 122
abbrev F.lock_Taker_Step : Nat := 123
abbrev F.hash_Map_headAt : Nat := 124
abbrev F.hash_Run_seek_1 : Nat := 125
abbrev F.hash_Run_seek_2 : Nat := 126
abbrev F.hash_Run_none : Nat := 127
abbrev F.hash_Run_set : Nat := 128
abbrev F.hash_Run_space : Nat := 129
abbrev F.hash_Run_look : Nat := 130
abbrev F.hash_Run_drop : Nat := 131
abbrev F.hash_Run_take : Nat := 132
abbrev F.lock_Drop : Nat := 135
abbrev F.decl_check : Nat := 161
abbrev F.smem_Mem_Swap_1 : Nat := 167
abbrev F.smem_under : Nat := 168
abbrev F.slices_IndexFunc_grace_wait_grace_wait : Nat := 169
abbrev F.hash_Run_search_1 : Nat := 170
abbrev F.hash_Run_still : Nat := 171
abbrev F.hash_Run_search_1_1 : Nat := 172
abbrev F.hash_Run_search_2 : Nat := 173
abbrev F.hash_Run_search_2_1 : Nat := 174
abbrev F.hash_Run_search_2_1_1 : Nat := 175
abbrev F.hash_Run_free : Nat := 176
abbrev F.hash_Run_search_2_1_1_1 : Nat := 177
abbrev F.hash_Run_search_2_1_2 : Nat := 178
abbrev F.hash_Run_away : Nat := 179
abbrev F.lock_Taker_draw : Nat := 180
abbrev F.hash_Run_end : Nat := 181
abbrev F.hash_Run_make : Nat := 182
abbrev F.hash_Run_add : Nat := 183
abbrev F.hash_Run_change : Nat := 184
abbrev F.hash_Run_drop_1 : Nat := 185
abbrev F.smem_Mem_Fetch : Nat := 186
abbrev F.hash_Run_unlink : Nat := 187
abbrev F.hash_Run_taking : Nat := 188
abbrev F.lock_more : Nat := 189
abbrev F.grace_Grace_Defer : Nat := 221
abbrev F.decl_kinds : Nat := 229
abbrev F.decl_within : Nat := 230
abbrev F.math_bits_OnesCount : Nat := 231
abbrev F.hash_Run_still_1 : Nat := 237
abbrev F.hash_Run_still_1_1 : Nat := 238
abbrev F.lock_Taker_wait : Nat := 239
abbrev F.hash_Run_make_1 : Nat := 240
abbrev F.smem_Mem_Cas : Nat := 241
abbrev F.hash_Run_add_1 : Nat := 242
abbrev F.hash_Run_change_1 : Nat := 243
abbrev F.smem_Mem_Fetch_1 : Nat := 244
abbrev F.word_Alu : Nat := 245
abbrev F.hash_Run_unlink_1 : Nat := 246
abbrev F.hash_Run_unlink_1_1 : Nat := 247
abbrev F.hash_Run_taking_1 : Nat := 248
abbrev F.hash_Run_taking_1_1 : Nat := 249
abbrev F.smem_Mem_Size : Nat := 275
abbrev F.slices_ContainsFunc_grace_wait_grace_wait : Nat := 276
abbrev F.grace_Grace_Defer_1 : Nat := 277
abbrev F.maps_Clone_map_intbool_int_bool : Nat := 278
abbrev F.math_bits_OnesCount64 : Nat := 284
abbrev F.lock_Taker_got : Nat := 289
abbrev F.smem_Mem_Cas_1 : Nat := 290
abbrev F.word_alu_uint64 : Nat := 291
abbrev F.word_alu_uint32 : Nat := 292
abbrev F.word_divide_uint64 : Nat := 298
end Go.Proofs.YtjggeoghlicmdaaGreat
namespace Go.AS
open Go.RowKit
set_option linter.unusedVariables false
section
variable {E : Env}
def FLe (fs gs : FSem) : Prop := ∀ f a H r, fs f a H = some r → gs f a H = some r
theorem resA_mono {fs gs : FSem} (h : FLe fs gs) {r : Option Res} {H : Heap} {p : Value × Heap} (hr : resA fs r H = some p) : resA gs r H = some p := by
  cases r with
  | none => cases hr
  | some r => cases r with
    | val v H' => exact hr
    | call f args => exact h _ _ _ _ hr
theorem stepA_mono {fs gs : FSem} (h : FLe fs gs) {ops : Array Oper} {o : Oper} {s s' : St} (hr : stepA E fs ops o s = some s') : stepA E gs ops o s = some s' := by
  unfold stepA at hr ⊢
  cases hw : wantedA ops s.T o with
  | none => rw [hw] at hr; cases hr
  | some b =>
    rw [hw] at hr
    cases b with
    | false => exact hr
    | true =>
      simp only at hr ⊢
      cases hx : resA fs (aop E (ev E s.T) o.op s.H) s.H with
      | none => rw [hx] at hr; cases hr
      | some p => rw [hx] at hr; rw [resA_mono h hx]; exact hr
theorem runOps_mono {fs gs : FSem} (h : FLe fs gs) {ops : Array Oper} : ∀ {l : List Oper} {s s' : St}, runOps E fs ops l s = some s' → runOps E gs ops l s = some s'
  | [], s, s', hr => hr
  | o :: l, s, s', hr => by
    simp only [runOps] at hr ⊢
    cases hx : stepA E fs ops o s with
    | none => rw [hx] at hr; cases hr
    | some s1 => rw [hx] at hr; rw [stepA_mono h hx]; exact runOps_mono h hr
theorem pass1_mono {bm : Bool} {fs gs : FSem} (h : FLe fs gs) {ops : Array Oper} {base : Nat} : ∀ {l : List Oper} {i : Nat} {T : Tr Value} {H : Heap} {k : Nat} {rs : List DR} {hs : List Heap} {r : List DR × Tr Value × List Heap × Heap},
    pass1 bm E fs ops base l i T H k rs hs = some r → pass1 bm E gs ops base l i T H k rs hs = some r
  | [], _, _, _, _, _, _, _, hr => hr
  | o :: l, i, T, H, k, rs, hs, r, hr => by
    simp only [pass1] at hr ⊢
    cases hw : wantedA ops T o with
    | none => rw [hw] at hr; cases hr
    | some b =>
      rw [hw] at hr
      cases b with
      | false => exact pass1_mono h hr
      | true =>
        simp only at hr ⊢
        cases hx : resA fs (aopD bm E base i (ev E T) o.op H) H with
        | none => rw [hx] at hr; cases hr
        | some p =>
          obtain ⟨v, H'⟩ := p
          rw [hx] at hr; rw [resA_mono h hx]
          simp only at hr ⊢
          cases hl : isLoudD bm o.op with
          | true => rw [hl] at hr; exact pass1_mono h hr
          | false => rw [hl] at hr; exact pass1_mono h hr
theorem pass0_mono {fs gs : FSem} (h : FLe fs gs) {ops : Array Oper} {base : Nat} : ∀ {l : List Oper} {i : Nat} {T : Tr Value} {H : Heap} {os r : List Obj},
    pass0 E fs ops base l i T H os = some r → pass0 E gs ops base l i T H os = some r
  | [], _, _, _, _, _, hr => hr
  | o :: l, i, T, H, os, r, hr => by
    simp only [pass0] at hr ⊢
    cases hw : wantedA ops T o with
    | none => rw [hw] at hr; cases hr
    | some b =>
      rw [hw] at hr
      cases b with
      | false => exact pass0_mono h hr
      | true =>
        simp only at hr ⊢
        cases hb : isBirth true o.op with
        | true =>
          rw [hb] at hr
          simp only [cond_true] at hr ⊢
          cases hx : bornA E (ev E T) o.op with
          | none => rw [hx] at hr; cases hr
          | some p => rw [hx] at hr; exact pass0_mono h hr
        | false =>
          rw [hb] at hr
          simp only [cond_false] at hr ⊢
          cases hx : resA fs (aop E (ev E T) o.op H) H with
          | none => rw [hx] at hr; cases hr
          | some p =>
            obtain ⟨v, H'⟩ := p
            rw [hx] at hr; rw [resA_mono h hx]
            exact pass0_mono h hr
theorem runDrawB_mono {bm : Bool} {fs gs : FSem} (h : FLe fs gs) {ops : Array Oper} {os : List Obj} {s s' : St} (hr : runDrawB bm E fs ops os s = some s') : runDrawB bm E gs ops os s = some s' := by
  unfold runDrawB at hr ⊢
  cases hp : preA bm E s.H.next ops.toList 0 os s.H.tr with
  | none => rw [hp] at hr; cases hr
  | some tr =>
  rw [hp] at hr
  simp only at hr ⊢
  cases hx : pass1 bm E fs ops s.H.next ops.toList 0 s.T ⟨tr, s.H.next + ops.size⟩ 0 [] [⟨tr, s.H.next + ops.size⟩] with
  | none => rw [hx] at hr; cases hr
  | some r => rw [hx] at hr; rw [pass1_mono h hx]; exact hr
theorem runDraw_mono {fs gs : FSem} (h : FLe fs gs) {ops : Array Oper} {s s' : St} (hr : runDraw E fs ops s = some s') : runDraw E gs ops s = some s' := by
  unfold runDraw at hr ⊢
  cases hst : staticOk false ops with
  | true => rw [hst] at hr; exact runDrawB_mono h hr
  | false =>
    rw [hst] at hr
    simp only [cond_false] at hr ⊢
    cases hst2 : staticOk true ops with
    | false => rw [hst2] at hr; cases hr
    | true =>
      rw [hst2] at hr
      simp only [cond_true] at hr ⊢
      cases hx : pass0 E fs ops s.H.next ops.toList 0 s.T ⟨s.H.tr, s.H.next + ops.size⟩ [] with
      | none => rw [hx] at hr; cases hr
      | some os => rw [hx] at hr; rw [pass0_mono h hx]; exact runDrawB_mono h hr
theorem loopN_mono {f g : St → Option (X × St)} (h : ∀ s r, f s = some r → g s = some r) : ∀ {n m : Nat} {s : St} {r : X × St}, n ≤ m → loopN f n s = some r → loopN g m s = some r
  | 0, _, _, _, _, hr => by simp [loopN] at hr
  | n + 1, 0, _, _, hle, _ => by omega
  | n + 1, m + 1, s, r, hle, hr => by
    simp only [loopN] at hr ⊢
    cases hx : f s with
    | none => rw [hx] at hr; cases hr
    | some p =>
      obtain ⟨x, s1⟩ := p
      rw [hx] at hr
      rw [h _ _ hx]
      cases x with
      | normal => exact loopN_mono h (by omega) hr
      | exit id => exact hr
      | ret => exact hr
theorem runCode_mono {fs gs : FSem} (h : FLe fs gs) {n m : Nat} (hle : n ≤ m) : ∀ (c : Code) (s : St) (r : X × St), runCode E fs n c s = some r → runCode E gs m c s = some r := by
  intro c
  induction c with
  | region id ops d =>
    intro s r hr
    simp only [runCode] at hr ⊢
    cases d with
    | true =>
      simp only [cond_true] at hr ⊢
      cases hx : runDraw E fs ops s with
      | none => rw [hx] at hr; cases hr
      | some s1 => rw [hx] at hr; rw [runDraw_mono h hx]; exact hr
    | false =>
      simp only [cond_false] at hr ⊢
      cases hx : runOps E fs ops ops.toList s with
      | none => rw [hx] at hr; cases hr
      | some s1 => rw [hx] at hr; rw [runOps_mono h hx]; exact hr
  | seq a b iha ihb =>
    intro s r hr
    simp only [runCode] at hr ⊢
    cases hx : runCode E fs n a s with
    | none => rw [hx] at hr; cases hr
    | some p =>
      obtain ⟨x, s1⟩ := p
      rw [hx] at hr
      rw [iha _ _ hx]
      cases x with
      | normal => exact ihb _ _ hr
      | exit id => exact hr
      | ret => exact hr
  | cond c a b iha ihb =>
    intro s r hr
    simp only [runCode] at hr ⊢
    split at hr
    · rename_i t hc
      cases t with
      | true => exact iha _ _ hr
      | false => exact ihb _ _ hr
    · cases hr
  | block id a ih =>
    intro s r hr
    simp only [runCode] at hr ⊢
    cases hx : runCode E fs n a s with
    | none => rw [hx] at hr; cases hr
    | some p =>
      obtain ⟨x, s1⟩ := p
      rw [hx] at hr
      rw [ih _ _ hx]
      exact hr
  | loop a ih =>
    intro s r hr
    simp only [runCode] at hr ⊢
    exact loopN_mono (fun s r => ih s r) hle hr
  | scope a ih =>
    intro s r hr
    simp only [runCode] at hr ⊢
    exact ih _ _ hr
  | _ => intro s r hr; exact hr
theorem sem_mono : ∀ {n m : Nat}, n ≤ m → FLe (sem E n) (sem E m)
  | 0, _, _ => by intro f a H r h; simp [sem] at h
  | n + 1, 0, hle => by omega
  | n + 1, m + 1, hle => by
    intro f a H r h
    simp only [sem] at h ⊢
    cases ht : (E.truth f && a.isEmpty) with
    | true => rw [ht] at h; exact h
    | false =>
    rw [ht] at h
    simp only [cond_false] at h ⊢
    cases hf : E.fn f with
    | none => rw [hf] at h; cases h
    | some fn =>
      rw [hf] at h
      simp only at h ⊢
      cases hb : fn.body with
      | none => rw [hb] at h; cases h
      | some c =>
        rw [hb] at h
        simp only at h ⊢
        cases hi : initT fn a with
        | none => rw [hi] at h; cases h
        | some T =>
          rw [hi] at h
          simp only at h ⊢
          cases hr : runCode E (sem E n) n c ⟨T, H⟩ with
          | none => rw [hr] at h; cases h
          | some p =>
            rw [hr] at h
            rw [runCode_mono (sem_mono (show n ≤ m by omega)) (by omega) _ _ _ hr]
            exact h
def CA (E : Env) (f : FuncId) (args : List Value) (H : Heap) (R : Value → Heap → Prop) : Prop := ∃ n v H', sem E n f args H = some (v, H') ∧ R v H'
def WA (E : Env) (c : Code) (T : Tr Value) (H : Heap) (Q : X → Tr Value → Heap → Prop) : Prop := ∃ n x s', runCode E (sem E n) n c ⟨T, H⟩ = some (x, s') ∧ Q x s'.T s'.H
def OA (E : Env) (ops : Array Oper) (l : List Oper) (T : Tr Value) (H : Heap) (Q : Tr Value → Heap → Prop) : Prop := ∃ n s', runOps E (sem E n) ops l ⟨T, H⟩ = some s' ∧ Q s'.T s'.H
theorem CA.mono {f : FuncId} {args : List Value} {H : Heap} {R R' : Value → Heap → Prop} (h : CA E f args H R) (hr : ∀ v H', R v H' → R' v H') : CA E f args H R' :=
  let ⟨n, v, H', h1, h2⟩ := h; ⟨n, v, H', h1, hr _ _ h2⟩
theorem WA.mono {c : Code} {T : Tr Value} {H : Heap} {Q Q' : X → Tr Value → Heap → Prop} (h : WA E c T H Q) (hr : ∀ x T H, Q x T H → Q' x T H) : WA E c T H Q' :=
  let ⟨n, x, s, h1, h2⟩ := h; ⟨n, x, s, h1, hr _ _ _ h2⟩
def XThen (K : Tr Value → Heap → Prop) (Q : X → Tr Value → Heap → Prop) : X → Tr Value → Heap → Prop
  | .normal => K
  | x => Q x
def XBlock (id : Nat) (Q : X → Tr Value → Heap → Prop) : X → Tr Value → Heap → Prop
  | .exit j => if j = id then Q .normal else Q (.exit j)
  | x => Q x
theorem WA_seq {a b : Code} {T : Tr Value} {H : Heap} {Q : X → Tr Value → Heap → Prop} (h : WA E a T H (XThen (fun T H => WA E b T H Q) Q)) : WA E (.seq a b) T H Q := by
  obtain ⟨n, x, s, h1, h2⟩ := h
  cases x with
  | normal =>
    obtain ⟨m, y, s2, h3, h4⟩ := h2
    refine ⟨max n m, y, s2, ?_, h4⟩
    simp only [runCode]
    rw [runCode_mono (sem_mono (Nat.le_max_left n m)) (Nat.le_max_left n m) _ _ _ h1]
    exact runCode_mono (sem_mono (Nat.le_max_right n m)) (Nat.le_max_right n m) _ _ _ h3
  | exit id => exact ⟨n, _, s, by simp only [runCode]; rw [h1], h2⟩
  | ret => exact ⟨n, _, s, by simp only [runCode]; rw [h1], h2⟩
theorem WA_cond {c : Operand} {a b : Code} {T : Tr Value} {H : Heap} {Q : X → Tr Value → Heap → Prop} {t : Bool} (hc : ev E T c = .bool t) (h : if t = true then WA E a T H Q else WA E b T H Q) : WA E (.cond c a b) T H Q := by
  cases t with
  | true =>
    obtain ⟨n, x, s, h1, h2⟩ := (by simpa using h : WA E a T H Q)
    exact ⟨n, x, s, by simp only [runCode]; rw [hc]; exact h1, h2⟩
  | false =>
    obtain ⟨n, x, s, h1, h2⟩ := (by simpa using h : WA E b T H Q)
    exact ⟨n, x, s, by simp only [runCode]; rw [hc]; exact h1, h2⟩
theorem WA_block {id : Nat} {a : Code} {T : Tr Value} {H : Heap} {Q : X → Tr Value → Heap → Prop} (h : WA E a T H (XBlock id Q)) : WA E (.block id a) T H Q := by
  obtain ⟨n, x, s, h1, h2⟩ := h
  cases x with
  | normal => exact ⟨n, .normal, s, by simp only [runCode]; rw [h1], h2⟩
  | ret => exact ⟨n, .ret, s, by simp only [runCode]; rw [h1], h2⟩
  | exit j =>
    simp only [XBlock] at h2
    by_cases e : j = id
    · subst e
      rw [if_pos rfl] at h2
      exact ⟨n, .normal, s, by simp only [runCode]; rw [h1]; simp, h2⟩
    · rw [if_neg e] at h2
      refine ⟨n, .exit j, s, ?_, h2⟩
      simp only [runCode]; rw [h1]
      simp only
      have : Nat.beq j id = false := by
        cases hb : Nat.beq j id with
        | false => rfl
        | true => exact absurd (Nat.eq_of_beq_eq_true hb) e
      rw [this]; rfl
theorem WA_loop {a : Code} {T : Tr Value} {H : Heap} {Q : X → Tr Value → Heap → Prop} (h : WA E a T H (XThen (fun T H => WA E (.loop a) T H Q) Q)) : WA E (.loop a) T H Q := by
  obtain ⟨n, x, s, h1, h2⟩ := h
  cases x with
  | normal =>
    obtain ⟨m, y, s2, h3, h4⟩ := h2
    refine ⟨max n m + 1, y, s2, ?_, h4⟩
    simp only [runCode, loopN]
    rw [runCode_mono (sem_mono (show n ≤ max n m + 1 by omega)) (show n ≤ max n m + 1 by omega) _ _ _ h1]
    simp only [runCode] at h3
    exact loopN_mono (fun s r hr => runCode_mono (sem_mono (show m ≤ max n m + 1 by omega)) (show m ≤ max n m + 1 by omega) _ _ _ hr) (Nat.le_max_right n m) h3
  | exit id => exact ⟨n + 1, _, s, by simp only [runCode, loopN]; rw [runCode_mono (sem_mono (Nat.le_succ n)) (Nat.le_succ n) _ _ _ h1], h2⟩
  | ret => exact ⟨n + 1, _, s, by simp only [runCode, loopN]; rw [runCode_mono (sem_mono (Nat.le_succ n)) (Nat.le_succ n) _ _ _ h1], h2⟩
theorem WA_skip {T : Tr Value} {H : Heap} {Q : X → Tr Value → Heap → Prop} (h : Q .normal T H) : WA E .skip T H Q := ⟨0, .normal, ⟨T, H⟩, rfl, h⟩
theorem WA_exit {id : Nat} {T : Tr Value} {H : Heap} {Q : X → Tr Value → Heap → Prop} (h : Q (.exit id) T H) : WA E (.exit id) T H Q := ⟨0, .exit id, ⟨T, H⟩, rfl, h⟩
theorem WA_ret {T : Tr Value} {H : Heap} {Q : X → Tr Value → Heap → Prop} (h : Q .ret T H) : WA E .ret T H Q := ⟨0, .ret, ⟨T, H⟩, rfl, h⟩
theorem WA_scope {a : Code} {T : Tr Value} {H : Heap} {Q : X → Tr Value → Heap → Prop} (h : WA E a T H Q) : WA E (.scope a) T H Q :=
  let ⟨n, x, s, h1, h2⟩ := h; ⟨n, x, s, h1, h2⟩
theorem WA_region {id : Nat} {ops : Array Oper} {T : Tr Value} {H : Heap} {Q : X → Tr Value → Heap → Prop} (h : OA E ops ops.toList T H (Q .normal)) : WA E (.region id ops false) T H Q := by
  obtain ⟨n, s, h1, h2⟩ := h
  exact ⟨n, .normal, s, by simp only [runCode, cond_false]; rw [h1], h2⟩
theorem OA_nil {ops : Array Oper} {T : Tr Value} {H : Heap} {Q : Tr Value → Heap → Prop} (h : Q T H) : OA E ops [] T H Q := ⟨0, ⟨T, H⟩, rfl, h⟩
def OpA (E : Env) (o : Oper) (T : Tr Value) (H : Heap) (K : Tr Value → Heap → Prop) : Option Res → Prop
  | some (.val v H') => K (putT T o.dst v) H'
  | some (.call f args) => CA E f args H fun v H' => K (putT T o.dst v) H'
  | none => False
def OpW (E : Env) (o : Oper) (T : Tr Value) (H : Heap) (K : Tr Value → Heap → Prop) : Option Bool → Prop
  | some true => OpA E o T H K (aop E (ev E T) o.op H)
  | some false => K (putT T o.dst undef) H
  | none => False
theorem OA_cons {ops : Array Oper} {o : Oper} {l : List Oper} {T : Tr Value} {H : Heap} {Q : Tr Value → Heap → Prop} (h : OpW E o T H (fun T H => OA E ops l T H Q) (wantedA ops T o)) : OA E ops (o :: l) T H Q := by
  cases hw : wantedA ops T o with
  | none => rw [hw] at h; exact h.elim
  | some b =>
    rw [hw] at h
    cases b with
    | false =>
      obtain ⟨n, s, h1, h2⟩ := h
      exact ⟨n, s, by simp only [runOps, stepA]; rw [hw]; exact h1, h2⟩
    | true =>
      simp only [OpW] at h
      cases hr : aop E (ev E T) o.op H with
      | none => rw [hr] at h; exact h.elim
      | some r =>
        rw [hr] at h
        cases r with
        | val v H' =>
          obtain ⟨n, s, h1, h2⟩ := h
          exact ⟨n, s, by simp only [runOps, stepA]; rw [hw]; simp only [hr, resA]; exact h1, h2⟩
        | call f args =>
          obtain ⟨n, v, H', h1, m, s, h2, h3⟩ := h
          refine ⟨max n m, s, ?_, h3⟩
          simp only [runOps, stepA]
          rw [hw]
          simp only [hr, resA]
          rw [sem_mono (Nat.le_max_left n m) _ _ _ _ h1]
          exact runOps_mono (sem_mono (Nat.le_max_right n m)) h2
def Back (E : Env) (fn : Func) (R : Value → Heap → Prop) : X → Tr Value → Heap → Prop
  | .normal, T, H => ∃ vs, resultsL E ⟨T, H⟩ fn.results.toList = some vs ∧ R (resultOf vs) H
  | .ret, T, H => ∃ vs, resultsL E ⟨T, H⟩ fn.results.toList = some vs ∧ R (resultOf vs) H
  | _, _, _ => False
theorem CA_enter {f : FuncId} {fn : Func} {c : Code} {args : List Value} {T : Tr Value} {H : Heap} {R : Value → Heap → Prop} (ht : E.truth f = false) (hf : E.fn f = some fn) (hb : fn.body = some c) (hi : initT fn args = some T)
    (h : WA E c T H (Back E fn R)) : CA E f args H R := by
  obtain ⟨n, x, s, h1, h2⟩ := h
  cases x with
  | normal =>
    obtain ⟨vs, h3, h4⟩ := h2
    refine ⟨n + 1, resultOf vs, s.H, ?_, h4⟩
    simp only [sem, ht, Bool.false_and, cond_false, hf, hb, hi, h1]
    rw [h3]; rfl
  | ret =>
    obtain ⟨vs, h3, h4⟩ := h2
    refine ⟨n + 1, resultOf vs, s.H, ?_, h4⟩
    simp only [sem, ht, Bool.false_and, cond_false, hf, hb, hi, h1]
    rw [h3]; rfl
  | exit id => exact h2.elim
end
end Go.AS
namespace Go.AS
open Go.RowKit
set_option linter.unusedVariables false
abbrev Fr := List Value
noncomputable section
def ofL (xs : Fr) : Tr Value := Tr.updsFrom xs 0 (Tr.fill undef xs.length xs.length)
def evL (E : Env) (xs : Fr) : Operand → Value
  | .tmp t => xs.getD t undef
  | .const v => bif plain v then v else anyv
  | .global g => bif Nat.ble (g + 1) E.ng then .pointer (some ⟨g, 0, none⟩) else anyv
  | .func f => .func (.func f) #[] #[]
def putL (xs : Fr) (d : Option Tmp) (v : Value) : Fr :=
  match d with
  | some d => xs.set d v
  | none => xs
def Heap.bump (H : Heap) (n : Nat) : Heap := ⟨H.tr, H.next + n⟩
def Heap.cell (H : Heap) (i o : Nat) : Option Value :=
  match H.get i with
  | some (.cells _ _ c) => c[o]?
  | _ => none
def Heap.cellsAt (H : Heap) (i o n : Nat) : Option (List Value) :=
  match H.get i with
  | some (.cells _ _ c) => takeAt c o n
  | _ => none
def asBool (v : Value) (K : Bool → Prop) : Prop :=
  match v with
  | .bool b => K b
  | _ => False
def asInt (k : IntKind) (v : Value) (K : Int → Prop) : Prop :=
  match v with
  | .int j n => cond (decide (j = k)) (K n) False
  | _ => False
def asNum (v : Value) (K : Int → Prop) : Prop :=
  match v with
  | .int _ n => K n
  | _ => False
def asAddr (v : Value) (K : Nat → Nat → Prop) : Prop :=
  match v with
  | .pointer (some ⟨i, o, none⟩) => K i o
  | _ => False
def asRow (a : Option Addr) (K : Nat → Nat → Prop) : Prop :=
  match a with
  | some ⟨i, o, none⟩ => K i o
  | _ => False
def asSlice (v : Value) (K : Option Addr → Nat → Prop) : Prop :=
  match v with
  | .slice a l _ => K a l
  | _ => False
def asMap (v : Value) (K : Option Nat → Prop) : Prop :=
  match v with
  | .map m => K m
  | _ => False
def asFn (v : Value) (K : FuncId → List Value → List Value → Prop) : Prop :=
  match v with
  | .func (.func f) fs cs => K f fs.toList cs.toList
  | _ => False
def asCells (v : Value) (K : List Value → Prop) : Prop :=
  match cellsOf v with
  | some l => K l
  | none => False
def asSome {α : Type} (o : Option α) (K : α → Prop) : Prop :=
  match o with
  | some x => K x
  | none => False
def exOne (z : Value) (P : Value → Prop) : Prop :=
  match z with
  | .int k _ => ∃ n, P (.int k n)
  | .bool _ => ∃ b, P (.bool b)
  | .slice _ _ _ => ∃ a l, P (.slice a l 0)
  | .pointer _ => ∃ p, P (.pointer p)
  | .map _ => ∃ m, P (.map m)
  | .string _ => ∃ s, P (.string s)
  | _ => ∃ v, P v
def exLeaf (z : Value) (P : Value → Prop) : Prop :=
  match z with
  | .nilFunc => P .nilFunc ∨ ∃ f l b, P (.func (.func f) ⟨l⟩ ⟨b⟩)
  | z => exOne z P
def exCells : List Value → (List Value → Prop) → Prop
  | [], P => P []
  | z :: zs, P => exLeaf z fun v => exCells zs fun l => P (v :: l)
def exPart (z : Value) (P : Value → Prop) : Prop :=
  match z with
  | .agg cs => exCells cs.toList fun l => P (.agg ⟨l⟩)
  | z => exOne z P
def exParts : List Value → (List Value → Prop) → Prop
  | [], P => P []
  | z :: zs, P => exPart z fun v => exParts zs fun l => P (v :: l)
def exLike (z : Value) (P : Value → Prop) : Prop :=
  match z with
  | .tuple cs => exParts cs.toList fun l => P (.tuple ⟨l⟩)
  | z => exPart z P
theorem exOne_some {z : Value} {P : Value → Prop} (h : exOne z P) : ∃ v, P v := by
  unfold exOne at h
  split at h
  all_goals first
    | (obtain ⟨a, b, h⟩ := h; exact ⟨_, h⟩)
    | (obtain ⟨a, h⟩ := h; exact ⟨_, h⟩)
theorem exLeaf_some {z : Value} {P : Value → Prop} (h : exLeaf z P) : ∃ v, P v := by
  unfold exLeaf at h
  split at h
  · rcases h with h | ⟨f, l, b, h⟩
    · exact ⟨_, h⟩
    · exact ⟨_, h⟩
  · exact exOne_some h
theorem exCells_some : ∀ {zs : List Value} {P : List Value → Prop}, exCells zs P → ∃ l, P l
  | [], P, h => ⟨[], h⟩
  | z :: zs, P, h => by
    obtain ⟨v, h⟩ := exLeaf_some h
    obtain ⟨l, h⟩ := exCells_some h
    exact ⟨_, h⟩
theorem exPart_some {z : Value} {P : Value → Prop} (h : exPart z P) : ∃ v, P v := by
  unfold exPart at h
  split at h
  · obtain ⟨l, h⟩ := exCells_some h
    exact ⟨_, h⟩
  · exact exOne_some h
theorem exParts_some : ∀ {zs : List Value} {P : List Value → Prop}, exParts zs P → ∃ l, P l
  | [], P, h => ⟨[], h⟩
  | z :: zs, P, h => by
    obtain ⟨v, h⟩ := exPart_some h
    obtain ⟨l, h⟩ := exParts_some h
    exact ⟨_, h⟩
theorem exLike_some {z : Value} {P : Value → Prop} (h : exLike z P) : ∃ v, P v := by
  unfold exLike at h
  split at h
  · obtain ⟨l, h⟩ := exParts_some h
    exact ⟨_, h⟩
  · exact exPart_some h
def zeroOf (E : Env) (t : Nat) : Value :=
  match E.ty t with
  | some i => match i.zero with
    | some z => z
    | none => anyv
  | none => anyv
def nwH (H : Heap) (o : Obj) (K : Nat → Heap → Prop) : Prop := K H.next (H.new o)
def wpLoad (E : Env) (t : Nat) (a : Value) (H : Heap) (K : Value → Prop) : Prop :=
  asAddr a fun i o => match isAggA E t with
    | some false => exOne (zeroOf E t) fun v => H.cell i o = some v ∧ K v
    | some true => match sizeA E t with
      | some n => bif Nat.beq n 0 then False else exCells (zeroOf E t).cells.toList fun l => H.cellsAt i o n = some l ∧ K (.agg ⟨l⟩)
      | none => False
    | none => False
def stc (H : Heap) (i o : Nat) (vs : List Value) (K : Heap → Prop) : Prop :=
  ∃ z c, H.get i = some (.cells true z c) ∧ o + vs.length ≤ c.length ∧ K (H.set i (.cells true z (setAt c o vs)))
def wpStore (E : Env) (t : Nat) (a v : Value) (H : Heap) (K : Heap → Prop) : Prop :=
  asAddr a fun i o => asCells v fun vs => match sizeA E t with
    | some n => bif Nat.beq vs.length n then stc H i o vs K else False
    | none => False
def nz (b : Int) : Prop := b ≠ 0
def nn (b : Int) : Prop := 0 ≤ b
def inB (n : Int) (len : Nat) : Prop := 0 ≤ n ∧ n < len
def inS (n : Int) (len : Nat) : Prop := 0 ≤ n ∧ n ≤ len
def okLen (bytes : Nat) (l c : Int) : Prop := 0 ≤ l ∧ l ≤ c ∧ bytes * c.toNat ≤ 140737488355328
def wpInt (op : BinOp) (k : IntKind) (a b : Int) (K : Value → Prop) : Prop :=
  match op with
  | .quo => nz b ∧ K (.int k (k.wrap (a.tdiv b)))
  | .rem => nz b ∧ K (.int k (a.tmod b))
  | .shl => nn b ∧ K (.int k (k.wrap (a * 2 ^ (min b.toNat k.bits))))
  | .shr => nn b ∧ K (.int k (a.fdiv (2 ^ (min b.toNat k.bits))))
  | op => asSome (intBinA op k a b) K
def wpEqS (E : Env) (t : Nat) (x y : Value) (K : Bool → Prop) : Prop :=
  match und E t with
  | some (.int _) => match x, y with
    | .int k a, .int j b => cond (decide (k = j)) (K (a == b)) False
    | _, _ => False
  | some .bool => match x, y with
    | .bool a, .bool b => K (a == b)
    | _, _ => False
  | _ => False
def wpEqF (E : Env) (xs ys : Array Value) : List Field → (Bool → Prop) → Prop
  | [], K => K true
  | f :: fs, K => match partA E f.type xs f.offset with
    | some u => match partA E f.type ys f.offset with
      | some v => wpEqS E f.type u v fun b => match fs with
        | [] => K b
        | _ :: _ => wpEqF E xs ys fs fun b' => K (b && b')
      | none => False
    | none => False
def isNilLit : Value → Bool
  | .pointer none => true
  | .slice none _ _ => true
  | .map none => true
  | .nilFunc => true
  | _ => false
def asFnNil (v : Value) (K : Bool → Prop) : Prop :=
  match v with
  | .nilFunc => K true
  | .func _ _ _ => K false
  | _ => False
def nilFor (E : Env) (t : Nat) (c v : Value) (K : Bool → Prop) : Prop :=
  match und E t, c with
  | some (.pointer _), .pointer none => match v with
    | .pointer p => K p.isNone
    | _ => False
  | some (.slice _), .slice none _ _ => match v with
    | .slice a _ _ => K a.isNone
    | _ => False
  | some (.map _ _), .map none => match v with
    | .map m => K m.isNone
    | _ => False
  | some (.func _ _ _), .nilFunc => asFnNil v K
  | _, _ => False
def wpNilCmp (E : Env) (op : BinOp) (t : Nat) (c v : Value) (K : Value → Prop) : Prop :=
  nilFor E t c v fun b => match op with
    | .eql => K (.bool b)
    | .neq => K (.bool !b)
    | _ => False
def wpBin (E : Env) (H : Heap) (op : BinOp) (t : Nat) (x y : Value) (K : Value → Prop) : Prop :=
  match x with
  | .int k a => match y with
    | .int j b => bif isShift op then wpInt op k a b K else cond (decide (k = j)) (wpInt op k a b K) False
    | _ => False
  | .bool a => match y with
    | .bool b => match und E t with
      | some .bool => match op with
        | .eql => K (.bool (a == b))
        | .neq => K (.bool !(a == b))
        | _ => False
      | _ => False
    | _ => False
  | .agg xs => match y with
    | .agg ys => bif E.eqOk t then match und E t with
      | some (.struct fields) => wpEqF E xs ys fields.toList fun b => match op with
        | .eql => K (.bool b)
        | .neq => K (.bool !b)
        | _ => False
      | _ => False
      else False
    | _ => False
  | x => asSome (binA E H op t x y) K
def wpPick (c a b : Value) (K : Value → Prop) : Prop :=
  asBool c fun t => cond t (K a) (K b)
def slK (H : Heap) (a : Option Addr) (n l m : Nat) (K : Value → Prop) : Prop :=
  match a with
  | none => K (.slice none 0 0)
  | some ⟨i, o, none⟩ => (∃ w z c, H.get i = some (.cells w z c) ∧ (z = 0 ∨ z = n)) ∧ K (.slice (some ⟨i, o + l * n, none⟩) m 0)
  | _ => False
def bndHi (len : Nat) (hi : Option Value) (K : Nat → Prop) : Prop :=
  match hi with
  | none => K len
  | some v => asNum v fun n => inS n len ∧ K n.toNat
def bndLo (h : Nat) (lo : Option Value) (K : Nat → Prop) : Prop :=
  match lo with
  | none => K 0
  | some v => asNum v fun n => inS n h ∧ K n.toNat
def wpSlice (E : Env) (H : Heap) (t : Nat) (x : Value) (lo hi mx : Option Value) (K : Value → Prop) : Prop :=
  match mx with
  | some _ => False
  | none => match und E t with
    | some (.slice e) => match sizeA E e with
      | some n => asSlice x fun a len => bndHi len hi fun h => bndLo h lo fun l => slK H a n l (h - l) K
      | none => False
    | some (.array n e) => match sizeA E e, lo, hi with
      | some _, none, none => asAddr x fun i o => (∃ w c, H.get i = some (.cells w 0 c)) ∧ K (.slice (some ⟨i, o, none⟩) n 0)
      | _, _, _ => False
    | _ => False
def wpIndexAddr (E : Env) (t : Nat) (x ix : Value) (K : Value → Prop) : Prop :=
  match und E t with
  | some (.slice el) => match sizeA E el with
    | some s => asSlice x fun a len => asNum ix fun n => inB n len ∧ asRow a fun i o => K (.pointer (some ⟨i, o + n.toNat * s, none⟩))
    | none => False
  | some (.array len el) => match sizeA E el with
    | some s => asAddr x fun i o => asNum ix fun n => inB n len ∧ K (.pointer (some ⟨i, o + n.toNat * s, none⟩))
    | none => False
  | _ => False
def wpFieldAddr (E : Env) (t : Nat) (x : Value) (f : Nat) (K : Value → Prop) : Prop :=
  match und E t with
  | some (.struct fields) => match fields[f]? with
    | some fd => match sizeA E fd.type with
      | some n => bif Nat.beq n 0 then False else asAddr x fun i o => K (.pointer (some ⟨i, o + fd.offset, none⟩))
      | none => False
    | none => False
  | _ => False
def entriesOf (H : Heap) (m : Option Nat) : Option (List MapEntry) :=
  match m with
  | none => some []
  | some i => match H.get i with
    | some (.map es _) => some es
    | _ => none
def mapGet (H : Heap) (kd : TypeDesc) (m : Option Nat) (k : Value) : Option (Option (Nat × Value)) :=
  (entriesOf H m).bind fun es => Instr.findNow kd k es 0
def got (r : Option (Nat × Value)) (z v : Value) : Prop :=
  match r with
  | some (_, u) => u = v
  | none => z = v
def wpLookup (E : Env) (H : Heap) (t : Nat) (x k : Value) (ok : Bool) (K : Value → Prop) : Prop :=
  match und E t with
  | some (.map kt e) => match simpleKey E kt with
    | some kd => match zeroV E e with
      | some z => asMap x fun m => ∃ r, mapGet H kd m k = some r ∧ exPart z fun v => got r z v ∧ K (bif ok then .tuple #[v, .bool r.isSome] else v)
      | none => False
    | none => False
  | _ => False
def putMap (es : List MapEntry) (clock : Nat) (r : Option (Nat × Value)) (k v : Value) : Obj :=
  match r with
  | some (j, _) => .map (es.modify j fun e => { e with key := k, val := v }) clock
  | none => .map (es ++ [{ key := k, val := v, born := clock }]) (clock + 1)
def delMap (es : List MapEntry) (clock : Nat) (r : Option (Nat × Value)) : Obj :=
  match r with
  | some (j, _) => .map (es.eraseIdx j) clock
  | none => .map es clock
def upM (H : Heap) (kd : TypeDesc) (m : Option Nat) (k v : Value) (K : Heap → Prop) : Prop :=
  ∃ i es clock r, m = some i ∧ H.get i = some (.map es clock) ∧ Instr.findNow kd k es 0 = some r ∧ K (H.set i (putMap es clock r k v))
def dlM (H : Heap) (kd : TypeDesc) (m : Option Nat) (k : Value) (K : Heap → Prop) : Prop :=
  ∃ i es clock r, m = some i ∧ H.get i = some (.map es clock) ∧ Instr.findNow kd k es 0 = some r ∧ K (H.set i (delMap es clock r))
def wpMapUpdate (E : Env) (H : Heap) (t : Nat) (m k v : Value) (K : Heap → Prop) : Prop :=
  match und E t with
  | some (.map kt _) => match simpleKey E kt with
    | some kd => asMap m fun m => upM H kd m k v K
    | none => False
  | _ => False
def wpDelete (E : Env) (H : Heap) (t : Nat) (m k : Value) (K : Heap → Prop) : Prop :=
  match und E t with
  | some (.map kt _) => match simpleKey E kt with
    | some kd => asMap m fun m => dlM H kd m k K
    | none => False
  | _ => False
def lnM (H : Heap) (m : Option Nat) (K : Int → Prop) : Prop := ∃ es, entriesOf H m = some es ∧ K es.length
def wpLen (E : Env) (H : Heap) (t : Nat) (x : Value) (K : Value → Prop) : Prop :=
  match und E t with
  | some (.slice _) => asSlice x fun _ n => K (.int .i64 n)
  | some .string => match x with
    | .string s => K (.int .i64 s.size)
    | _ => False
  | some (.array n _) => K (.int .i64 n)
  | some (.map _ _) => asMap x fun m => lnM H m fun n => K (.int .i64 n)
  | _ => False
def rowOf (H : Heap) (es : Nat) (a : Option Addr) (n : Nat) : Option (List Value) := firstCellsA H es n (.slice a n 0)
def apd (H : Heap) (bytes es : Nat) (a : Option Addr) (len n : Nat) (new : List Value) (K : Option Addr → Nat → Heap → Prop) : Prop :=
  (n = 0 ∧ K a len H) ∨ (0 < n ∧ (
    (a = none ∧ len = 0 ∧ n * bytes ≤ 140737488355328 ∧ K (some ⟨H.next, 0, none⟩) n (H.new (.cells true es new))) ∨
    (∃ i o c, a = some ⟨i, o, none⟩ ∧ H.get i = some (.cells true es c) ∧ (
      (o + (len + n) * es ≤ c.length ∧ ∃ H', storeCellsA H i (o + len * es) new = some H' ∧ K a (len + n) H') ∨
      (c.length < o + (len + n) * es ∧ ∃ old, takeAt c o (len * es) = some old ∧ (len + n) * bytes ≤ 140737488355328 ∧
        K (some ⟨H.next, 0, none⟩) (len + n) ((H.set i .dead).new (.cells true es (old ++ new))))))))
def apdF (H : Heap) (bytes es : Nat) (a : Option Addr) (len n : Nat) (new : List Value) (K : Option Addr → Nat → Heap → Prop) : Prop :=
  (n = 0 ∧ K a len H) ∨ (0 < n ∧ (
    (a = none ∧ len = 0 ∧ n * bytes ≤ 140737488355328 ∧ K (some ⟨H.next, 0, none⟩) n (H.new (.cells true es new))) ∨
    (∃ i o c, a = some ⟨i, o, none⟩ ∧ H.get i = some (.cells true es c) ∧ (
      (o + (len + n) * es ≤ c.length ∧ ∃ H', storeCellsA H i (o + len * es) new = some H' ∧ K a (len + n) H') ∨
      (c.length < o + (len + n) * es ∧ ∃ old, takeAt c o (len * es) = some old ∧ (len + n) * bytes ≤ 140737488355328 ∧
        ((len ≠ 256 ∧ K (some ⟨H.next, 0, none⟩) (len + n) ((H.set i .dead).new (.cells true es (old ++ new)))) ∨
         (len = 256 ∧ K (some ⟨H.next, 0, none⟩) (len + n) ((H.set i (.cells false es (c.take (o + len * es)))).new (.cells false es (old ++ new))))))))))
def wpAppend (E : Env) (H : Heap) (argTypes : Array TypeId) (args : List Value) (K : Value → Heap → Prop) : Prop :=
  match argTypes.toList with
  | [st, xt] => bif Nat.beq xt st then match und E st with
    | some (.slice e) => match sizeA E e, zeroCellsA E e, E.ty e with
      | some es, some _, some i => bif Nat.beq es 0 || Nat.beq i.bytes 0 then False else match args with
        | [x, y] => asSlice x fun a len => asSlice y fun b n => ∃ new, rowOf H es b n = some new ∧ bif E.frz st then (apdF H i.bytes es a len n new fun a l H' => K (.slice a l 0) H') else (apd H i.bytes es a len n new fun a l H' => K (.slice a l 0) H')
        | _ => False
      | _, _, _ => False
    | _ => False
    else False
  | _ => False
def wpCopy (E : Env) (H : Heap) (argTypes : Array TypeId) (args : List Value) (K : Value → Heap → Prop) : Prop :=
  ∃ v H', copyA E H argTypes args = some (v, H') ∧ exOne (.int .i64 0) fun u => v = u ∧ K u H'
def wpBuiltin (E : Env) (H : Heap) (b : Builtin) (argTypes : Array TypeId) (args : List Value) (K : Value → Heap → Prop) : Prop :=
  match b with
  | .append => wpAppend E H argTypes args K
  | .copy => wpCopy E H argTypes args K
  | .len => match argTypes.toList, args with
    | t :: _, x :: _ => wpLen E H t x fun v => K v H
    | _, _ => False
  | .delete => match argTypes.toList, args with
    | t :: _, [m, k] => wpDelete E H t m k fun H' => K undef H'
    | _, _ => False
  | .clear => match argTypes.toList, args with
    | t :: _, [x] => asSome (clearA E H t x) fun H' => K undef H'
    | _, _ => False
  | .max => asSome (maxA args) fun v => K v H
  | .min => asSome (minA args) fun v => K v H
  | _ => False
def clM (H : Heap) (m : Option Nat) (K : Nat → Heap → Prop) : Prop :=
  ∃ i es clock, m = some i ∧ H.get i = some (.map es clock) ∧ nwH H (.map es clock) K
def wpCallF (E : Env) (t : TypeId) (f : FuncId) (args : List Value) (H : Heap) (K : Value → Heap → Prop) : Prop :=
  match E.fn f with
  | some _ => CA E f args H fun v H' => exLike (zeroOf E t) fun u => v = u ∧ K u H'
  | none => bif E.clone f then match args with
      | [.iface t v] => asMap v fun m => clM H m fun i H' => K (.iface t (.map (some i))) H'
      | _ => False
    else False
def wpCall (E : Env) (e : Operand → Value) (t : TypeId) (c : Call) (H : Heap) (K : Value → Heap → Prop) : Prop :=
  match c.callee with
  | .value (.func f) => wpCallF E t f (c.args.toList.map e) H K
  | .value f => asFn (e f) fun f fs cs => (∃ fn, E.fn f = some fn) ∧ CA E f (fs ++ c.args.toList.map e ++ cs) H fun v H' => exLike (zeroOf E t) fun u => v = u ∧ K u H'
  | .builtin b => wpBuiltin E H b c.argTypes (c.args.toList.map e) K
  | .invoke _ _ => False
def wpMakeSlice (E : Env) (H : Heap) (t : Nat) (len cap : Value) (K : Value → Heap → Prop) : Prop :=
  match und E t with
  | some (.slice e) => match zeroCellsA E e, E.ty e with
    | some z, some i => asNum len fun l => asNum cap fun c =>
      okLen i.bytes l c ∧ bif Nat.ble 1 i.bytes && Nat.ble 1 z.length then nwH H (.cells true z.length (reps c.toNat z)) fun i H' => K (.slice (some ⟨i, 0, none⟩) l.toNat 0) H' else False
    | _, _ => False
  | _ => False
def cellsBuilt (E : Env) (t len : Nat) (parts : Array (Nat × Value)) : Option (Nat × List Value) :=
  match und E t with
  | some (.slice e) => (zeroCellsA E e).bind fun z =>
    bif partsOk parts && Nat.ble (len * z.length) 16777216 && Nat.ble 1 z.length then
      (Instr.fill (fun i => some (i * z.length, z.length)) ⟨reps len z⟩ parts.toList).bind fun cs =>
        bif cs.toList.all one then some (z.length, cs.toList) else none
    else none
  | _ => none
def wpOp (E : Env) (e : Operand → Value) (o : Oper) (H : Heap) (K : Value → Heap → Prop) : Prop :=
  match o.op with
  | .move x => K (e x) H
  | .assign x => K (e x) H
  | .pick c a b => wpPick (e c) (e a) (e b) fun v => K v H
  | .alloc t => match (zeroV E t).bind cellsOf with
    | some vs => nwH H (.cells true 0 vs) fun i H' => K (.pointer (some ⟨i, 0, none⟩)) H'
    | none => False
  | .box _ x => asCells (e x) fun vs => nwH H (.cells true 0 vs) fun i H' => K (.pointer (some ⟨i, 0, none⟩)) H'
  | .build t parts => asSome (buildV E t ⟨parts.toList.map fun p => (p.1, e p.2)⟩) fun v => K v H
  | .buildSlice t len parts => asSome (cellsBuilt E t len ⟨parts.toList.map fun p => (p.1, e p.2)⟩) fun p => nwH H (.cells true p.1 p.2) fun i H' => K (.slice (some ⟨i, 0, none⟩) len 0) H'
  | .load t a => wpLoad E t (e a) H fun v => K v H
  | .store t a x => wpStore E t (e a) (e x) H fun H' => K undef H'
  | .nilCheck x => match und E o.type with
    | some (.func _ _ _) => asFn (e x) fun f fs cs => K (.func (.func f) ⟨fs⟩ ⟨cs⟩) H
    | _ => asAddr (e x) fun i o => K (.pointer (some ⟨i, o, none⟩)) H
  | .binOp op t x y _ => match y with
    | .const c => bif isNilLit c && plain c then wpNilCmp E op t c (e x) fun v => K v H else wpBin E H op t (e x) (e y) fun v => K v H
    | _ => wpBin E H op t (e x) (e y) fun v => K v H
  | .unOp op _ x => asSome (unA op (e x)) fun v => K v H
  | .convert src dst x => asSome (convertA E src dst (e x)) fun v => K v H
  | .makeInterface t x => match und E t with
    | some (.interface _) => False
    | some _ => K (.iface t (e x)) H
    | none => False
  | .makeFunc (.func f) first captured => K (.func (.func f) ⟨first.toList.map e⟩ ⟨captured.toList.map e⟩) H
  | .makeMap _ none => nwH H (.map [] 0) fun i H' => K (.map (some i)) H'
  | .makeMap t (some r) => match und E t with
    | some (.map _ _) => asNum (e r) fun _ => nwH H (.map [] 0) fun i H' => K (.map (some i)) H'
    | _ => False
  | .makeSlice t l c => wpMakeSlice E H t (e l) (e c) K
  | .slice t x lo hi mx => wpSlice E H t (e x) (lo.map e) (hi.map e) (mx.map e) fun v => K v H
  | .fieldAddr s x f => wpFieldAddr E s (e x) f fun v => K v H
  | .field t x f => match und E t, e x with
    | some (.struct fields), .agg cs => match fields[f]? with
      | some fd => asSome (partA E fd.type cs fd.offset) fun v => K v H
      | none => False
    | _, _ => False
  | .indexAddr t x ix => wpIndexAddr E t (e x) (e ix) fun v => K v H
  | .index t x ix => match und E t with
    | some (.array len el) => match e x, sizeA E el with
      | .agg cs, some s => asNum (e ix) fun n => inB n len ∧ asSome (partA E el cs (n.toNat * s)) fun v => K v H
      | _, _ => False
    | some .string => match e x with
      | .string s => asNum (e ix) fun n => asSome (byteA s n) fun v => exOne (.int .u8 0) fun u => v = u ∧ K u H
      | _ => False
    | _ => False
  | .lookup t x k ok => wpLookup E H t (e x) (e k) ok fun v => K v H
  | .mapUpdate t m k x => wpMapUpdate E H t (e m) (e k) (e x) fun H' => K undef H'
  | .insert t m k x => wpMapUpdate E H t (e m) (e k) (e x) fun H' => K undef H'
  | .typeAssert x _ asserted false => match und E asserted with
    | some (.interface _) => False
    | some _ => match e x with
      | .iface t v => bif Nat.beq t asserted then K v H else False
      | _ => False
    | none => False
  | .extract t ix => match e t with
    | .tuple vs => match vs[ix]? with
      | some v => K v H
      | none => False
    | _ => False
  | .call c => wpCall E e o.type c H K
  | _ => False
def wpWant (ops : Array Oper) (xs : Fr) (o : Oper) (yes no : Fr → Prop) : Prop :=
  match o.guard with
  | none => yes xs
  | some (j, want) => match (ops[j]?).bind (·.dst) with
    | none => no xs
    | some d => match xs[d]? with
      | some (.bool b) => bif want then cond b (yes (xs.set d (.bool true))) (no (xs.set d (.bool false))) else cond b (no (xs.set d (.bool true))) (yes (xs.set d (.bool false)))
      | some (.tuple ⟨[]⟩) => no xs
      | none => no xs
      | _ => False
def wpOps (E : Env) (ops : Array Oper) : List Oper → Fr → Heap → (Fr → Heap → Prop) → Prop
  | [], xs, H, Q => Q xs H
  | o :: l, xs, H, Q => wpWant ops xs o
      (fun xs => wpOp E (evL E xs) o H fun v H' => wpOps E ops l (putL xs o.dst v) H' Q)
      (fun xs => wpOps E ops l (putL xs o.dst undef) H Q)
def wpOpD (b : Bool) (E : Env) (base i : Nat) (e : Operand → Value) (o : Oper) (H : Heap) (K : Value → Heap → Prop) : Prop :=
  match o.op with
  | .alloc _ => K (.pointer (some ⟨base + i, 0, none⟩)) H
  | _ => bif isBirth b o.op then wpOp E e o heap1 fun v H' => asSome (H'.get 0) fun _ => K (atBlk (base + i) v) H else wpOp E e o H K
def wpPass (b : Bool) (E : Env) (ops : Array Oper) (base : Nat) : List Oper → Nat → Fr → Heap → Nat → List DR → List Heap → (List DR → Fr → List Heap → Heap → Prop) → Prop
  | [], _, xs, H, _, rs, hs, F => F rs xs hs H
  | o :: l, i, xs, H, k, rs, hs, F => wpWant ops xs o
      (fun xs => wpOpD b E base i (evL E xs) o H fun v H' =>
        bif isLoudD b o.op then wpPass b E ops base l (i + 1) (putL xs o.dst v) H' (k + 1) (⟨i, o, true, ofL xs, v, k⟩ :: rs) (hs ++ [H']) F
        else wpPass b E ops base l (i + 1) (putL xs o.dst v) H k (⟨i, o, true, ofL xs, v, k⟩ :: rs) hs F)
      (fun xs => wpPass b E ops base l (i + 1) (putL xs o.dst undef) H k (⟨i, o, false, ofL xs, undef, k⟩ :: rs) hs F)
def wpPass0 (E : Env) (ops : Array Oper) (base : Nat) : List Oper → Nat → Fr → Heap → List Obj → (List Obj → Prop) → Prop
  | [], _, _, _, os, F => F os.reverse
  | o :: l, i, xs, H, os, F => wpWant ops xs o
      (fun xs => bif isBirth true o.op then wpOp E (evL E xs) o heap1 fun v H' => asSome (H'.get 0) fun ob => wpPass0 E ops base l (i + 1) (putL xs o.dst (atBlk (base + i) v)) (H.set (base + i) ob) (bif isBirth false o.op then os else ob :: os) F
        else wpOp E (evL E xs) o H fun v H' => wpPass0 E ops base l (i + 1) (putL xs o.dst v) H' os F)
      (fun xs => wpPass0 E ops base l (i + 1) (putL xs o.dst undef) H (bif isBirth true o.op && !isBirth false o.op then .dead :: os else os) F)
def sameP (v w : Value) : Prop :=
  match v, w with
  | .int k a, .int j b => cond (decide (k = j)) (a = b) False
  | .bool a, .bool b => a = b
  | .pointer a, .pointer b => a = b
  | .slice a l c, .slice b m d => a = b ∧ l = m ∧ c = d
  | .map a, .map b => a = b
  | v, w => sameN 8 v w = true
def looksP (b : Bool) (E : Env) (base : Nat) (r : DR) (H : Heap) : Prop :=
  match r.o.op with
  | .alloc ty => match (zeroV E ty).bind cellsOf with
    | some vs => ∃ c, H.get (base + r.i) = some (.cells true 0 c) ∧ sameN.sameL 8 vs c = true
    | none => False
  | _ => bif isBirth b r.o.op then wpOp E (ev E r.T) r.o heap1 fun _ H' => asSome (H'.get 0) fun ob => ∃ o, H.get (base + r.i) = some o ∧ sameObj ob o = true
    else wpOp E (ev E r.T) r.o H fun v _ => sameP r.v v
def checkP (b : Bool) (E : Env) (base : Nat) (r : DR) (hs : List Heap) : Nat → Nat → Prop
  | _, 0 => True
  | k, n + 1 => (match hs[k]? with
    | some H => looksP b E base r H
    | none => False) ∧ checkP b E base r hs (k + 1) n
def quietP (b : Bool) (E : Env) (base : Nat) (ss : List Bool) (ms : List Nat) (all : List DR) (hs : List Heap) (m : Nat) : List DR → Prop
  | [] => True
  | r :: l => bif (!r.w || isLoudD b r.o.op || isPure r.o.op || (ss.getD r.i false && !isBirth b r.o.op)) then quietP b E base ss ms all hs m l
    else (let lo := countLoud b (fun q => (ms.getD r.i 0).testBit q.i) all
          let hi := m - countLoud b (fun q => (ms.getD q.i 0).testBit r.i) all
          checkP b E base r hs lo (hi + 1 - lo)) ∧ quietP b E base ss ms all hs m l
def preH (b : Bool) (E : Env) (base : Nat) : List Oper → Nat → List Obj → Heap → Option Heap
  | [], _, _, H => some H
  | o :: l, i, os, H => match o.op with
    | .alloc ty => match (zeroV E ty).bind cellsOf with
      | some vs => preH b E base l (i + 1) os (H.set (base + i) (.cells true 0 vs))
      | none => none
    | op => bif isBirth b op then (match os with
      | ob :: os => preH b E base l (i + 1) os (H.set (base + i) ob)
      | [] => none) else preH b E base l (i + 1) os H
def wpDrawB (b : Bool) (E : Env) (ops : Array Oper) (os : List Obj) (xs : Fr) (H : Heap) (Q : Fr → Heap → Prop) : Prop :=
  match preH b E H.next ops.toList 0 os (H.bump ops.size) with
  | none => False
  | some H0 => wpPass b E ops H.next ops.toList 0 xs H0 0 [] [H0] fun rs xs' hs H' =>
      Q xs' H' ∧ quietP b E H.next (stricts b ops (masksFrom ops.toList [])) (masksFrom ops.toList []) rs hs (hs.length - 1) rs
def wpDraw (E : Env) (ops : Array Oper) (xs : Fr) (H : Heap) (Q : Fr → Heap → Prop) : Prop :=
  bif staticOk false ops then wpDrawB false E ops [] xs H Q
  else bif staticOk true ops then wpPass0 E ops H.next ops.toList 0 xs (H.bump ops.size) [] fun os => wpDrawB true E ops os xs H Q
  else False
def writesOps (l : List Oper) (ds : List Nat) : List Nat :=
  match l with
  | [] => ds
  | o :: l => match o.dst with
    | some d => writesOps l (bif ds.any (Nat.beq d) then ds else ds ++ [d])
    | none => writesOps l ds
def writesIn : Code → List Nat → List Nat
  | .region _ ops _, ds => writesOps ops.toList ds
  | .seq a b, ds => writesIn b (writesIn a ds)
  | .cond _ a b, ds => writesIn b (writesIn a ds)
  | .block _ b, ds => writesIn b ds
  | .loop b, ds => writesIn b ds
  | .scope b, ds => writesIn b ds
  | _, ds => ds
def writes (c : Code) : List Nat := writesIn c []
def exitsIn : Code → List X → List X
  | .seq a b, es => exitsIn b (exitsIn a es)
  | .cond _ a b, es => exitsIn b (exitsIn a es)
  | .block id b, es => es ++ (exitsIn b []).filter fun x => match x with
    | .exit j => !(Nat.beq j id)
    | _ => true
  | .loop b, es => exitsIn b es
  | .scope b, es => exitsIn b es
  | .exit id, es => bif es.any (fun x => match x with | .exit j => Nat.beq j id | _ => false) then es else es ++ [.exit id]
  | .ret, es => bif es.any (fun x => match x with | .ret => true | _ => false) then es else es ++ [.ret]
  | _, es => es
def asSl (v : Value) (K : Option Addr → Nat → Prop) : Prop :=
  match v with
  | .slice a l c => cond (Nat.beq c 0) (K a l) False
  | _ => False
def asPtr (v : Value) (K : Option Addr → Prop) : Prop :=
  match v with
  | .pointer p => K p
  | _ => False
def asLike0 (z v : Value) (K : Value → Prop) : Prop :=
  match z with
  | .int k _ => asInt k v fun n => K (.int k n)
  | .bool _ => asBool v fun b => K (.bool b)
  | .slice _ _ _ => asSl v fun a l => K (.slice a l 0)
  | .pointer _ => asPtr v fun p => K (.pointer p)
  | .map _ => asMap v fun m => K (.map m)
  | _ => K v
def asLikes : List Value → List Value → (List Value → Prop) → Prop
  | [], [], K => K []
  | z :: zs, v :: vs, K => asLike0 z v fun u => asLikes zs vs fun l => K (u :: l)
  | _, _, _ => False
def asAgg (v : Value) (K : List Value → Prop) : Prop :=
  match v with
  | .agg cs => K cs.toList
  | _ => False
def asLike (z v : Value) (K : Value → Prop) : Prop :=
  match z with
  | .agg cs => asAgg v fun l => asLikes cs.toList l fun l => K (.agg ⟨l⟩)
  | z => asLike0 z v K
def LA (E : Env) (b : Code) (xs : Fr) (H : Heap) (Ks : List (X × (Fr → Heap → Prop))) : Prop :=
  WA E (.loop b) (ofL xs) H fun x T H' => ∃ xs', T = ofL xs' ∧ xs'.length = xs.length ∧ (∀ k, k ∉ writes b → xs'[k]? = xs[k]?) ∧ ∃ p ∈ Ks, p.1 = x ∧ p.2 xs' H'
abbrev Sorts := List (Nat × Value)
def sortOf : Sorts → Nat → Value
  | [], _ => undef
  | (k, v) :: l, w => bif Nat.beq k w then v else sortOf l w
def outOf (Z : Sorts) : List Nat → Fr → (Fr → Prop) → Fr → Prop
  | [], acc, K, _ => K acc
  | w :: ws, acc, K, xs => asLike (sortOf Z w) (xs.getD w undef) fun v => outOf Z ws (acc.set w v) K xs
def loopsN : Code → Nat
  | .seq a b => loopsN a + loopsN b
  | .cond _ a b => loopsN a + loopsN b
  | .block _ b => loopsN b
  | .loop b => loopsN b + 1
  | .scope b => loopsN b
  | _ => 0
def wpCode (E : Env) : Code → List Sorts → Fr → Heap → (X → Fr → Heap → Prop) → Prop
  | .skip, _, xs, H, Q => Q .normal xs H
  | .label _, _, xs, H, Q => Q .normal xs H
  | .region _ ops d, _, xs, H, Q => bif d then wpDraw E ops xs H (Q .normal) else wpOps E ops ops.toList xs H (Q .normal)
  | .seq a b, Z, xs, H, Q => wpCode E a Z xs H fun x xs H => match x with
    | .normal => wpCode E b (Z.drop (loopsN a)) xs H Q
    | .exit id => Q (.exit id) xs H
    | .ret => Q .ret xs H
  | .cond c a b, Z, xs, H, Q => match c with
    | .tmp t => asBool (xs.getD t undef) fun v => cond v (wpCode E a Z (xs.set t (.bool true)) H Q) (wpCode E b (Z.drop (loopsN a)) (xs.set t (.bool false)) H Q)
    | c => asBool (evL E xs c) fun v => cond v (wpCode E a Z xs H Q) (wpCode E b (Z.drop (loopsN a)) xs H Q)
  | .block id b, Z, xs, H, Q => wpCode E b Z xs H fun x xs H => match x with
    | .normal => Q .normal xs H
    | .exit j => bif Nat.beq j id then Q .normal xs H else Q (.exit j) xs H
    | .ret => Q .ret xs H
  | .loop b, Z, xs, H, Q => LA E b xs H ((exitsIn b []).map fun x => (x, fun xs' H' => outOf (Z.headD []) (writes b) xs (fun xs'' => Q x xs'' H') xs'))
  | .exit id, _, xs, H, Q => Q (.exit id) xs H
  | .ret, _, xs, H, Q => Q .ret xs H
  | .scope b, Z, xs, H, Q => wpCode E b Z xs H Q
  | _, _, _, _, _ => False
def loopsIn : Code → List Code
  | .seq a b => loopsIn a ++ loopsIn b
  | .cond _ a b => loopsIn a ++ loopsIn b
  | .block _ b => loopsIn b
  | .loop b => b :: loopsIn b
  | .scope b => loopsIn b
  | _ => []
def loopAt (f : Func) (k : Nat) : Code :=
  match f.body with
  | some c => (loopsIn c).getD k .skip
  | none => .skip
def resOfL (E : Env) (xs : Fr) (H : Heap) : List ResultVar → (List Value → Prop) → Prop
  | [], K => K []
  | .tmp t :: l, K => resOfL E xs H l fun vs => K (xs.getD t undef :: vs)
  | .cell a t :: l, K => wpLoad E t (xs.getD a undef) H fun v => resOfL E xs H l fun vs => K (v :: vs)
def backL (E : Env) (fn : Func) (R : Value → Heap → Prop) (x : X) (xs : Fr) (H : Heap) : Prop :=
  match x with
  | .normal => resOfL E xs H fn.results.toList fun vs => R (resultOf vs) H
  | .ret => resOfL E xs H fn.results.toList fun vs => R (resultOf vs) H
  | .exit _ => False
def fr0 (n : Nat) (args : List Value) : Fr := args ++ List.replicate (n - args.length) undef
def wpFn (E : Env) (Z : List Sorts) (fn : Func) (args : List Value) (H : Heap) (R : Value → Heap → Prop) : Prop :=
  match fn.body with
  | some c => bif Nat.ble args.length fn.ntmps then wpCode E c Z (fr0 fn.ntmps args) H (backL E fn R) else False
  | none => False
end
end Go.AS
namespace Go.AS
open Go.RowKit
set_option linter.unusedVariables false
theorem ofL_get (xs : Fr) (k : Nat) : (ofL xs).get k = xs[k]? := by
  unfold ofL
  rw [updsFrom_get, Tr.get_fill _ _ _ _ (Nat.le_refl _)]
  by_cases h : k < xs.length
  · rw [if_pos (by omega), if_pos h]
    simp [h]
  · rw [if_neg (by omega), if_neg h]
    simp [Nat.le_of_not_lt h]
section trees
variable {α : Type}
theorem Tr.upd_upd (v w : α) : ∀ (t : Tr α) (n : Nat), (t.upd n v).upd n w = t.upd n w
  | .nil, n => rfl
  | .node o l r, 0 => by cases o <;> rfl
  | .node o l r, n + 1 => by
    simp only [Tr.upd_succ]
    cases hb : Nat.beq (Nat.mod n 2) 0 <;> simp only [cond_true, cond_false, Tr.upd_succ, hb, Tr.upd_upd v w]
theorem Tr.upd_comm (v w : α) : ∀ (t : Tr α) (n m : Nat), n ≠ m → (t.upd n v).upd m w = (t.upd m w).upd n v
  | .nil, n, m, _ => rfl
  | .node o l r, 0, 0, h => absurd rfl h
  | .node o l r, 0, m + 1, h => by
    simp only [Tr.upd_succ, Tr.upd_zero]
    cases hb : Nat.beq (Nat.mod m 2) 0 <;> simp only [cond_true, cond_false, Tr.upd_succ, Tr.upd_zero, hb]
  | .node o l r, n + 1, 0, h => by
    simp only [Tr.upd_succ, Tr.upd_zero]
    cases hb : Nat.beq (Nat.mod n 2) 0 <;> simp only [cond_true, cond_false, Tr.upd_succ, Tr.upd_zero, hb]
  | .node o l r, n + 1, m + 1, h => by
    simp only [Tr.upd_succ]
    have key : ∀ b, Nat.beq (Nat.mod n 2) 0 = b → Nat.beq (Nat.mod m 2) 0 = b → Nat.div n 2 ≠ Nat.div m 2 := by
      intro b h1 h2
      cases b with
      | true => have e1 := even_of h1; have e2 := even_of h2; simp only [div_def]; omega
      | false => have e1 := odd_of h1; have e2 := odd_of h2; simp only [div_def]; omega
    cases hb : Nat.beq (Nat.mod n 2) 0 <;> cases hc : Nat.beq (Nat.mod m 2) 0 <;> simp only [cond_true, cond_false, Tr.upd_succ, hb, hc]
    · rw [Tr.upd_comm v w r _ _ (key _ hb hc)]
    · rw [Tr.upd_comm v w l _ _ (key _ hb hc)]
theorem updsFrom_upd (v : α) : ∀ (xs : List α) (n : Nat) (t : Tr α) (k : Nat), k < xs.length → (Tr.updsFrom xs n t).upd (n + k) v = Tr.updsFrom (xs.set k v) n t
  | [], n, t, k, h => by simp at h
  | x :: xs, n, t, k, h => by
    have out : ∀ (l : List α) (m : Nat) (s : Tr α), n < m → (Tr.updsFrom l m s).upd n v = Tr.updsFrom l m (s.upd n v) := by
      intro l
      induction l with
      | nil => intro m s _; rfl
      | cons y l ih =>
        intro m s hm
        simp only [Tr.updsFrom_cons]
        rw [ih (m + 1) _ (by omega), Tr.upd_comm y v _ _ _ (show m ≠ n by omega)]
    cases k with
    | zero =>
      simp only [Nat.add_zero, List.set_cons_zero, Tr.updsFrom_cons]
      rw [out xs (n + 1) _ (by omega), Tr.upd_upd]
    | succ k =>
      simp only [List.set_cons_succ, Tr.updsFrom_cons]
      have := updsFrom_upd v xs (n + 1) (t.upd n x) k (by simpa using h)
      rw [show n + (k + 1) = n + 1 + k from by omega]
      exact this
theorem Tr.upd_out (v : α) (t : Tr α) (n : Nat) (h : t.get n = none) : t.upd n v = t := by
  induction t generalizing n with
  | nil => rfl
  | node o l r il ir =>
    cases n with
    | zero =>
      have : o = none := h
      subst this; rfl
    | succ n =>
      simp only [Tr.get_succ] at h
      simp only [Tr.upd_succ]
      cases hb : Nat.beq (Nat.mod n 2) 0 <;> rw [hb] at h <;> simp only [cond_true, cond_false] at h ⊢
      · rw [ir _ h]
      · rw [il _ h]
end trees
theorem ofL_set (xs : Fr) (d : Nat) (v : Value) : (ofL xs).upd d v = ofL (xs.set d v) := by
  by_cases h : d < xs.length
  · unfold ofL
    rw [List.length_set]
    have := updsFrom_upd v xs 0 (Tr.fill undef xs.length xs.length) d h
    rwa [Nat.zero_add] at this
  · rw [List.set_eq_of_length_le (Nat.le_of_not_lt h)]
    refine Tr.upd_out _ _ _ ?_
    rw [ofL_get]; simp [Nat.le_of_not_lt h]
theorem putT_ofL (xs : Fr) (d : Option Tmp) (v : Value) : putT (ofL xs) d v = ofL (putL xs d v) := by
  cases d with
  | none => rfl
  | some d => exact ofL_set xs d v
theorem ev_ofL (E : Env) (xs : Fr) : ev E (ofL xs) = evL E xs := by
  funext x
  cases x with
  | tmp t =>
    show ((ofL xs).get t).getD undef = xs.getD t undef
    rw [ofL_get, List.getD_eq_getElem?_getD]
  | const v => rfl
  | global g => rfl
  | func f => rfl
theorem initT_ofL {fn : Func} {args : List Value} (h : args.length ≤ fn.ntmps) : initT fn args = some (ofL (fr0 fn.ntmps args)) := by
  unfold initT
  rw [Nat.ble_eq_true_of_le h]
  simp only [cond_true, Option.some.injEq]
  unfold ofL fr0
  have hl : (args ++ List.replicate (fn.ntmps - args.length) undef).length = fn.ntmps := by simp; omega
  rw [hl]
  have app : ∀ (l m : List Value) (n : Nat) (t : Tr Value), Tr.updsFrom (l ++ m) n t = Tr.updsFrom m (n + l.length) (Tr.updsFrom l n t) := by
    intro l
    induction l with
    | nil => intro m n t; rfl
    | cons x l ih =>
      intro m n t
      simp only [List.cons_append, Tr.updsFrom_cons, ih, List.length_cons]
      rw [show n + 1 + l.length = n + (l.length + 1) from by omega]
  rw [app]
  have same : ∀ (k n : Nat) (t : Tr Value), (∀ j, n ≤ j → j < n + k → t.get j = some undef) → Tr.updsFrom (List.replicate k undef) n t = t := by
    intro k
    induction k with
    | zero => intro n t _; rfl
    | succ k ih =>
      intro n t ht
      simp only [List.replicate_succ, Tr.updsFrom_cons]
      have e : t.upd n undef = t := by
        have := ht n (Nat.le_refl _) (by omega)
        clear ht ih
        induction t generalizing n with
        | nil => rfl
        | node o l r il ir =>
          cases n with
          | zero =>
            have h0 : o = some undef := this
            subst h0; rfl
          | succ n =>
            simp only [Tr.get_succ] at this
            simp only [Tr.upd_succ]
            cases hb : Nat.beq (Nat.mod n 2) 0 <;> rw [hb] at this <;> simp only [cond_true, cond_false] at this ⊢
            · rw [ir _ this]
            · rw [il _ this]
      rw [e]
      exact ih (n + 1) t fun j h1 h2 => ht j (by omega) (by omega)
  rw [same]
  intro j h1 h2
  rw [updsFrom_get, if_neg (by omega), Tr.get_fill _ _ _ _ (Nat.le_refl _), if_pos (by omega)]
section
variable {E : Env}
theorem asBool_elim {v : Value} {K : Bool → Prop} (h : asBool v K) : ∃ b, v = .bool b ∧ K b := by
  unfold asBool at h
  split at h
  · exact ⟨_, rfl, h⟩
  · exact h.elim
theorem asInt_elim {k : IntKind} {v : Value} {K : Int → Prop} (h : asInt k v K) : ∃ n, v = .int k n ∧ K n := by
  unfold asInt at h
  split at h
  · rename_i j n
    by_cases e : j = k
    · subst e; simp only [decide_true, cond_true] at h; exact ⟨_, rfl, h⟩
    · simp only [e, decide_false, cond_false] at h
  · exact h.elim
theorem asNum_elim {v : Value} {K : Int → Prop} (h : asNum v K) : ∃ k n, v = .int k n ∧ K n := by
  unfold asNum at h
  split at h
  · exact ⟨_, _, rfl, h⟩
  · exact h.elim
theorem asAddr_elim {v : Value} {K : Nat → Nat → Prop} (h : asAddr v K) : ∃ i o, v = .pointer (some ⟨i, o, none⟩) ∧ K i o := by
  unfold asAddr at h
  split at h
  · exact ⟨_, _, rfl, h⟩
  · exact h.elim
theorem asRow_elim {a : Option Addr} {K : Nat → Nat → Prop} (h : asRow a K) : ∃ i o, a = some ⟨i, o, none⟩ ∧ K i o := by
  unfold asRow at h
  split at h
  · exact ⟨_, _, rfl, h⟩
  · exact h.elim
theorem asSlice_elim {v : Value} {K : Option Addr → Nat → Prop} (h : asSlice v K) : ∃ a l c, v = .slice a l c ∧ K a l := by
  unfold asSlice at h
  split at h
  · exact ⟨_, _, _, rfl, h⟩
  · exact h.elim
theorem asMap_elim {v : Value} {K : Option Nat → Prop} (h : asMap v K) : ∃ m, v = .map m ∧ K m := by
  unfold asMap at h
  split at h
  · exact ⟨_, rfl, h⟩
  · exact h.elim
theorem asFn_elim {v : Value} {K : FuncId → List Value → List Value → Prop} (h : asFn v K) : ∃ f fs cs, v = .func (.func f) fs cs ∧ K f fs.toList cs.toList := by
  unfold asFn at h
  split at h
  · exact ⟨_, _, _, rfl, h⟩
  · exact h.elim
theorem asCells_elim {v : Value} {K : List Value → Prop} (h : asCells v K) : ∃ l, cellsOf v = some l ∧ K l := by
  unfold asCells at h
  split at h
  · exact ⟨_, ‹_›, h⟩
  · exact h.elim
theorem asSome_elim {α : Type} {o : Option α} {K : α → Prop} (h : asSome o K) : ∃ x, o = some x ∧ K x := by
  unfold asSome at h
  split at h
  · exact ⟨_, rfl, h⟩
  · exact h.elim
def ResK (E : Env) (H : Heap) (K : Value → Heap → Prop) : Option Res → Prop
  | some (.val v H') => K v H'
  | some (.call f args) => CA E f args H K
  | none => False
theorem resK_rv {H : Heap} {K : Value → Heap → Prop} {o : Option Value} (h : ∃ v, o = some v ∧ K v H) : ResK E H K (rv H o) := by
  obtain ⟨v, rfl, h⟩ := h
  exact h
theorem resK_rh {H : Heap} {K : Value → Heap → Prop} {o : Option Heap} (h : ∃ H', o = some H' ∧ K undef H') : ResK E H K (rh o) := by
  obtain ⟨v, rfl, h⟩ := h
  exact h
theorem resK_rvh {H : Heap} {K : Value → Heap → Prop} {o : Option (Value × Heap)} (h : ∃ v H', o = some (v, H') ∧ K v H') : ResK E H K (rvh o) := by
  obtain ⟨v, H', rfl, h⟩ := h
  exact h
theorem wpLoad_ok {t : Nat} {a : Value} {H : Heap} {K : Value → Prop} (h : wpLoad E t a H K) : ∃ v, loadV E H t a = some v ∧ K v := by
  replace h := asAddr_elim h
  obtain ⟨i, o, rfl, h⟩ := h
  simp only [loadV]
  split at h
  · rename_i hagg
    obtain ⟨v, h1, h2⟩ := exOne_some h
    refine ⟨v, ?_, h2⟩
    unfold Heap.cell at h1
    split at h1
    · rename_i w z c hg
      rw [hg]
      simp only [hagg]
      exact h1
    · cases h1
  · rename_i hagg
    split at h
    · rename_i n hn
      cases hb : Nat.beq n 0 with
      | true => rw [hb] at h; exact h.elim
      | false =>
        rw [hb] at h
        obtain ⟨l, h1, h2⟩ := exCells_some h
        refine ⟨_, ?_, h2⟩
        unfold Heap.cellsAt at h1
        split at h1
        · rename_i w z c hg
          rw [hg]
          simp only [hagg, hn, Option.bind_some]
          rw [if_neg (Nat.ne_of_beq_eq_false hb), h1]
          rfl
        · cases h1
    · exact h.elim
  · exact h.elim
theorem stc_ok {H : Heap} {i o : Nat} {vs : List Value} {K : Heap → Prop} (h : stc H i o vs K) : ∃ H', storeCellsA H i o vs = some H' ∧ K H' := by
  obtain ⟨z, c, h1, h2, h3⟩ := h
  refine ⟨_, ?_, h3⟩
  unfold storeCellsA
  rw [h1]
  simp only
  rw [if_pos h2]
theorem wpStore_ok {t : Nat} {a v : Value} {H : Heap} {K : Heap → Prop} (h : wpStore E t a v H K) : ∃ H', storeV E H t a v = some H' ∧ K H' := by
  replace h := asAddr_elim h
  obtain ⟨i, o, rfl, h⟩ := h
  obtain ⟨vs, hc, h⟩ := asCells_elim h
  split at h
  · rename_i n hn
    cases hb : Nat.beq vs.length n with
    | false => rw [hb] at h; exact h.elim
    | true =>
      rw [hb] at h
      obtain ⟨H', h1, h2⟩ := stc_ok h
      refine ⟨H', ?_, h2⟩
      simp only [storeV, hc, hn, Option.bind_some]
      rw [if_pos (Nat.eq_of_beq_eq_true hb)]
      exact h1
  · exact h.elim
theorem wpInt_ok {op : BinOp} {k : IntKind} {a b : Int} {K : Value → Prop} (h : wpInt op k a b K) : (isShift op = true → ∃ v, shiftA op k a b = some v ∧ K v) ∧ (isShift op = false → ∃ v, intBinA op k a b = some v ∧ K v) := by
  cases op <;> simp only [wpInt, isShift] at h ⊢ <;> refine ⟨fun hs => ?_, fun hs => ?_⟩ <;> first
    | (cases hs; done)
    | (obtain ⟨h1, h2⟩ := h
       refine ⟨_, ?_, h2⟩
       first
         | (simp only [intBinA]; rw [if_neg h1])
         | (simp only [shiftA]; rw [if_neg (by unfold nn at h1; omega)]))
    | exact asSome_elim h
theorem wpEqS_ok {H : Heap} {d t : Nat} {x y : Value} {K : Bool → Prop} (h : wpEqS E t x y K) : ∃ b, eqA E H (d + 1) t x y = some b ∧ K b := by
  unfold wpEqS at h
  split at h
  · rename_i k hu
    split at h
    · rename_i k a j b
      by_cases e : k = j
      · subst e
        simp only [decide_true, cond_true] at h
        refine ⟨_, ?_, h⟩
        simp [eqA, hu]
      · simp only [e, decide_false, cond_false] at h
    · exact h.elim
  · rename_i hu
    split at h
    · refine ⟨_, ?_, h⟩
      simp [eqA, hu]
    · exact h.elim
  · exact h.elim
theorem wpEqF_ok {H : Heap} {d : Nat} {xs ys : Array Value} : ∀ {fs : List Field} {K : Bool → Prop}, wpEqF E xs ys fs K → ∃ b, eqFieldsA E (eqA E H (d + 1)) xs ys fs = some b ∧ K b
  | [], K, h => ⟨true, rfl, h⟩
  | f :: fs, K, h => by
    simp only [wpEqF] at h
    split at h
    · rename_i u hu
      split at h
      · rename_i v hv
        obtain ⟨b, h1, h2⟩ := wpEqS_ok (H := H) (d := d) h
        simp only [eqFieldsA, hu, hv, Option.bind_some, h1]
        split at h2
        · cases b with
          | true => exact ⟨true, rfl, h2⟩
          | false => exact ⟨false, rfl, h2⟩
        · obtain ⟨b', h3, h4⟩ := wpEqF_ok (H := H) (d := d) h2
          cases b with
          | true => exact ⟨b', h3, by simpa using h4⟩
          | false => exact ⟨false, rfl, by simpa using h4⟩
      · exact h.elim
    · exact h.elim
theorem wpBin_ok {H : Heap} {op : BinOp} {t : Nat} {x y : Value} {K : Value → Prop} (h : wpBin E H op t x y K) : ∃ v, binA E H op t x y = some v ∧ K v := by
  unfold wpBin at h
  split at h
  · rename_i k a
    split at h
    · rename_i j b
      cases hs : isShift op with
      | true =>
        rw [hs] at h
        obtain ⟨v, h1, h2⟩ := (wpInt_ok h).1 hs
        exact ⟨v, by simp only [binA, hs, cond_true]; exact h1, h2⟩
      | false =>
        rw [hs] at h
        simp only [cond_false] at h
        by_cases e : k = j
        · subst e
          simp only [decide_true, cond_true] at h
          obtain ⟨v, h1, h2⟩ := (wpInt_ok h).2 hs
          exact ⟨v, by simp only [binA, hs, cond_false, if_pos]; exact h1, h2⟩
        · simp only [e, decide_false, cond_false] at h
    · exact h.elim
  · rename_i a
    split at h
    · rename_i b
      split at h
      · rename_i hu
        split at h
        · exact ⟨_, by simp [binA, eqKind, eqA, hu], h⟩
        · exact ⟨_, by simp [binA, eqKind, eqA, hu], h⟩
        · exact h.elim
      · exact h.elim
    · exact h.elim
  · rename_i xs
    split at h
    · rename_i ys
      cases hq : E.eqOk t with
      | false => rw [hq] at h; exact h.elim
      | true =>
        rw [hq] at h
        simp only [cond_true] at h
        split at h
        · rename_i fields hu
          obtain ⟨b, h1, h2⟩ := wpEqF_ok (H := H) (d := 2) h
          have e : eqA E H 4 t (.agg xs) (.agg ys) = some b := by
            unfold eqA
            simp only [hu, hq, cond_true]
            exact h1
          split at h2
          · exact ⟨_, by simp only [binA, hq, cond_true, e, Option.map_some], h2⟩
          · exact ⟨_, by simp only [binA, hq, cond_true, e, Option.map_some], h2⟩
          · exact h2.elim
        · exact h.elim
    · exact h.elim
  · exact asSome_elim h
theorem wpNilCmp_ok {H : Heap} {op : BinOp} {t : Nat} {c v : Value} {K : Value → Prop} (h : wpNilCmp E op t c v K) : ∃ u, binA E H op t v c = some u ∧ K u := by
  unfold wpNilCmp nilFor at h
  split at h
  · rename_i hu
    split at h
    · rename_i p
      split at h <;> first
        | exact h.elim
        | (refine ⟨_, ?_, h⟩
           cases p with
           | none => simp [binA, eqKind, eqA, hu]
           | some a => simp [binA, eqKind, eqA, hu])
    · exact h.elim
  · rename_i hu
    split at h
    · rename_i p _ _
      split at h <;> first
        | exact h.elim
        | (refine ⟨_, ?_, h⟩
           cases p with
           | none => simp [binA, eqKind, eqA, hu]
           | some a => simp [binA, eqKind, eqA, hu])
    · exact h.elim
  · rename_i hu
    split at h
    · rename_i p
      split at h <;> first
        | exact h.elim
        | (refine ⟨_, ?_, h⟩
           cases p with
           | none => simp [binA, eqKind, eqA, hu]
           | some a => simp [binA, eqKind, eqA, hu])
    · exact h.elim
  · rename_i hu
    unfold asFnNil at h
    split at h
    · split at h <;> first
        | exact h.elim
        | exact ⟨_, by simp [binA, eqKind, eqA, hu], h⟩
    · split at h <;> first
        | exact h.elim
        | exact ⟨_, by simp [binA, eqKind, eqA, hu], h⟩
    · exact h.elim
  · exact h.elim
theorem bndHi_ok {len : Nat} {hi : Option Value} {K : Nat → Prop} (h : bndHi len hi K) : ∃ n, boundA 0 len len hi = some n ∧ K n := by
  unfold bndHi at h
  split at h
  · exact ⟨len, by simp [boundA], h⟩
  · replace h := asNum_elim h
    obtain ⟨k, n, rfl, h1, h2⟩ := h
    exact ⟨_, by simp only [boundA]; rw [if_pos (by simpa [inS] using h1)], h2⟩
theorem bndLo_ok {hh : Nat} {lo : Option Value} {K : Nat → Prop} (h : bndLo hh lo K) : ∃ n, boundA 0 0 hh lo = some n ∧ K n := by
  unfold bndLo at h
  split at h
  · exact ⟨0, by simp [boundA], h⟩
  · replace h := asNum_elim h
    obtain ⟨k, n, rfl, h1, h2⟩ := h
    exact ⟨_, by simp only [boundA]; rw [if_pos (by simpa [inS] using h1)], h2⟩
theorem wpSlice_ok {H : Heap} {t : Nat} {x : Value} {lo hi mx : Option Value} {K : Value → Prop} (h : wpSlice E H t x lo hi mx K) : ∃ v, sliceA E H t x lo hi mx = some v ∧ K v := by
  unfold wpSlice at h
  split at h
  · exact h.elim
  · split at h
    · rename_i e hu
      split at h
      · rename_i n hn
        replace h := asSlice_elim h
        obtain ⟨a, len, c, rfl, h⟩ := h
        obtain ⟨hh, h1, h⟩ := bndHi_ok h
        obtain ⟨l, h2, h⟩ := bndLo_ok h
        unfold slK at h
        simp only [sliceA, hu, hn, Option.bind_some, h1, h2]
        split at h
        · exact ⟨_, rfl, h⟩
        · obtain ⟨⟨w, z, c, h3, h4⟩, h5⟩ := h
          refine ⟨_, ?_, h5⟩
          simp only [h3]
          rw [if_pos h4]
        · exact h.elim
      · exact h.elim
    · rename_i n e hu
      split at h
      · rename_i hn
        replace h := asAddr_elim h
        obtain ⟨i, o, rfl, ⟨w, c, h3⟩, h5⟩ := h
        exact ⟨_, by simp only [sliceA, hu, h3, hn, Option.bind_some], h5⟩
      · exact h.elim
    · exact h.elim
theorem wpLookup_ok {H : Heap} {t : Nat} {x k : Value} {ok : Bool} {K : Value → Prop} (h : wpLookup E H t x k ok K) : ∃ v, lookupA E H t x k ok = some v ∧ K v := by
  unfold wpLookup at h
  split at h
  · rename_i kt e hu
    split at h
    · rename_i kd hk
      split at h
      · rename_i z hz
        replace h := asMap_elim h
        obtain ⟨m, rfl, r, hr, h⟩ := h
        obtain ⟨v, h1, h2⟩ := exPart_some h
        refine ⟨_, ?_, h2⟩
        unfold got at h1
        unfold mapGet entriesOf at hr
        simp only [lookupA, hu, hk, hz, Option.bind_some]
        cases m with
        | none =>
          simp only [Option.bind_some] at hr ⊢
          rw [hr]
          cases r with
          | none => simp only at h1; subst h1; cases ok <;> rfl
          | some p => obtain ⟨j, u⟩ := p; simp only at h1; subst h1; cases ok <;> rfl
        | some i =>
          simp only at hr ⊢
          split at hr
          · rename_i es ck hg
            simp only [hg, Option.bind_some] at hr ⊢
            rw [hr]
            cases r with
            | none => simp only at h1; subst h1; cases ok <;> rfl
            | some p => obtain ⟨j, u⟩ := p; simp only at h1; subst h1; cases ok <;> rfl
          · cases hr
      · exact h.elim
    · exact h.elim
  · exact h.elim
theorem wpMapUpdate_ok {H : Heap} {t : Nat} {m k v : Value} {K : Heap → Prop} (h : wpMapUpdate E H t m k v K) : ∃ H', mapUpdateA E H t m k v = some H' ∧ K H' := by
  unfold wpMapUpdate at h
  split at h
  · rename_i kt e hu
    split at h
    · rename_i kd hk
      replace h := asMap_elim h
      obtain ⟨m, rfl, i, es, ck, r, rfl, h1, h2, h3⟩ := h
      refine ⟨_, ?_, h3⟩
      simp only [mapUpdateA, hu, hk, Option.bind_some, h1, h2, Option.map_some, Option.some.injEq]
      cases r with
      | none => rfl
      | some p => rfl
    · exact h.elim
  · exact h.elim
theorem wpDelete_ok {H : Heap} {t : Nat} {m k : Value} {K : Heap → Prop} (h : wpDelete E H t m k K) : ∃ H', deleteA E H t m k = some H' ∧ K H' := by
  unfold wpDelete at h
  split at h
  · rename_i kt e hu
    split at h
    · rename_i kd hk
      replace h := asMap_elim h
      obtain ⟨m, rfl, i, es, ck, r, rfl, h1, h2, h3⟩ := h
      refine ⟨_, ?_, h3⟩
      simp only [deleteA, hu, hk, Option.bind_some, h1, h2, Option.map_some, Option.some.injEq]
      cases r with
      | none => rfl
      | some p => rfl
    · exact h.elim
  · exact h.elim
theorem wpLen_ok {H : Heap} {t : Nat} {x : Value} {K : Value → Prop} (h : wpLen E H t x K) : ∃ v, lenA E H t x = some v ∧ K v := by
  unfold wpLen at h
  split at h
  · rename_i e hu
    replace h := asSlice_elim h
    obtain ⟨a, n, c, rfl, h⟩ := h
    exact ⟨_, by simp only [lenA, hu]; rfl, h⟩
  · rename_i hu
    split at h
    · exact ⟨_, by simp only [lenA, hu]; rfl, h⟩
    · exact h.elim
  · rename_i n e hu
    exact ⟨_, by simp only [lenA, hu]; rfl, h⟩
  · rename_i kt e hu
    replace h := asMap_elim h
    obtain ⟨m, rfl, es, h1, h2⟩ := h
    unfold entriesOf at h1
    cases m with
    | none =>
      simp only [Option.some.injEq] at h1
      subst h1
      exact ⟨_, by simp only [lenA, hu]; rfl, h2⟩
    | some i =>
      simp only at h1
      split at h1
      · rename_i es' ck hg
        simp only [Option.some.injEq] at h1
        subst h1
        exact ⟨_, by simp only [lenA, hu, hg]; rfl, h2⟩
      · cases h1
  · exact h.elim
theorem rowOf_ok {H : Heap} {es : Nat} {a : Option Addr} {n c : Nat} {l : List Value} (h : rowOf H es a n = some l) : firstCellsA H es n (.slice a n c) = some l := by
  unfold rowOf at h
  cases a with
  | none => exact h
  | some A =>
    obtain ⟨i, o, s⟩ := A
    cases s <;> exact h
theorem wpAppend_ok {H : Heap} {ts : Array TypeId} {args : List Value} {K : Value → Heap → Prop} (h : wpAppend E H ts args K) : ∃ v H', appendA E H ts args = some (v, H') ∧ K v H' := by
  unfold wpAppend at h
  split at h
  · rename_i st xt hts
    cases hb : Nat.beq xt st with
    | false => rw [hb] at h; exact h.elim
    | true =>
      obtain rfl := Nat.eq_of_beq_eq_true hb
      rw [hb] at h
      simp only [cond_true] at h
      split at h
      · rename_i e hu
        split at h
        · rename_i es z i h1 h2 h3
          cases hz : (Nat.beq es 0 || Nat.beq i.bytes 0) with
          | true => rw [hz] at h; exact h.elim
          | false =>
            rw [hz] at h
            simp only [cond_false] at h
            simp only [Bool.or_eq_false_iff] at hz
            split at h
            · rename_i x y
              replace h := asSlice_elim h
              obtain ⟨a, len, c, rfl, h⟩ := h
              replace h := asSlice_elim h
              obtain ⟨b, n, c', rfl, new, hnew, h⟩ := h
              have hb1 : 1 ≤ i.bytes := by have := Nat.ne_of_beq_eq_false hz.2; omega
              simp only [appendA, hts, if_pos, hu, h1, Option.bind_some, lenOfA, rowOf_ok hnew, hz.1, cond_false]
              cases hfz : E.frz xt with
              | false =>
                rw [hfz] at h
                simp only [cond_false] at h
                rcases h with ⟨rfl, h⟩ | ⟨hn, h⟩
                · rw [if_pos rfl]
                  refine ⟨_, _, rfl, ?_⟩
                  exact h
                · rw [if_neg (by omega)]
                  rcases h with ⟨rfl, rfl, hlim, h⟩ | ⟨j, o, cs, rfl, hg, h⟩
                  · simp only [if_pos, growsA, h2, h3, Option.bind_some]
                    rw [if_pos ⟨hlim, hb1⟩]
                    exact ⟨_, _, rfl, by simpa [newRowA] using h⟩
                  · simp only [hg, if_pos]
                    rcases h with ⟨hc, H', hs, h⟩ | ⟨hc, old, ho, hlim, h⟩
                    · rw [if_pos hc, hs]
                      exact ⟨_, _, rfl, h⟩
                    · rw [if_neg (by omega), ho]
                      simp only [Option.bind_some, hfz, Bool.false_and, cond_false, growsA, h2, h3]
                      rw [if_pos ⟨hlim, hb1⟩]
                      exact ⟨_, _, rfl, h⟩
              | true =>
                rw [hfz] at h
                simp only [cond_true] at h
                rcases h with ⟨rfl, h⟩ | ⟨hn, h⟩
                · rw [if_pos rfl]
                  exact ⟨_, _, rfl, h⟩
                · rw [if_neg (by omega)]
                  rcases h with ⟨rfl, rfl, hlim, h⟩ | ⟨j, o, cs, rfl, hg, h⟩
                  · simp only [if_pos, growsA, h2, h3, Option.bind_some]
                    rw [if_pos ⟨hlim, hb1⟩]
                    exact ⟨_, _, rfl, by simpa [newRowA] using h⟩
                  · simp only [hg, if_pos]
                    rcases h with ⟨hc, H', hs, h⟩ | ⟨hc, old, ho, hlim, h⟩
                    · rw [if_pos hc, hs]
                      exact ⟨_, _, rfl, h⟩
                    · rw [if_neg (by omega), ho]
                      rcases h with ⟨h256, h⟩ | ⟨rfl, h⟩
                      · have hb : Nat.beq len 256 = false := by
                          cases hx : Nat.beq len 256 with
                          | false => rfl
                          | true => exact absurd (Nat.eq_of_beq_eq_true hx) h256
                        simp only [Option.bind_some, hfz, hb, Bool.and_false, cond_false, growsA, h2, h3]
                        rw [if_pos ⟨hlim, hb1⟩]
                        exact ⟨_, _, rfl, h⟩
                      · simp only [Option.bind_some, hfz, Nat.beq_refl, Bool.and_self, cond_true, growsF, h2, h3]
                        rw [if_pos ⟨hlim, hb1⟩]
                        exact ⟨_, _, rfl, h⟩
            · exact h.elim
        · exact h.elim
      · exact h.elim
  · exact h.elim
theorem wpBuiltin_ok {H : Heap} {b : Builtin} {ts : Array TypeId} {args : List Value} {K : Value → Heap → Prop} (h : wpBuiltin E H b ts args K) : ResK E H K (builtinA E H b ts args) := by
  unfold wpBuiltin at h
  split at h
  · exact resK_rvh (wpAppend_ok h)
  · obtain ⟨v, H', h1, h2⟩ := h
    obtain ⟨u, rfl, h2⟩ := exOne_some h2
    exact resK_rvh ⟨_, _, h1, h2⟩
  · split at h
    · rename_i t _ x _ ht
      simp only [builtinA, ht]
      exact resK_rv (wpLen_ok h)
    · exact h.elim
  · split at h
    · rename_i t _ m k ht
      simp only [builtinA, ht]
      exact resK_rh (wpDelete_ok h)
    · exact h.elim
  · split at h
    · rename_i t _ x ht
      simp only [builtinA, ht]
      exact resK_rh (asSome_elim h)
    · exact h.elim
  · exact resK_rv (asSome_elim h)
  · exact resK_rv (asSome_elim h)
  · exact h.elim
theorem CA_like {f : FuncId} {args : List Value} {H : Heap} {z : Value} {K : Value → Heap → Prop} (h : CA E f args H fun v H' => exLike z fun u => v = u ∧ K u H') : CA E f args H K :=
  h.mono fun v H' h => by
    obtain ⟨u, rfl, h⟩ := exLike_some h
    exact h
theorem wpCall_ok {e : Operand → Value} {t : TypeId} {c : Call} {H : Heap} {K : Value → Heap → Prop} (h : wpCall E e t c H K) (he : ∀ f, e (.func f) = .func (.func f) #[] #[]) :
    ResK E H K (match c.callee with
      | .value f => callA E H (e f) (c.args.toList.map e)
      | .builtin b => builtinA E H b c.argTypes (c.args.toList.map e)
      | .invoke _ _ => none) := by
  unfold wpCall at h
  split at h
  · rename_i f hf
    rw [hf]
    simp only [he, callA, List.nil_append, List.append_nil]
    unfold wpCallF at h
    split at h
    · rename_i fn hfn
      simp only [hfn]
      exact CA_like h
    · rename_i hfn
      simp only [hfn]
      cases hc : E.clone f with
      | false => rw [hc] at h; exact h.elim
      | true =>
        rw [hc] at h
        simp only [cond_true] at h ⊢
        split at h
        · rename_i t v ha
          obtain ⟨m, hv, i, es, ck, rfl, h1, h2⟩ := asMap_elim h
          subst hv
          simp only [cloneA, ha, h1]
          exact h2
        · exact h.elim
  · rename_i f hf hne
    rw [hne]
    obtain ⟨k, fs, cs, hv, ⟨fn, hfn⟩, h⟩ := asFn_elim h
    simp only [hv, callA, hfn]
    exact CA_like h
  · rename_i b hb
    rw [hb]
    exact wpBuiltin_ok h
  · exact h.elim
theorem wpMakeSlice_ok {H : Heap} {t : Nat} {len cap : Value} {K : Value → Heap → Prop} (h : wpMakeSlice E H t len cap K) : ∃ v H', makeSliceA E H t len cap = some (v, H') ∧ K v H' := by
  unfold wpMakeSlice at h
  split at h
  · rename_i e hu
    split at h
    · rename_i z i hz hi
      replace h := asNum_elim h
      obtain ⟨k, l, rfl, h⟩ := h
      replace h := asNum_elim h
      obtain ⟨k', c, rfl, h1, h⟩ := h
      cases hb : (Nat.ble 1 i.bytes && Nat.ble 1 z.length) with
      | false => rw [hb] at h; exact h.elim
      | true =>
        rw [hb] at h
        simp only [Bool.and_eq_true] at hb
        refine ⟨_, _, ?_, h⟩
        simp only [makeSliceA, hu, hz, hi, Option.bind_some]
        rw [if_pos ⟨h1.1, h1.2.1, h1.2.2, Nat.le_of_ble_eq_true hb.1, Nat.le_of_ble_eq_true hb.2⟩]
        rfl
    · exact h.elim
  · exact h.elim
theorem wpOp_ok {e : Operand → Value} {o : Oper} {H : Heap} {K : Value → Heap → Prop} (he : ∀ f, e (.func f) = .func (.func f) #[] #[]) (hc : ∀ v, plain v = true → e (.const v) = v) (h : wpOp E e o H K) : ResK E H K (aop E e o.op H) := by
  unfold wpOp at h
  split at h
  case h_1 hop => simp only [hop, aop]; exact h
  case h_2 hop => simp only [hop, aop]; exact h
  case h_3 c a b hop =>
    simp only [hop, aop]
    obtain ⟨t, h1, h2⟩ := asBool_elim h
    simp only [h1]
    cases t <;> exact h2
  case h_4 t hop =>
    simp only [hop, aop]
    split at h
    · rename_i vs hz
      cases h1 : zeroV E t with
      | none => rw [h1] at hz; cases hz
      | some z =>
        rw [h1] at hz
        simp only [Option.bind_some] at hz ⊢
        refine resK_rvh ⟨_, _, by rw [newVal, hz]; rfl, h⟩
    · exact h.elim
  case h_5 t x hop =>
    simp only [hop, aop]
    obtain ⟨vs, h1, h2⟩ := asCells_elim h
    exact resK_rvh ⟨_, _, by rw [newVal, h1]; rfl, h2⟩
  case h_6 t parts hop =>
    simp only [hop, aop]
    have e1 : parts.map (fun p => (p.1, e p.2)) = ⟨parts.toList.map fun p => (p.1, e p.2)⟩ := by rw [← Array.toList_inj]; simp
    rw [e1]
    exact resK_rv (asSome_elim h)
  case h_7 t len parts hop =>
    simp only [hop, aop]
    have e1 : parts.map (fun p => (p.1, e p.2)) = ⟨parts.toList.map fun p => (p.1, e p.2)⟩ := by rw [← Array.toList_inj]; simp
    rw [e1]
    obtain ⟨p, h1, h2⟩ := asSome_elim h
    have h3 : buildSliceA E H t len ⟨parts.toList.map fun p => (p.1, e p.2)⟩ = some (.slice (some ⟨H.next, 0, none⟩) len 0, H.new (.cells true p.1 p.2)) := by
      unfold cellsBuilt at h1
      unfold buildSliceA
      split at h1
      · rename_i el hu
        cases hz : zeroCellsA E el with
        | none => rw [hz] at h1; cases h1
        | some z =>
          rw [hz] at h1
          simp only [hu, hz, Option.bind_some] at h1 ⊢
          cases hcd : (partsOk ⟨parts.toList.map fun p => (p.1, e p.2)⟩ && Nat.ble (len * z.length) 16777216 && Nat.ble 1 z.length) with
          | false => rw [hcd] at h1; cases h1
          | true =>
          rw [hcd] at h1
          simp only [cond_true] at h1 ⊢
          cases hfill : Instr.fill (fun i => some (i * z.length, z.length)) ⟨reps len z⟩ (parts.toList.map fun p => (p.1, e p.2)) with
          | none => rw [hfill] at h1; cases h1
          | some cs =>
            rw [hfill] at h1
            simp only [Option.bind_some] at h1 ⊢
            cases ho : cs.toList.all one with
            | false => rw [ho] at h1; cases h1
            | true =>
              rw [ho] at h1
              simp only [cond_true, Option.some.injEq] at h1
              subst h1
              simp [newRowA]
      · cases h1
    exact resK_rvh ⟨_, _, h3, h2⟩
  case h_8 t a hop => simp only [hop, aop]; exact resK_rv (wpLoad_ok h)
  case h_9 t a x hop => simp only [hop, aop]; exact resK_rh (wpStore_ok h)
  case h_10 x hop =>
    simp only [hop, aop]
    split at h
    · obtain ⟨f, fs, cs, h1, h2⟩ := asFn_elim h
      simp only [h1]
      exact h2
    · obtain ⟨i, o, h1, h2⟩ := asAddr_elim h
      simp only [h1]
      exact h2
  case h_11 op t x y t2 hop =>
    simp only [hop, aop]
    split at h
    · rename_i c
      cases hb : (isNilLit c && plain c) with
      | true =>
        rw [hb] at h
        simp only [Bool.and_eq_true] at hb
        rw [hc _ hb.2]
        exact resK_rv (wpNilCmp_ok h)
      | false => rw [hb] at h; exact resK_rv (wpBin_ok h)
    · exact resK_rv (wpBin_ok h)
  case h_12 hop => simp only [hop, aop]; exact resK_rv (asSome_elim h)
  case h_13 hop => simp only [hop, aop]; exact resK_rv (asSome_elim h)
  case h_14 t x hop =>
    simp only [hop, aop]
    split at h
    · exact h.elim
    · rename_i d hne hd
      rw [hd]
      cases d <;> first
        | exact h
        | exact (hne _ rfl).elim
    · exact h.elim
  case h_15 f first captured hop =>
    simp only [hop, aop]
    have e1 : first.map e = ⟨first.toList.map e⟩ := by rw [← Array.toList_inj]; simp
    have e2 : captured.map e = ⟨captured.toList.map e⟩ := by rw [← Array.toList_inj]; simp
    rw [e1, e2]
    exact h
  case h_16 hop => simp only [hop, aop]; exact h
  case h_17 t r hop =>
    simp only [hop, aop]
    split at h
    · rename_i kt e' hu
      obtain ⟨k, n, h1, h2⟩ := asNum_elim h
      simp only [hu, h1]
      exact h2
    · exact h.elim
  case h_18 hop => simp only [hop, aop]; exact resK_rvh (wpMakeSlice_ok h)
  case h_19 hop => simp only [hop, aop]; exact resK_rv (wpSlice_ok h)
  case h_20 s x f hop =>
    simp only [hop, aop]
    unfold wpFieldAddr at h
    split at h
    · rename_i fields hu
      split at h
      · rename_i fd hf
        split at h
        · rename_i n hn
          cases hb : Nat.beq n 0 with
          | true => rw [hb] at h; exact h.elim
          | false =>
            rw [hb] at h
            obtain ⟨i, o, h1, h2⟩ := asAddr_elim h
            simp only [hu, h1, hf, hn, Option.bind_some]
            rw [if_neg (Nat.ne_of_beq_eq_false hb)]
            exact h2
        · exact h.elim
      · exact h.elim
    · exact h.elim
  case h_21 t x f hop =>
    simp only [hop, aop]
    split at h
    · rename_i fields cs hu hx
      split at h
      · rename_i fd hf
        simp only [hu, hx, hf]
        exact resK_rv (asSome_elim h)
      · exact h.elim
    · exact h.elim
  case h_22 t x ix hop =>
    simp only [hop, aop]
    unfold wpIndexAddr at h
    split at h
    · rename_i el hu
      split at h
      · rename_i s hs
        obtain ⟨a, len, c, hx, h1⟩ := asSlice_elim h
        obtain ⟨k, n, hi, hb, h2⟩ := asNum_elim h1
        obtain ⟨i, o, rfl, h3⟩ := asRow_elim h2
        simp only [hu, hx, hi, hs, Option.bind_some]
        rw [if_pos (show _ ∧ _ from hb)]
        exact h3
      · exact h.elim
    · rename_i len el hu
      split at h
      · rename_i s hs
        obtain ⟨i, o, hx, h⟩ := asAddr_elim h
        obtain ⟨k, n, hi, hb, h⟩ := asNum_elim h
        simp only [hu, hx, hi, hs, Option.bind_some]
        rw [if_pos (show _ ∧ _ from hb)]
        exact h
      · exact h.elim
    · exact h.elim
  case h_23 t x ix hop =>
    simp only [hop, aop]
    split at h
    · rename_i len el hu
      split at h
      · rename_i cs s hx hs
        obtain ⟨k, n, hi, hb, h⟩ := asNum_elim h
        simp only [hu, hx, hi, hs, Option.bind_some]
        rw [if_pos (show _ ∧ _ from hb)]
        exact resK_rv (asSome_elim h)
      · exact h.elim
    · rename_i hu
      split at h
      · rename_i s hx
        obtain ⟨k, n, hi, h⟩ := asNum_elim h
        obtain ⟨v, h1, h⟩ := asSome_elim h
        obtain ⟨u, rfl, h⟩ := exOne_some h
        simp only [hu, hx, hi]
        exact resK_rv ⟨_, h1, h⟩
      · exact h.elim
    · exact h.elim
  case h_24 hop => simp only [hop, aop]; exact resK_rv (wpLookup_ok h)
  case h_25 hop => simp only [hop, aop]; exact resK_rh (wpMapUpdate_ok h)
  case h_26 hop => simp only [hop, aop]; exact resK_rh (wpMapUpdate_ok h)
  case h_27 x t0 asserted hop =>
    simp only [hop, aop]
    split at h
    · exact h.elim
    · rename_i d hne hu
      split at h
      · rename_i t v hx
        cases hb : Nat.beq t asserted with
        | false => rw [hb] at h; exact h.elim
        | true =>
          rw [hb] at h
          have et := Nat.eq_of_beq_eq_true hb
          rw [hu, hx]
          cases d <;> first
            | (simp only; rw [if_pos et]; exact h)
            | exact (hne _ rfl).elim
      · exact h.elim
    · exact h.elim
  case h_28 t ix hop =>
    simp only [hop, aop]
    split at h
    · rename_i vs hx
      split at h
      · rename_i v hv
        simp only [hx, hv]
        exact h
      · exact h.elim
    · exact h.elim
  case h_29 c hop => simp only [hop, aop]; exact wpCall_ok h he
  case h_30 => exact h.elim
end
end Go.AS
namespace Go.AS
open Go.RowKit
theorem turnInto {β α : Prop} (h : β) (e : α = β) : α := e.mpr h
set_option linter.unusedVariables false
section
variable {E : Env} {bm : Bool}
theorem evL_func (xs : Fr) (f : FuncId) : evL E xs (.func f) = .func (.func f) #[] #[] := rfl
theorem evL_const (xs : Fr) (v : Value) (h : plain v = true) : evL E xs (.const v) = v := by simp [evL, h]
theorem set_self {xs : Fr} {d : Nat} {v : Value} (h : xs[d]? = some v) : xs.set d v = xs := by
  obtain ⟨h1, rfl⟩ := List.getElem?_eq_some_iff.1 h
  exact List.set_getElem_self h1
theorem wpWant_ok {ops : Array Oper} {xs : Fr} {o : Oper} {yes no : Fr → Prop} (h : wpWant ops xs o yes no) : (wantedA ops (ofL xs) o = some true ∧ yes xs) ∨ (wantedA ops (ofL xs) o = some false ∧ no xs) := by
  unfold wpWant at h
  unfold wantedA
  cases hg : o.guard with
  | none => rw [hg] at h; exact .inl ⟨rfl, h⟩
  | some p =>
    obtain ⟨j, want⟩ := p
    rw [hg] at h
    simp only at h ⊢
    cases hd : (ops[j]?).bind (·.dst) with
    | none => rw [hd] at h; exact .inr ⟨rfl, h⟩
    | some d =>
      rw [hd] at h
      simp only [ofL_get] at h ⊢
      split at h
      · rename_i b hx
        cases want <;> cases b <;> simp only [cond_true, cond_false, set_self hx] at h
        · exact .inl ⟨by rw [hx]; rfl, h⟩
        · exact .inr ⟨by rw [hx]; rfl, h⟩
        · exact .inr ⟨by rw [hx]; rfl, h⟩
        · exact .inl ⟨by rw [hx]; rfl, h⟩
      · rename_i hx; exact .inr ⟨by rw [hx], h⟩
      · rename_i hx; exact .inr ⟨by rw [hx], h⟩
      · exact h.elim
theorem wpOps_ok {ops : Array Oper} : ∀ {l : List Oper} {xs : Fr} {H : Heap} {Q : Fr → Heap → Prop}, wpOps E ops l xs H Q →
    OA E ops l (ofL xs) H fun T H' => ∃ xs', T = ofL xs' ∧ xs'.length = xs.length ∧ (∀ k, k ∉ writesOps l [] → xs'[k]? = xs[k]?) ∧ Q xs' H'
  | [], xs, H, Q, h => OA_nil ⟨xs, rfl, rfl, fun _ _ => rfl, h⟩
  | o :: l, xs, H, Q, h => by
    have mem : ∀ (l : List Oper) (ds : List Nat) (k : Nat), k ∈ ds → k ∈ writesOps l ds := by
      intro l
      induction l with
      | nil => intro ds k hk; exact hk
      | cons o l ih =>
        intro ds k hk
        simp only [writesOps]
        split
        · rename_i d hd
          refine ih _ _ ?_
          cases ds.any (Nat.beq d)
          · exact List.mem_append_left _ hk
          · exact hk
        · exact ih _ _ hk
    have mem' : ∀ (l : List Oper) (ds ds' : List Nat) (k : Nat), (∀ k, k ∈ ds → k ∈ ds') → k ∈ writesOps l ds → k ∈ writesOps l ds' := by
      intro l
      induction l with
      | nil => intro ds ds' k hs hk; exact hs _ hk
      | cons o l ih =>
        intro ds ds' k hs hk
        simp only [writesOps] at hk ⊢
        cases hd : o.dst with
        | none => rw [hd] at hk; exact ih _ _ _ hs hk
        | some d =>
          rw [hd] at hk
          refine ih _ _ _ (fun j hj => ?_) hk
          have hd' : d ∈ (bif ds'.any (Nat.beq d) then ds' else ds' ++ [d]) := by
            cases ha : ds'.any (Nat.beq d) with
            | false => simp
            | true =>
              simp only [List.any_eq_true] at ha
              obtain ⟨u, hu, hb⟩ := ha
              rw [cond_true, Nat.eq_of_beq_eq_true hb]
              exact hu
          have hj' : j ∈ ds ∨ j = d := by
            cases ha : ds.any (Nat.beq d) with
            | false => rw [ha] at hj; simpa using hj
            | true => rw [ha] at hj; exact .inl hj
          rcases hj' with hj' | rfl
          · have := hs _ hj'
            cases ds'.any (Nat.beq d)
            · exact List.mem_append_left _ this
            · exact this
          · exact hd'
    have same : ∀ (v : Value) (k : Nat), k ∉ writesOps (o :: l) [] → (putL xs o.dst v)[k]? = xs[k]? := by
      intro v k hk
      unfold putL
      split
      · rename_i d hd
        have : k ≠ d := by
          rintro rfl
          refine hk ?_
          simp only [writesOps, hd]
          exact mem _ _ _ (by simp)
        rw [List.getElem?_set_ne (Ne.symm this)]
      · rfl
    have sub : ∀ k, k ∉ writesOps (o :: l) [] → k ∉ writesOps l [] := by
      intro k hk hk'
      refine hk ?_
      simp only [writesOps]
      split
      · exact mem' _ _ _ _ (by simp) hk'
      · exact hk'
    have len : ∀ v, (putL xs o.dst v).length = xs.length := by
      intro v; unfold putL; split <;> simp
    have lift : ∀ (v : Value) (T : Tr Value) (H' : Heap), (∃ xs', T = ofL xs' ∧ xs'.length = (putL xs o.dst v).length ∧ (∀ k, k ∉ writesOps l [] → xs'[k]? = (putL xs o.dst v)[k]?) ∧ Q xs' H') →
        ∃ xs', T = ofL xs' ∧ xs'.length = xs.length ∧ (∀ k, k ∉ writesOps (o :: l) [] → xs'[k]? = xs[k]?) ∧ Q xs' H' := by
      rintro v T H' ⟨xs', h1, h2, h3, h4⟩
      exact ⟨xs', h1, h2.trans (len v), fun k hk => (h3 k (sub k hk)).trans (same v k hk), h4⟩
    have oam : ∀ {l : List Oper} {T : Tr Value} {H : Heap} {Q Q' : Tr Value → Heap → Prop}, OA E ops l T H Q → (∀ T H, Q T H → Q' T H) → OA E ops l T H Q' :=
      fun h hq => let ⟨n, s, h1, h2⟩ := h; ⟨n, s, h1, hq _ _ h2⟩
    rcases wpWant_ok h with ⟨hw, h⟩ | ⟨hw, h⟩
    · refine OA_cons ?_
      rw [hw]
      simp only [OpW]
      have h1 := wpOp_ok (evL_func xs) (evL_const xs) h
      rw [ev_ofL]
      cases hr : aop E (evL E xs) o.op H with
      | none => rw [hr] at h1; exact h1.elim
      | some r =>
        rw [hr] at h1
        cases r with
        | val v H' =>
          simp only [OpA, putT_ofL]
          exact oam (wpOps_ok h1) (lift v)
        | call f args =>
          simp only [OpA, putT_ofL]
          exact CA.mono h1 fun v H' h2 => oam (wpOps_ok h2) (lift v)
    · refine OA_cons ?_
      rw [hw]
      simp only [OpW, putT_ofL]
      exact oam (wpOps_ok h) (lift undef)
theorem sameP_ok {v w : Value} (h : sameP v w) : sameN 8 v w = true := by
  unfold sameP at h
  split at h
  · rename_i k a j b
    by_cases e : k = j
    · subst e
      simp only [decide_true, cond_true] at h
      subst h
      simp [sameN]
    · simp only [e, decide_false, cond_false] at h
  · subst h; simp [sameN]
  · subst h; simp [sameN]
  · obtain ⟨rfl, rfl, rfl⟩ := h; simp [sameN]
  · subst h; simp [sameN]
  · exact h
theorem birth_val {bm : Bool} {e : Operand → Value} {op : Op} {H : Heap} {r : Res} (hb : isBirth bm op = true) (h : aop E e op H = some r) : ∃ v H', r = .val v H' := by
  cases op
  case alloc t =>
    simp only [aop] at h
    cases hz : zeroV E t with
    | none => rw [hz] at h; cases h
    | some z => rw [hz] at h; obtain ⟨v, H', _, e2⟩ := rvh_some h; exact ⟨_, _, e2⟩
  case box t x => obtain ⟨v, H', _, e2⟩ := rvh_some (show rvh _ = some r from h); exact ⟨_, _, e2⟩
  case buildSlice t l p => obtain ⟨v, H', _, e2⟩ := rvh_some (show rvh _ = some r from h); exact ⟨_, _, e2⟩
  case makeSlice t l p => obtain ⟨v, H', _, e2⟩ := rvh_some (show rvh _ = some r from h); exact ⟨_, _, e2⟩
  case makeMap t rr =>
    cases rr with
    | none => simp only [aop, Option.some.injEq] at h; exact ⟨_, _, h.symm⟩
    | some x =>
      simp only [aop] at h
      split at h
      · simp only [Option.some.injEq] at h; exact ⟨_, _, h.symm⟩
      · cases h
  all_goals (simp [isBirth] at hb)
theorem wpBorn_ok {bm : Bool} {e : Operand → Value} {o : Oper} {K : Value → Obj → Prop} (he : ∀ f, e (.func f) = .func (.func f) #[] #[]) (hc : ∀ v, plain v = true → e (.const v) = v) (hb : isBirth bm o.op = true)
    (h : wpOp E e o heap1 fun v H' => asSome (H'.get 0) fun ob => K v ob) : ∃ v ob, bornA E e o.op = some (v, ob) ∧ K v ob := by
  have h1 := wpOp_ok he hc h
  cases hx : aop E e o.op heap1 with
  | none => rw [hx] at h1; exact h1.elim
  | some q =>
    obtain ⟨v, H', rfl⟩ := birth_val hb hx
    rw [hx] at h1
    obtain ⟨ob, h2, h3⟩ := asSome_elim h1
    exact ⟨v, ob, by simp only [bornA, hx, h2, Option.map_some], h3⟩
theorem looksP_ok {base : Nat} {r : DR} {xs : Fr} (hr : r.T = ofL xs) {H : Heap} (hl : isLoudD bm r.o.op = false) (h : looksP bm E base r H) : looksAt bm E base r H = true := by
  unfold looksP at h
  unfold looksAt
  have he : ∀ f, ev E r.T (.func f) = .func (.func f) #[] #[] := by intro f; rw [hr, ev_ofL]; rfl
  have hc : ∀ v, plain v = true → ev E r.T (.const v) = v := by intro v hv; rw [hr, ev_ofL]; exact evL_const xs v hv
  split at h
  · rename_i ty hop
    simp only [hop]
    split at h
    · rename_i vs hz
      obtain ⟨c, h1, h2⟩ := h
      simp only [hz, h1, h2]
    · exact h.elim
  · rename_i hne
    split
    · rename_i ty hop; exact (hne ty hop).elim
    cases hb : isBirth bm r.o.op with
    | true =>
      rw [hb] at h
      simp only [cond_true] at h ⊢
      obtain ⟨v, ob, h1, o, h2, h3⟩ := wpBorn_ok he hc hb h
      simp only [h1, h2, h3]
    | false =>
    rw [hb] at h
    simp only [cond_false] at h ⊢
    have h1 := wpOp_ok he hc h
    have hl' : isLoud r.o.op = false := by rw [← loudD_of hb]; exact hl
    have : ∃ v H', aop E (ev E r.T) r.o.op H = some (.val v H') ∧ sameP r.v v := by
      cases hx : aop E (ev E r.T) r.o.op H with
      | none => rw [hx] at h1; exact h1.elim
      | some q =>
        obtain ⟨v, rfl⟩ := aop_quiet hl' hx
        rw [hx] at h1
        exact ⟨_, _, rfl, h1⟩
    obtain ⟨v, H', h2, h3⟩ := this
    simp only [h2, sameP_ok h3]
theorem checkP_ok {base : Nat} {r : DR} {xs : Fr} (hr : r.T = ofL xs) (hl : isLoudD bm r.o.op = false) {hs : List Heap} : ∀ (n k : Nat), checkP bm E base r hs k n → checkAt bm E base r hs k n = true
  | 0, k, _ => rfl
  | n + 1, k, h => by
    simp only [checkP] at h
    simp only [checkAt]
    cases hk : hs[k]? with
    | none => rw [hk] at h; exact h.1.elim
    | some H =>
      rw [hk] at h
      simp only [looksP_ok hr hl h.1, checkP_ok hr hl n (k + 1) h.2, Bool.and_self]
theorem quietP_ok {base : Nat} {ss : List Bool} {ms : List Nat} {all : List DR} {hs : List Heap} {m : Nat} : ∀ {l : List DR}, (∀ r ∈ l, ∃ xs, r.T = ofL xs) → quietP bm E base ss ms all hs m l → quietOk bm E base ss ms all hs m l = true
  | [], _, _ => rfl
  | r :: l, hT, h => by
    simp only [quietP] at h
    simp only [quietOk]
    obtain ⟨xs, hx⟩ := hT r (by simp)
    cases hb : (!r.w || isLoudD bm r.o.op || isPure r.o.op || (ss.getD r.i false && !isBirth bm r.o.op)) with
    | true =>
      rw [hb] at h
      simp only [cond_true] at h
      simp only [Bool.true_or, Bool.true_and]
      exact quietP_ok (fun r hr => hT r (by simp [hr])) h
    | false =>
      rw [hb] at h
      simp only [cond_false] at h
      have hl : isLoudD bm r.o.op = false := by
        simp only [Bool.or_eq_false_iff] at hb
        exact hb.1.1.2
      simp only [Bool.false_or, checkP_ok hx hl _ _ h.1, Bool.true_and]
      exact quietP_ok (fun r hr => hT r (by simp [hr])) h.2
theorem preH_ok {base : Nat} : ∀ (l : List Oper) (i : Nat) (os : List Obj) (H H' : Heap), preH bm E base l i os H = some H' → preA bm E base l i os H.tr = some H'.tr ∧ H'.next = H.next
  | [], i, os, H, H', h => by
    simp only [preH, Option.some.injEq] at h
    subst h
    exact ⟨rfl, rfl⟩
  | o :: l, i, os, H, H', h => by
    simp only [preH] at h
    simp only [preA]
    rcases isAlloc o.op with ⟨ty, hop⟩ | hna
    · rw [hop] at h ⊢
      simp only at h ⊢
      cases hz : (zeroV E ty).bind cellsOf with
      | none => rw [hz] at h; cases h
      | some vs =>
        rw [hz] at h
        obtain ⟨h1, h2⟩ := preH_ok l (i + 1) os _ H' h
        exact ⟨h1, h2⟩
    · split at h
      · rename_i ty hop; exact (hna _ hop).elim
      · split
        · rename_i ty hop; exact (hna _ hop).elim
        · cases hb : isBirth bm o.op with
          | false =>
            rw [hb] at h
            exact preH_ok l (i + 1) os H H' h
          | true =>
            rw [hb] at h
            simp only [cond_true] at h ⊢
            cases os with
            | nil => cases h
            | cons ob os =>
              obtain ⟨h1, h2⟩ := preH_ok l (i + 1) os _ H' h
              exact ⟨h1, h2⟩
theorem wpPass_ok {ops : Array Oper} {base : Nat} : ∀ {l : List Oper} {i : Nat} {xs : Fr} {H : Heap} {k : Nat} {rs : List DR} {hs : List Heap} {F : List DR → Fr → List Heap → Heap → Prop},
    wpPass bm E ops base l i xs H k rs hs F → (∀ r ∈ rs, ∃ xs, r.T = ofL xs) →
    ∃ n rs' xs' hs' H', pass1 bm E (sem E n) ops base l i (ofL xs) H k rs hs = some (rs', ofL xs', hs', H') ∧ xs'.length = xs.length ∧ (∀ k, k ∉ writesOps l [] → xs'[k]? = xs[k]?) ∧ (∀ r ∈ rs', ∃ xs, r.T = ofL xs) ∧ F rs' xs' hs' H'
  | [], i, xs, H, k, rs, hs, F, h, hT => ⟨0, rs, xs, hs, H, rfl, rfl, fun _ _ => rfl, hT, h⟩
  | o :: l, i, xs, H, k, rs, hs, F, h, hT => by
    have mem : ∀ (l : List Oper) (ds : List Nat) (k : Nat), k ∈ ds → k ∈ writesOps l ds := by
      intro l
      induction l with
      | nil => intro ds k hk; exact hk
      | cons o l ih =>
        intro ds k hk
        simp only [writesOps]
        split
        · rename_i d hd
          refine ih _ _ ?_
          cases ds.any (Nat.beq d)
          · exact List.mem_append_left _ hk
          · exact hk
        · exact ih _ _ hk
    have mem' : ∀ (l : List Oper) (ds ds' : List Nat) (k : Nat), (∀ k, k ∈ ds → k ∈ ds') → k ∈ writesOps l ds → k ∈ writesOps l ds' := by
      intro l
      induction l with
      | nil => intro ds ds' k hs hk; exact hs _ hk
      | cons o l ih =>
        intro ds ds' k hs hk
        simp only [writesOps] at hk ⊢
        cases hd : o.dst with
        | none => rw [hd] at hk; exact ih _ _ _ hs hk
        | some d =>
          rw [hd] at hk
          refine ih _ _ _ (fun j hj => ?_) hk
          have hd' : d ∈ (bif ds'.any (Nat.beq d) then ds' else ds' ++ [d]) := by
            cases ha : ds'.any (Nat.beq d) with
            | false => simp
            | true =>
              simp only [List.any_eq_true] at ha
              obtain ⟨u, hu, hb⟩ := ha
              rw [cond_true, Nat.eq_of_beq_eq_true hb]
              exact hu
          have hj' : j ∈ ds ∨ j = d := by
            cases ha : ds.any (Nat.beq d) with
            | false => rw [ha] at hj; simpa using hj
            | true => rw [ha] at hj; exact .inl hj
          rcases hj' with hj' | rfl
          · have := hs _ hj'
            cases ds'.any (Nat.beq d)
            · exact List.mem_append_left _ this
            · exact this
          · exact hd'
    have same : ∀ (v : Value) (k : Nat), k ∉ writesOps (o :: l) [] → (putL xs o.dst v)[k]? = xs[k]? := by
      intro v k hk
      unfold putL
      split
      · rename_i d hd
        have : k ≠ d := by
          rintro rfl
          refine hk ?_
          simp only [writesOps, hd]
          exact mem _ _ _ (by simp)
        rw [List.getElem?_set_ne (Ne.symm this)]
      · rfl
    have sub : ∀ k, k ∉ writesOps (o :: l) [] → k ∉ writesOps l [] := by
      intro k hk hk'
      refine hk ?_
      simp only [writesOps]
      split
      · exact mem' _ _ _ _ (by simp) hk'
      · exact hk'
    have len : ∀ v, (putL xs o.dst v).length = xs.length := by
      intro v; unfold putL; split <;> simp
    have hT' : ∀ (w : Bool) (v : Value), ∀ r ∈ (⟨i, o, w, ofL xs, v, k⟩ :: rs : List DR), ∃ xs, r.T = ofL xs := by
      intro w v r hr
      rcases List.mem_cons.1 hr with rfl | hr
      · exact ⟨xs, rfl⟩
      · exact hT r hr
    rcases wpWant_ok h with ⟨hw, h⟩ | ⟨hw, h⟩
    · have step : ∀ (n : Nat) (v : Value) (H' : Heap), resA (sem E n) (aopD bm E base i (ev E (ofL xs)) o.op H) H = some (v, H') →
          (bif isLoudD bm o.op then wpPass bm E ops base l (i + 1) (putL xs o.dst v) H' (k + 1) (⟨i, o, true, ofL xs, v, k⟩ :: rs) (hs ++ [H']) F
            else wpPass bm E ops base l (i + 1) (putL xs o.dst v) H k (⟨i, o, true, ofL xs, v, k⟩ :: rs) hs F) →
          (isLoudD bm o.op = false → H' = H) →
          ∃ n rs' xs' hs' H', pass1 bm E (sem E n) ops base (o :: l) i (ofL xs) H k rs hs = some (rs', ofL xs', hs', H') ∧ xs'.length = xs.length ∧ (∀ k, k ∉ writesOps (o :: l) [] → xs'[k]? = xs[k]?) ∧ (∀ r ∈ rs', ∃ xs, r.T = ofL xs) ∧ F rs' xs' hs' H' := by
        intro n v H' hr h hq
        cases hl : isLoudD bm o.op with
        | true =>
          rw [hl] at h
          simp only [cond_true] at h
          obtain ⟨m, rs', xs', hs', H2, g1, g2, g3, g4, g5⟩ := wpPass_ok h (hT' _ _)
          refine ⟨max n m, rs', xs', hs', H2, ?_, g2.trans (len v), fun k hk => (g3 k (sub k hk)).trans (same v k hk), g4, g5⟩
          simp only [pass1, hw]
          rw [resA_mono (sem_mono (Nat.le_max_left n m)) hr]
          simp only [hl, cond_true, putT_ofL]
          exact pass1_mono (sem_mono (Nat.le_max_right n m)) g1
        | false =>
          rw [hl] at h
          simp only [cond_false] at h
          obtain rfl := hq hl
          obtain ⟨m, rs', xs', hs', H2, g1, g2, g3, g4, g5⟩ := wpPass_ok h (hT' _ _)
          refine ⟨max n m, rs', xs', hs', H2, ?_, g2.trans (len v), fun k hk => (g3 k (sub k hk)).trans (same v k hk), g4, g5⟩
          simp only [pass1, hw]
          rw [resA_mono (sem_mono (Nat.le_max_left n m)) hr]
          simp only [hl, cond_false, putT_ofL]
          exact pass1_mono (sem_mono (Nat.le_max_right n m)) g1
      unfold wpOpD at h
      rcases isAlloc o.op with ⟨ty, hop⟩ | hna
      · simp only [hop] at h
        exact step 0 (.pointer (some ⟨base + i, 0, none⟩)) H (by simp only [hop, aopD, resA]) (by simp only [hop]; exact h) (fun _ => rfl)
      · split at h
        · rename_i t hop; exact absurd hop (hna t)
        · cases hbb : isBirth bm o.op with
          | true =>
            rw [hbb] at h
            simp only [cond_true] at h
            obtain ⟨v, ob, h1, h2⟩ := wpBorn_ok (evL_func xs) (evL_const xs) hbb h
            refine step 0 (atBlk (base + i) v) H ?_ h2 fun _ => rfl
            rw [ev_ofL]
            unfold aopD
            split
            · rename_i t hop; exact absurd hop (hna t)
            · rw [hbb, h1]; rfl
          | false =>
          rw [hbb] at h
          simp only [cond_false] at h
          have hna := hbb
          have h1 := wpOp_ok (evL_func xs) (evL_const xs) h
          have hD := aopD_of (E := E) (base := base) (i := i) (e := evL E xs) (H := H) hbb
          cases hr : aop E (evL E xs) o.op H with
          | none => rw [hr] at h1; exact h1.elim
          | some r =>
            rw [hr] at h1
            cases r with
            | val v H' =>
              refine step 0 v H' (by rw [ev_ofL, hD, hr]; rfl) h1 fun hl => ?_
              have hl' : isLoud o.op = false := by rw [← loudD_of hna]; exact hl
              obtain ⟨v', e⟩ := aop_quiet hl' hr
              injection e
            | call f args =>
              obtain ⟨n, v, H', h2, h3⟩ := h1
              refine step n v H' (by rw [ev_ofL, hD, hr]; exact h2) h3 fun hl => ?_
              have hl' : isLoud o.op = false := by rw [← loudD_of hna]; exact hl
              obtain ⟨v', e⟩ := aop_quiet hl' hr
              cases e
    · obtain ⟨m, rs', xs', hs', H2, g1, g2, g3, g4, g5⟩ := wpPass_ok h (hT' _ _)
      refine ⟨m, rs', xs', hs', H2, ?_, g2.trans (len undef), fun k hk => (g3 k (sub k hk)).trans (same undef k hk), g4, g5⟩
      simp only [pass1, hw, putT_ofL]
      exact g1
theorem wpPass0_ok {ops : Array Oper} {base : Nat} : ∀ {l : List Oper} {i : Nat} {xs : Fr} {H : Heap} {os : List Obj} {F : List Obj → Prop},
    wpPass0 E ops base l i xs H os F → ∃ n r, pass0 E (sem E n) ops base l i (ofL xs) H os = some r ∧ F r
  | [], i, xs, H, os, F, h => ⟨0, _, rfl, h⟩
  | o :: l, i, xs, H, os, F, h => by
    simp only [wpPass0] at h
    rcases wpWant_ok h with ⟨hw, h⟩ | ⟨hw, h⟩
    · cases hb : isBirth true o.op with
      | true =>
        rw [hb] at h
        simp only [cond_true] at h
        obtain ⟨v, ob, h1, h2⟩ := wpBorn_ok (evL_func xs) (evL_const xs) hb h
        obtain ⟨n, r, g1, g2⟩ := wpPass0_ok h2
        refine ⟨n, r, ?_, g2⟩
        simp only [pass0, hw, hb, cond_true]
        rw [ev_ofL, h1]
        simp only [putT_ofL]
        exact g1
      | false =>
        rw [hb] at h
        simp only [cond_false] at h
        have h1 := wpOp_ok (evL_func xs) (evL_const xs) h
        have key : ∃ n v H', resA (sem E n) (aop E (ev E (ofL xs)) o.op H) H = some (v, H') ∧ wpPass0 E ops base l (i + 1) (putL xs o.dst v) H' os F := by
          rw [ev_ofL]
          cases hr : aop E (evL E xs) o.op H with
          | none => rw [hr] at h1; exact h1.elim
          | some r =>
            rw [hr] at h1
            cases r with
            | val v H' => exact ⟨0, v, H', rfl, h1⟩
            | call f args =>
              obtain ⟨n, v, H', h2, h3⟩ := h1
              exact ⟨n, v, H', h2, h3⟩
        obtain ⟨n, v, H', h2, h3⟩ := key
        obtain ⟨m, r, g1, g2⟩ := wpPass0_ok h3
        refine ⟨max n m, r, ?_, g2⟩
        simp only [pass0, hw, hb, cond_false]
        rw [resA_mono (sem_mono (Nat.le_max_left n m)) h2]
        simp only [putT_ofL]
        exact pass0_mono (sem_mono (Nat.le_max_right n m)) g1
    · obtain ⟨n, r, g1, g2⟩ := wpPass0_ok h
      refine ⟨n, r, ?_, g2⟩
      simp only [pass0, hw, putT_ofL]
      exact g1
theorem wpDrawB_ok {ops : Array Oper} {os : List Obj} {xs : Fr} {H : Heap} {Q : Fr → Heap → Prop} (h : wpDrawB bm E ops os xs H Q) :
    ∃ n s', runDrawB bm E (sem E n) ops os ⟨ofL xs, H⟩ = some s' ∧ ∃ xs', s'.T = ofL xs' ∧ xs'.length = xs.length ∧ (∀ k, k ∉ writesOps ops.toList [] → xs'[k]? = xs[k]?) ∧ Q xs' s'.H := by
  unfold wpDrawB at h
  split at h
  · exact h.elim
  · rename_i H0 hp
    obtain ⟨h1, h2⟩ := preH_ok _ _ _ _ _ hp
    obtain ⟨n, rs', xs', hs', H', g1, g2, g3, g4, g5, g6⟩ := wpPass_ok h (by simp)
    have e0 : H0 = ⟨H0.tr, H.next + ops.size⟩ := by
      cases H0 with
      | mk t m => simp only [Heap.bump] at h2 ⊢; rw [h2]
    refine ⟨n, ⟨ofL xs', H'⟩, ?_, xs', rfl, g2, g3, g5⟩
    unfold runDrawB
    have h1' : preA bm E H.next ops.toList 0 os H.tr = some H0.tr := h1
    simp only
    rw [h1']
    simp only
    rw [← e0, g1]
    simp only
    rw [quietP_ok g4 g6]
    rfl
theorem wpDraw_ok {ops : Array Oper} {xs : Fr} {H : Heap} {Q : Fr → Heap → Prop} (h : wpDraw E ops xs H Q) :
    ∃ n s', runDraw E (sem E n) ops ⟨ofL xs, H⟩ = some s' ∧ ∃ xs', s'.T = ofL xs' ∧ xs'.length = xs.length ∧ (∀ k, k ∉ writesOps ops.toList [] → xs'[k]? = xs[k]?) ∧ Q xs' s'.H := by
  unfold wpDraw at h
  unfold runDraw
  cases hst : staticOk false ops with
  | true => rw [hst] at h; exact wpDrawB_ok h
  | false =>
    rw [hst] at h
    simp only [cond_false] at h ⊢
    cases hst2 : staticOk true ops with
    | false => rw [hst2] at h; exact h.elim
    | true =>
      rw [hst2] at h
      simp only [cond_true] at h ⊢
      obtain ⟨n, os, h1, h2⟩ := wpPass0_ok h
      obtain ⟨m, s', h3, h4⟩ := wpDrawB_ok h2
      refine ⟨max n m, s', ?_, h4⟩
      have e : pass0 E (sem E (max n m)) ops H.next ops.toList 0 (ofL xs) ⟨H.tr, H.next + ops.size⟩ [] = some os := pass0_mono (sem_mono (Nat.le_max_left n m)) h1
      rw [e]
      exact runDrawB_mono (sem_mono (Nat.le_max_right n m)) h3
theorem writesOps_iff : ∀ (l : List Oper) (ds : List Nat) (k : Nat), k ∈ writesOps l ds ↔ k ∈ ds ∨ k ∈ writesOps l []
  | [], ds, k => by simp [writesOps]
  | o :: l, ds, k => by
    simp only [writesOps]
    cases hd : o.dst with
    | none => exact writesOps_iff l ds k
    | some d =>
      simp only
      rw [writesOps_iff l _ k, writesOps_iff l (bif ([] : List Nat).any (Nat.beq d) then [] else [] ++ [d]) k]
      simp only [List.any_nil, cond_false, List.nil_append, List.mem_singleton]
      cases ha : ds.any (Nat.beq d) with
      | false => simp [or_assoc]
      | true =>
        simp only [List.any_eq_true] at ha
        obtain ⟨u, hu, hb⟩ := ha
        obtain rfl := Nat.eq_of_beq_eq_true hb
        simp only [cond_true]
        constructor
        · rintro (h | h)
          · exact .inl h
          · exact .inr (.inr h)
        · rintro (h | h | h)
          · exact .inl h
          · exact .inl (h ▸ hu)
          · exact .inr h
theorem writesIn_iff : ∀ (c : Code) (ds : List Nat) (k : Nat), k ∈ writesIn c ds ↔ k ∈ ds ∨ k ∈ writesIn c [] := by
  intro c
  induction c with
  | region id ops d => intro ds k; exact writesOps_iff _ _ _
  | seq a b iha ihb =>
    intro ds k
    simp only [writesIn]
    rw [ihb (writesIn a ds) k, ihb (writesIn a []) k, iha ds k, or_assoc]
  | cond c a b iha ihb =>
    intro ds k
    simp only [writesIn]
    rw [ihb (writesIn a ds) k, ihb (writesIn a []) k, iha ds k, or_assoc]
  | block id b ih => intro ds k; exact ih ds k
  | loop b ih => intro ds k; exact ih ds k
  | scope b ih => intro ds k; exact ih ds k
  | _ => intro ds k; simp [writesIn]
theorem asSl_elim {v : Value} {K : Option Addr → Nat → Prop} (h : asSl v K) : ∃ a l, v = .slice a l 0 ∧ K a l := by
  unfold asSl at h
  split at h
  · rename_i a l c
    cases hc : Nat.beq c 0 with
    | false => rw [hc] at h; exact h.elim
    | true => rw [hc] at h; rw [Nat.eq_of_beq_eq_true hc]; exact ⟨_, _, rfl, h⟩
  · exact h.elim
theorem asPtr_elim {v : Value} {K : Option Addr → Prop} (h : asPtr v K) : ∃ p, v = .pointer p ∧ K p := by
  unfold asPtr at h
  split at h
  · exact ⟨_, rfl, h⟩
  · exact h.elim
theorem asLike0_self {z v : Value} {K : Value → Prop} (h : asLike0 z v K) : K v := by
  unfold asLike0 at h
  split at h
  · replace h := asInt_elim h; obtain ⟨n, rfl, h⟩ := h; exact h
  · replace h := asBool_elim h; obtain ⟨b, rfl, h⟩ := h; exact h
  · replace h := asSl_elim h; obtain ⟨a, l, rfl, h⟩ := h; exact h
  · replace h := asPtr_elim h; obtain ⟨p, rfl, h⟩ := h; exact h
  · replace h := asMap_elim h; obtain ⟨m, rfl, h⟩ := h; exact h
  · exact h
theorem asLikes_self : ∀ {zs vs : List Value} {K : List Value → Prop}, asLikes zs vs K → K vs
  | [], [], K, h => h
  | z :: zs, v :: vs, K, h => asLikes_self (zs := zs) (K := fun l => K (v :: l)) (asLike0_self (K := fun u => asLikes zs vs fun l => K (u :: l)) h)
  | [], _ :: _, K, h => h.elim
  | _ :: _, [], K, h => h.elim
theorem asAgg_elim {v : Value} {K : List Value → Prop} (h : asAgg v K) : ∃ l, v = .agg ⟨l⟩ ∧ K l := by
  unfold asAgg at h
  split at h
  · exact ⟨_, rfl, h⟩
  · exact h.elim
theorem asLike_self {z v : Value} {K : Value → Prop} (h : asLike z v K) : K v := by
  unfold asLike at h
  split at h
  · replace h := asAgg_elim h
    obtain ⟨l, rfl, h⟩ := h
    exact asLikes_self h
  · exact asLike0_self h
theorem outOf_ok {zs : Sorts} {K : Fr → Prop} {xs : Fr} : ∀ (ws : List Nat) (acc : Fr), acc.length = xs.length → (∀ k, k ∉ ws → acc[k]? = xs[k]?) → outOf zs ws acc K xs → K xs
  | [], acc, hl, hs, h => by
    have : acc = xs := List.ext_getElem? fun k => hs k (by simp)
    subst this
    exact h
  | w :: ws, acc, hl, hs, h => by
    have h1 := asLike_self h
    refine outOf_ok ws _ (by simpa using hl) (fun k hk => ?_) h1
    by_cases e : k = w
    · subst e
      by_cases hlt : k < xs.length
      · rw [List.getElem?_set_self (by omega), List.getD_eq_getElem?_getD]
        simp [hlt]
      · rw [List.getElem?_eq_none (by simp; omega), List.getElem?_eq_none (by omega)]
    · rw [List.getElem?_set_ne (Ne.symm e)]
      exact hs k (by simp [e, hk])
theorem wpCode_ok : ∀ (c : Code) {Z : List Sorts} {xs : Fr} {H : Heap} {Q : X → Fr → Heap → Prop}, wpCode E c Z xs H Q →
    WA E c (ofL xs) H fun x T H' => ∃ xs', T = ofL xs' ∧ xs'.length = xs.length ∧ (∀ k, k ∉ writes c → xs'[k]? = xs[k]?) ∧ Q x xs' H' := by
  intro c
  induction c with
  | skip => intro Z xs H Q h; exact WA_skip ⟨xs, rfl, rfl, fun _ _ => rfl, h⟩
  | label l => intro Z xs H Q h; exact ⟨0, .normal, ⟨ofL xs, H⟩, rfl, xs, rfl, rfl, fun _ _ => rfl, h⟩
  | exit id => intro Z xs H Q h; exact WA_exit ⟨xs, rfl, rfl, fun _ _ => rfl, h⟩
  | ret => intro Z xs H Q h; exact WA_ret ⟨xs, rfl, rfl, fun _ _ => rfl, h⟩
  | scope b ih => intro Z xs H Q h; exact WA_scope (ih h)
  | region id ops d =>
    intro Z xs H Q h
    cases d with
    | false => exact WA_region (wpOps_ok h)
    | true =>
      obtain ⟨n, s, h1, h2⟩ := wpDraw_ok h
      exact ⟨n, .normal, s, by simp only [runCode, cond_true]; rw [h1], h2⟩
  | seq a b iha ihb =>
    intro Z xs H Q h
    refine WA_seq ((iha h).mono ?_)
    rintro x T H' ⟨xs', rfl, h1, h2, h3⟩
    have lift : ∀ xs'' : Fr, xs''.length = xs'.length → (∀ k, k ∉ writes b → xs''[k]? = xs'[k]?) → xs''.length = xs.length ∧ ∀ k, k ∉ writes (.seq a b) → xs''[k]? = xs[k]? := by
      intro xs'' g1 g2
      refine ⟨g1.trans h1, fun k hk => ?_⟩
      have : k ∉ writes a ∧ k ∉ writes b := by
        simp only [writes, writesIn] at hk
        rw [writesIn_iff] at hk
        exact ⟨fun e => hk (.inl e), fun e => hk (.inr e)⟩
      exact (g2 k this.2).trans (h2 k this.1)
    cases x with
    | normal =>
      simp only [XThen]
      refine (ihb h3).mono ?_
      rintro y T H' ⟨xs'', rfl, g1, g2, g3⟩
      exact ⟨xs'', rfl, (lift xs'' g1 g2).1, (lift xs'' g1 g2).2, g3⟩
    | exit id => exact ⟨xs', rfl, (lift xs' rfl fun _ _ => rfl).1, (lift xs' rfl fun _ _ => rfl).2, h3⟩
    | ret => exact ⟨xs', rfl, (lift xs' rfl fun _ _ => rfl).1, (lift xs' rfl fun _ _ => rfl).2, h3⟩
  | cond c a b iha ihb =>
    intro Z xs H Q h
    have goal : ∃ t, ev E (ofL xs) c = .bool t ∧ if t = true then wpCode E a Z xs H Q else wpCode E b (Z.drop (loopsN a)) xs H Q := by
      simp only [wpCode] at h
      rw [ev_ofL]
      split at h
      · rename_i t
        obtain ⟨v, h1, h2⟩ := asBool_elim h
        refine ⟨v, h1, ?_⟩
        have hs : xs.set t (.bool v) = xs := by
          by_cases hlt : t < xs.length
          · refine set_self ?_
            rw [List.getD_eq_getElem?_getD] at h1
            simp only [hlt, List.getElem?_eq_getElem, Option.getD_some] at h1 ⊢
            rw [h1]
          · exact List.set_eq_of_length_le (Nat.le_of_not_lt hlt)
        cases v with
        | true => rw [if_pos rfl]; simp only [cond_true, hs] at h2; exact h2
        | false => rw [if_neg (by simp)]; simp only [cond_false, hs] at h2; exact h2
      · obtain ⟨v, h1, h2⟩ := asBool_elim h
        refine ⟨v, h1, ?_⟩
        cases v with
        | true => rw [if_pos rfl]; exact h2
        | false => rw [if_neg (by simp)]; exact h2
    obtain ⟨t, h1, h2⟩ := goal
    refine WA_cond h1 ?_
    have sub : ∀ k, k ∉ writes (.cond c a b) → k ∉ writes a ∧ k ∉ writes b := by
      intro k hk
      simp only [writes, writesIn] at hk
      rw [writesIn_iff] at hk
      exact ⟨fun e => hk (.inl e), fun e => hk (.inr e)⟩
    cases t with
    | true =>
      rw [if_pos rfl] at h2 ⊢
      refine (iha h2).mono ?_
      rintro x T H' ⟨xs', rfl, g1, g2, g3⟩
      exact ⟨xs', rfl, g1, fun k hk => g2 k (sub k hk).1, g3⟩
    | false =>
      rw [if_neg (by simp)] at h2 ⊢
      refine (ihb h2).mono ?_
      rintro x T H' ⟨xs', rfl, g1, g2, g3⟩
      exact ⟨xs', rfl, g1, fun k hk => g2 k (sub k hk).2, g3⟩
  | block id b ih =>
    intro Z xs H Q h
    refine WA_block ((ih h).mono ?_)
    rintro x T H' ⟨xs', rfl, g1, g2, g3⟩
    cases x with
    | normal => exact ⟨xs', rfl, g1, g2, g3⟩
    | ret => exact ⟨xs', rfl, g1, g2, g3⟩
    | exit j =>
      simp only [XBlock]
      cases hb : Nat.beq j id with
      | true =>
        rw [if_pos (Nat.eq_of_beq_eq_true hb)]
        simp only [hb, cond_true] at g3
        exact ⟨xs', rfl, g1, g2, g3⟩
      | false =>
        rw [if_neg (Nat.ne_of_beq_eq_false hb)]
        simp only [hb, cond_false] at g3
        exact ⟨xs', rfl, g1, g2, g3⟩
  | loop b ih =>
    intro Z xs H Q h
    have h0 : LA E b xs H ((exitsIn b []).map fun x => (x, fun xs' H' => outOf (Z.headD []) (writes b) xs (fun xs'' => Q x xs'' H') xs')) := h
    refine WA.mono h0 ?_
    rintro x T H' ⟨xs', rfl, g1, g2, p, hp, rfl, g3⟩
    refine ⟨xs', rfl, g1, g2, ?_⟩
    simp only [List.mem_map] at hp
    obtain ⟨y, hy, rfl⟩ := hp
    exact outOf_ok (writes b) xs g1.symm (fun k hk => (g2 k hk).symm) g3
  | _ => intro Z xs H Q h; exact h.elim
theorem resOfL_ok {xs : Fr} {H : Heap} : ∀ {l : List ResultVar} {K : List Value → Prop}, resOfL E xs H l K → ∃ vs, resultsL E ⟨ofL xs, H⟩ l = some vs ∧ K vs
  | [], K, h => ⟨[], rfl, h⟩
  | .tmp t :: l, K, h => by
    obtain ⟨vs, h1, h2⟩ := resOfL_ok (l := l) h
    refine ⟨_, ?_, h2⟩
    simp only [resultsL, h1, Option.map_some, ofL_get, List.getD_eq_getElem?_getD]
  | .cell a t :: l, K, h => by
    obtain ⟨v, h1, h2⟩ := wpLoad_ok h
    obtain ⟨vs, h3, h4⟩ := resOfL_ok (l := l) h2
    refine ⟨_, ?_, h4⟩
    simp only [resultsL, h3, ofL_get, ← List.getD_eq_getElem?_getD, h1, Option.bind_some, Option.map_some]
theorem wpFn_ok {f : FuncId} {fn : Func} (ht : E.truth f = false) (hf : E.fn f = some fn) {args : List Value} {H : Heap} {R : Value → Heap → Prop} {Z : List Sorts} (h : wpFn E Z fn args H R) : CA E f args H R := by
  unfold wpFn at h
  split at h
  · rename_i c hc
    cases hb : Nat.ble args.length fn.ntmps with
    | false => rw [hb] at h; exact h.elim
    | true =>
      rw [hb] at h
      simp only [cond_true] at h
      refine CA_enter ht hf hc (initT_ofL (Nat.le_of_ble_eq_true hb)) ((wpCode_ok c h).mono ?_)
      rintro x T H' ⟨xs', rfl, g1, g2, g3⟩
      cases x with
      | normal => exact resOfL_ok g3
      | ret => exact resOfL_ok g3
      | exit id => exact g3.elim
  · exact h.elim
theorem CA_truth {f : FuncId} (ht : E.truth f = true) {H : Heap} {R : Value → Heap → Prop} (h : R (.bool true) H) : CA E f [] H R :=
  ⟨1, .bool true, H, by simp [sem, ht], h⟩
def outAll : List Nat → Fr → (Fr → Prop) → Prop
  | [], acc, K => K acc
  | w :: ws, acc, K => ∀ v, outAll ws (acc.set w v) K
theorem outAll_ok {K : Fr → Prop} {xs : Fr} : ∀ (ws : List Nat) (acc : Fr), acc.length = xs.length → (∀ k, k ∉ ws → acc[k]? = xs[k]?) → outAll ws acc K → K xs
  | [], acc, hl, hs, h => by
    have : acc = xs := List.ext_getElem? fun k => hs k (by simp)
    subst this
    exact h
  | w :: ws, acc, hl, hs, h => by
    refine outAll_ok ws _ (by simpa using hl) (fun k hk => ?_) (h (xs.getD w undef))
    by_cases e : k = w
    · subst e
      by_cases hlt : k < xs.length
      · rw [List.getElem?_set_self (by omega), List.getD_eq_getElem?_getD]
        simp [hlt]
      · rw [List.getElem?_eq_none (by simp; omega), List.getElem?_eq_none (by omega)]
    · rw [List.getElem?_set_ne (Ne.symm e)]
      exact hs k (by simp [e, hk])
def isX (x y : X) : Bool :=
  match x with
  | .normal => match y with
    | .normal => true
    | _ => false
  | .exit i => match y with
    | .exit j => Nat.beq i j
    | _ => false
  | .ret => match y with
    | .ret => true
    | _ => false
theorem isX_eq {x y : X} (h : isX x y = true) : x = y := by
  cases x <;> cases y <;> first
    | rfl
    | (cases h; done)
    | (rw [Nat.eq_of_beq_eq_true h])
def atEnd (x : X) (xs : Fr) (H : Heap) : List (X × (Fr → Heap → Prop)) → Prop
  | [] => False
  | p :: l => bif isX p.1 x then p.2 xs H else atEnd x xs H l
theorem atEnd_ok {x : X} {xs : Fr} {H : Heap} : ∀ {l : List (X × (Fr → Heap → Prop))}, atEnd x xs H l → ∃ p ∈ l, p.1 = x ∧ p.2 xs H
  | [], h => h.elim
  | p :: l, h => by
    simp only [atEnd] at h
    cases hb : isX p.1 x with
    | true => rw [hb] at h; exact ⟨p, by simp, isX_eq hb, h⟩
    | false =>
      rw [hb] at h
      obtain ⟨q, h1, h2⟩ := atEnd_ok h
      exact ⟨q, by simp [h1], h2⟩
def loopQ (P : Nat → Fr → Heap → Prop) (n : Nat) (Ks : List (X × (Fr → Heap → Prop))) (x : X) (xs : Fr) (H : Heap) : Prop :=
  match x with
  | .normal => ∃ m, m < n ∧ P m xs H
  | .exit id => atEnd (.exit id) xs H Ks
  | .ret => atEnd .ret xs H Ks
theorem LA_rule {b : Code} {xs : Fr} {Z : List Sorts} (P : Nat → Fr → Heap → Prop) {Ks : List (X × (Fr → Heap → Prop))}
    (hstep : ∀ n H, outAll (writes b) xs fun xs' => P n xs' H → wpCode E b Z xs' H (loopQ P n Ks)) (n : Nat) (H : Heap) (h : P n xs H) : LA E b xs H Ks := by
  have key : ∀ n (xs1 : Fr) (H : Heap), xs1.length = xs.length → (∀ k, k ∉ writes b → xs1[k]? = xs[k]?) → P n xs1 H →
      WA E (.loop b) (ofL xs1) H fun x T H' => ∃ xs', T = ofL xs' ∧ xs'.length = xs.length ∧ (∀ k, k ∉ writes b → xs'[k]? = xs[k]?) ∧ ∃ p ∈ Ks, p.1 = x ∧ p.2 xs' H' := by
    intro n
    induction n using Nat.strongRecOn with
    | _ n ih =>
      intro xs1 H hl hs hP
      have h1 := outAll_ok (writes b) xs hl.symm (fun k hk => (hs k hk).symm) (hstep n H) hP
      refine WA_loop ((wpCode_ok b h1).mono ?_)
      rintro x T H' ⟨xs', rfl, g1, g2, g3⟩
      have s1 : xs'.length = xs.length := g1.trans hl
      have s2 : ∀ k, k ∉ writes b → xs'[k]? = xs[k]? := fun k hk => (g2 k hk).trans (hs k hk)
      cases x with
      | normal =>
        obtain ⟨m, hm, hP'⟩ := g3
        exact ih m hm xs' H' s1 s2 hP'
      | exit id => exact ⟨xs', rfl, s1, s2, atEnd_ok g3⟩
      | ret => exact ⟨xs', rfl, s1, s2, atEnd_ok g3⟩
  exact key n xs H rfl (fun _ _ => rfl) h
end
end Go.AS
namespace Go.AS
open Go.RowKit
set_option linter.unusedVariables false
noncomputable section
def allOne (z : Value) (P : Value → Prop) : Prop :=
  match z with
  | .int k _ => ∀ n, P (.int k n)
  | .bool _ => ∀ b, P (.bool b)
  | .slice _ _ _ => ∀ a l, P (.slice a l 0)
  | .pointer _ => ∀ p, P (.pointer p)
  | .map _ => ∀ m, P (.map m)
  | _ => ∀ v, P v
def allCells : List Value → (List Value → Prop) → Prop
  | [], P => P []
  | z :: zs, P => allOne z fun v => allCells zs fun l => P (v :: l)
def allLike (z : Value) (P : Value → Prop) : Prop :=
  match z with
  | .agg cs => allCells cs.toList fun l => P (.agg ⟨l⟩)
  | z => allOne z P
def findS : Sorts → Nat → Option Value
  | [], _ => none
  | (k, v) :: l, w => bif Nat.beq k w then some v else findS l w
def cutOut (Z : Sorts) (xs : Fr) : List Nat → List Value → (List Value → Prop) → Prop
  | [], vs, K => K vs
  | w :: ws, vs, K => match findS Z w with
    | none => cutOut Z xs ws vs K
    | some z => asLike z (xs.getD w undef) fun v => cutOut Z xs ws (vs ++ [v]) K
def cutIn (Z : Sorts) (ys : Fr) : List Nat → Fr → List Value → (List Value → Fr → Prop) → Prop
  | [], acc, vs, K => K vs acc
  | w :: ws, acc, vs, K => match findS Z w with
    | none => cutIn Z ys ws (acc.set w (ys.getD w undef)) vs K
    | some z => allLike z fun v => cutIn Z ys ws (acc.set w v) (vs ++ [v]) K
def seqsN : Code → Nat
  | .seq a b => seqsN a + seqsN b + 1
  | .cond _ a b => seqsN a + seqsN b
  | .block _ b => seqsN b
  | .scope b => seqsN b
  | _ => 0
abbrev Cuts := List (Option Sorts)
def wpCodeC (E : Env) : Code → Cuts → List Sorts → Fr → Heap → (X → Fr → Heap → Prop) → Prop
  | .skip, _, _, xs, H, Q => Q .normal xs H
  | .label _, _, _, xs, H, Q => Q .normal xs H
  | .region _ ops d, _, _, xs, H, Q => bif d then wpDraw E ops xs H (Q .normal) else wpOps E ops ops.toList xs H (Q .normal)
  | .seq a b, C, Z, xs, H, Q => match C.headD none with
    | none => wpCodeC E a C.tail Z xs H fun x xs H => match x with
      | .normal => wpCodeC E b (C.tail.drop (seqsN a)) (Z.drop (loopsN a)) xs H Q
      | .exit id => Q (.exit id) xs H
      | .ret => Q .ret xs H
    | some S => ∃ J : List Value → Heap → Prop, (wpCodeC E a C.tail Z xs H fun x xs' H' => match x with
      | .normal => cutOut S xs' (writes a) [] fun vs => J vs H'
      | .exit id => Q (.exit id) xs' H'
      | .ret => Q .ret xs' H') ∧
      ∀ (ys : Fr) (H' : Heap), cutIn S ys (writes a) xs [] fun vs xs'' => J vs H' → wpCodeC E b (C.tail.drop (seqsN a)) (Z.drop (loopsN a)) xs'' H' Q
  | .cond c a b, C, Z, xs, H, Q => match c with
    | .tmp t => asBool (xs.getD t undef) fun v => cond v (wpCodeC E a C Z (xs.set t (.bool true)) H Q) (wpCodeC E b (C.drop (seqsN a)) (Z.drop (loopsN a)) (xs.set t (.bool false)) H Q)
    | c => asBool (evL E xs c) fun v => cond v (wpCodeC E a C Z xs H Q) (wpCodeC E b (C.drop (seqsN a)) (Z.drop (loopsN a)) xs H Q)
  | .block id b, C, Z, xs, H, Q => wpCodeC E b C Z xs H fun x xs H => match x with
    | .normal => Q .normal xs H
    | .exit j => bif Nat.beq j id then Q .normal xs H else Q (.exit j) xs H
    | .ret => Q .ret xs H
  | .loop b, _, Z, xs, H, Q => LA E b xs H ((exitsIn b []).map fun x => (x, fun xs' H' => outOf (Z.headD []) (writes b) xs (fun xs'' => Q x xs'' H') xs'))
  | .exit id, _, _, xs, H, Q => Q (.exit id) xs H
  | .ret, _, _, xs, H, Q => Q .ret xs H
  | .scope b, C, Z, xs, H, Q => wpCodeC E b C Z xs H Q
  | _, _, _, _, _, _ => False
def wpFnC (E : Env) (C : Cuts) (Z : List Sorts) (fn : Func) (args : List Value) (H : Heap) (R : Value → Heap → Prop) : Prop :=
  match fn.body with
  | some c => bif Nat.ble args.length fn.ntmps then wpCodeC E c C Z (fr0 fn.ntmps args) H (backL E fn R) else False
  | none => False
end
section
variable {E : Env}
theorem asLike0_all {z v : Value} {K P : Value → Prop} (h : asLike0 z v K) (k : allOne z P) : P v := by
  unfold asLike0 at h
  unfold allOne at k
  split at h
  · obtain ⟨n, rfl, _⟩ := asInt_elim h; exact k n
  · obtain ⟨n, rfl, _⟩ := asBool_elim h; exact k n
  · obtain ⟨a, l, rfl, _⟩ := asSl_elim h; exact k a l
  · obtain ⟨n, rfl, _⟩ := asPtr_elim h; exact k n
  · obtain ⟨n, rfl, _⟩ := asMap_elim h; exact k n
  · rename_i h1 h2 h3 h4 h5
    split at k
    · exact (h1 _ _ rfl).elim
    · exact (h2 _ rfl).elim
    · exact (h3 _ _ _ rfl).elim
    · exact (h4 _ rfl).elim
    · exact (h5 _ rfl).elim
    · exact k v
theorem asLikes_all : ∀ {zs vs : List Value} {K P : List Value → Prop}, asLikes zs vs K → allCells zs P → P vs
  | [], [], K, P, h, k => k
  | [], _ :: _, K, P, h, k => h.elim
  | _ :: _, [], K, P, h, k => h.elim
  | z :: zs, v :: vs, K, P, h, k => by
    have k1 : allCells zs fun l => P (v :: l) := asLike0_all h k
    exact asLikes_all (K := fun l => K (v :: l)) (P := fun l => P (v :: l)) (asLike0_self h) k1
theorem asLike_all {z v : Value} {K P : Value → Prop} (h : asLike z v K) (k : allLike z P) : P v := by
  unfold asLike at h
  unfold allLike at k
  split at h
  · obtain ⟨l, rfl, h⟩ := asAgg_elim h
    exact asLikes_all h k
  · rename_i hz
    split at k
    · exact (hz _ rfl).elim
    · exact asLike0_all h k
theorem cut_ok {Z : Sorts} {xs : Fr} {J : List Value → Prop} {B : Fr → Prop} : ∀ (ws : List Nat) (acc : Fr) (vs : List Value), acc.length = xs.length → (∀ k, k ∉ ws → acc[k]? = xs[k]?) →
    cutOut Z xs ws vs J → cutIn Z xs ws acc vs (fun vs xs'' => J vs → B xs'') → B xs
  | [], acc, vs, hl, hs, h1, h2 => by
    have : acc = xs := List.ext_getElem? fun k => hs k (by simp)
    subst this
    exact h2 h1
  | w :: ws, acc, vs, hl, hs, h1, h2 => by
    have next : ∀ k, k ∉ ws → (acc.set w (xs.getD w undef))[k]? = xs[k]? := by
      intro k hk
      by_cases e : k = w
      · subst e
        by_cases hlt : k < xs.length
        · rw [List.getElem?_set_self (by omega), List.getD_eq_getElem?_getD]
          simp [hlt]
        · rw [List.getElem?_eq_none (by simp; omega), List.getElem?_eq_none (by omega)]
      · rw [List.getElem?_set_ne (Ne.symm e)]
        exact hs k (by simp [e, hk])
    simp only [cutOut] at h1
    simp only [cutIn] at h2
    cases hf : findS Z w with
    | none =>
      rw [hf] at h1 h2
      exact cut_ok ws _ vs (by simpa using hl) next h1 h2
    | some z =>
      rw [hf] at h1 h2
      have k2 := asLike_all h1 h2
      exact cut_ok ws _ _ (by simpa using hl) next (asLike_self h1) k2
theorem wpCodeC_ok : ∀ (c : Code) {C : Cuts} {Z : List Sorts} {xs : Fr} {H : Heap} {Q : X → Fr → Heap → Prop}, wpCodeC E c C Z xs H Q →
    WA E c (ofL xs) H fun x T H' => ∃ xs', T = ofL xs' ∧ xs'.length = xs.length ∧ (∀ k, k ∉ writes c → xs'[k]? = xs[k]?) ∧ Q x xs' H' := by
  intro c
  induction c with
  | skip => intro C Z xs H Q h; exact WA_skip ⟨xs, rfl, rfl, fun _ _ => rfl, h⟩
  | label l => intro C Z xs H Q h; exact ⟨0, .normal, ⟨ofL xs, H⟩, rfl, xs, rfl, rfl, fun _ _ => rfl, h⟩
  | exit id => intro C Z xs H Q h; exact WA_exit ⟨xs, rfl, rfl, fun _ _ => rfl, h⟩
  | ret => intro C Z xs H Q h; exact WA_ret ⟨xs, rfl, rfl, fun _ _ => rfl, h⟩
  | scope b ih => intro C Z xs H Q h; exact WA_scope (ih h)
  | region id ops d =>
    intro C Z xs H Q h
    cases d with
    | false => exact WA_region (wpOps_ok h)
    | true =>
      obtain ⟨n, s, h1, h2⟩ := wpDraw_ok h
      exact ⟨n, .normal, s, by simp only [runCode, cond_true]; rw [h1], h2⟩
  | seq a b iha ihb =>
    intro C Z xs H Q h
    have goal : ∃ (Z' : List Sorts) (C' : Cuts), WA E a (ofL xs) H fun x T H' => ∃ xs', T = ofL xs' ∧ xs'.length = xs.length ∧ (∀ k, k ∉ writes a → xs'[k]? = xs[k]?) ∧
        (match x with
        | .normal => wpCodeC E b C' Z' xs' H' Q
        | .exit id => Q (.exit id) xs' H'
        | .ret => Q .ret xs' H') := by
      simp only [wpCodeC] at h
      split at h
      · exact ⟨_, _, iha h⟩
      · obtain ⟨J, h1, h2⟩ := h
        refine ⟨Z.drop (loopsN a), C.tail.drop (seqsN a), (iha h1).mono ?_⟩
        rintro x T H' ⟨xs', rfl, g1, g2, g3⟩
        refine ⟨xs', rfl, g1, g2, ?_⟩
        cases x with
        | normal => exact cut_ok (writes a) xs [] g1.symm (fun k hk => (g2 k hk).symm) g3 (h2 xs' H')
        | exit id => exact g3
        | ret => exact g3
    obtain ⟨Z', C', h⟩ := goal
    refine WA_seq (h.mono ?_)
    rintro x T H' ⟨xs', rfl, h1, h2, h3⟩
    have lift : ∀ xs'' : Fr, xs''.length = xs'.length → (∀ k, k ∉ writes b → xs''[k]? = xs'[k]?) → xs''.length = xs.length ∧ ∀ k, k ∉ writes (.seq a b) → xs''[k]? = xs[k]? := by
      intro xs'' g1 g2
      refine ⟨g1.trans h1, fun k hk => ?_⟩
      have : k ∉ writes a ∧ k ∉ writes b := by
        simp only [writes, writesIn] at hk
        rw [writesIn_iff] at hk
        exact ⟨fun e => hk (.inl e), fun e => hk (.inr e)⟩
      exact (g2 k this.2).trans (h2 k this.1)
    cases x with
    | normal =>
      simp only [XThen]
      refine (ihb h3).mono ?_
      rintro y T H' ⟨xs'', rfl, g1, g2, g3⟩
      exact ⟨xs'', rfl, (lift xs'' g1 g2).1, (lift xs'' g1 g2).2, g3⟩
    | exit id => exact ⟨xs', rfl, (lift xs' rfl fun _ _ => rfl).1, (lift xs' rfl fun _ _ => rfl).2, h3⟩
    | ret => exact ⟨xs', rfl, (lift xs' rfl fun _ _ => rfl).1, (lift xs' rfl fun _ _ => rfl).2, h3⟩
  | cond c a b iha ihb =>
    intro C Z xs H Q h
    have goal : ∃ t, ev E (ofL xs) c = .bool t ∧ if t = true then wpCodeC E a C Z xs H Q else wpCodeC E b (C.drop (seqsN a)) (Z.drop (loopsN a)) xs H Q := by
      simp only [wpCodeC] at h
      rw [ev_ofL]
      split at h
      · rename_i t
        obtain ⟨v, h1, h2⟩ := asBool_elim h
        refine ⟨v, h1, ?_⟩
        have hs : xs.set t (.bool v) = xs := by
          by_cases hlt : t < xs.length
          · refine set_self ?_
            rw [List.getD_eq_getElem?_getD] at h1
            simp only [hlt, List.getElem?_eq_getElem, Option.getD_some] at h1 ⊢
            rw [h1]
          · exact List.set_eq_of_length_le (Nat.le_of_not_lt hlt)
        cases v with
        | true => rw [if_pos rfl]; simp only [cond_true, hs] at h2; exact h2
        | false => rw [if_neg (by simp)]; simp only [cond_false, hs] at h2; exact h2
      · obtain ⟨v, h1, h2⟩ := asBool_elim h
        refine ⟨v, h1, ?_⟩
        cases v with
        | true => rw [if_pos rfl]; exact h2
        | false => rw [if_neg (by simp)]; exact h2
    obtain ⟨t, h1, h2⟩ := goal
    refine WA_cond h1 ?_
    have sub : ∀ k, k ∉ writes (.cond c a b) → k ∉ writes a ∧ k ∉ writes b := by
      intro k hk
      simp only [writes, writesIn] at hk
      rw [writesIn_iff] at hk
      exact ⟨fun e => hk (.inl e), fun e => hk (.inr e)⟩
    cases t with
    | true =>
      rw [if_pos rfl] at h2 ⊢
      refine (iha h2).mono ?_
      rintro x T H' ⟨xs', rfl, g1, g2, g3⟩
      exact ⟨xs', rfl, g1, fun k hk => g2 k (sub k hk).1, g3⟩
    | false =>
      rw [if_neg (by simp)] at h2 ⊢
      refine (ihb h2).mono ?_
      rintro x T H' ⟨xs', rfl, g1, g2, g3⟩
      exact ⟨xs', rfl, g1, fun k hk => g2 k (sub k hk).2, g3⟩
  | block id b ih =>
    intro C Z xs H Q h
    refine WA_block ((ih h).mono ?_)
    rintro x T H' ⟨xs', rfl, g1, g2, g3⟩
    cases x with
    | normal => exact ⟨xs', rfl, g1, g2, g3⟩
    | ret => exact ⟨xs', rfl, g1, g2, g3⟩
    | exit j =>
      simp only [XBlock]
      cases hb : Nat.beq j id with
      | true =>
        rw [if_pos (Nat.eq_of_beq_eq_true hb)]
        simp only [hb, cond_true] at g3
        exact ⟨xs', rfl, g1, g2, g3⟩
      | false =>
        rw [if_neg (Nat.ne_of_beq_eq_false hb)]
        simp only [hb, cond_false] at g3
        exact ⟨xs', rfl, g1, g2, g3⟩
  | loop b ih =>
    intro C Z xs H Q h
    have h0 : LA E b xs H ((exitsIn b []).map fun x => (x, fun xs' H' => outOf (Z.headD []) (writes b) xs (fun xs'' => Q x xs'' H') xs')) := h
    refine WA.mono h0 ?_
    rintro x T H' ⟨xs', rfl, g1, g2, p, hp, rfl, g3⟩
    refine ⟨xs', rfl, g1, g2, ?_⟩
    simp only [List.mem_map] at hp
    obtain ⟨y, hy, rfl⟩ := hp
    exact outOf_ok (writes b) xs g1.symm (fun k hk => (g2 k hk).symm) g3
  | _ => intro C Z xs H Q h; exact h.elim
theorem wpFnC_ok {f : FuncId} {fn : Func} (ht : E.truth f = false) (hf : E.fn f = some fn) {args : List Value} {H : Heap} {R : Value → Heap → Prop} {C : Cuts} {Z : List Sorts} (h : wpFnC E C Z fn args H R) : CA E f args H R := by
  unfold wpFnC at h
  split at h
  · rename_i c hc
    cases hb : Nat.ble args.length fn.ntmps with
    | false => rw [hb] at h; exact h.elim
    | true =>
      rw [hb] at h
      simp only [cond_true] at h
      refine CA_enter ht hf hc (initT_ofL (Nat.le_of_ble_eq_true hb)) ((wpCodeC_ok c h).mono ?_)
      rintro x T H' ⟨xs', rfl, g1, g2, g3⟩
      cases x with
      | normal => exact resOfL_ok g3
      | ret => exact resOfL_ok g3
      | exit id => exact g3.elim
  · exact h.elim
theorem LA_ruleC {b : Code} {xs : Fr} {C : Cuts} {Z : List Sorts} (P : Nat → Fr → Heap → Prop) {Ks : List (X × (Fr → Heap → Prop))}
    (hstep : ∀ n H, outAll (writes b) xs fun xs' => P n xs' H → wpCodeC E b C Z xs' H (loopQ P n Ks)) (n : Nat) (H : Heap) (h : P n xs H) : LA E b xs H Ks := by
  have key : ∀ n (xs1 : Fr) (H : Heap), xs1.length = xs.length → (∀ k, k ∉ writes b → xs1[k]? = xs[k]?) → P n xs1 H →
      WA E (.loop b) (ofL xs1) H fun x T H' => ∃ xs', T = ofL xs' ∧ xs'.length = xs.length ∧ (∀ k, k ∉ writes b → xs'[k]? = xs[k]?) ∧ ∃ p ∈ Ks, p.1 = x ∧ p.2 xs' H' := by
    intro n
    induction n using Nat.strongRecOn with
    | _ n ih =>
      intro xs1 H hl hs hP
      have h1 := outAll_ok (writes b) xs hl.symm (fun k hk => (hs k hk).symm) (hstep n H) hP
      refine WA_loop ((wpCodeC_ok b h1).mono ?_)
      rintro x T H' ⟨xs', rfl, g1, g2, g3⟩
      have s1 : xs'.length = xs.length := g1.trans hl
      have s2 : ∀ k, k ∉ writes b → xs'[k]? = xs[k]? := fun k hk => (g2 k hk).trans (hs k hk)
      cases x with
      | normal =>
        obtain ⟨m, hm, hP'⟩ := g3
        exact ih m hm xs' H' s1 s2 hP'
      | exit id => exact ⟨xs', rfl, s1, s2, atEnd_ok g3⟩
      | ret => exact ⟨xs', rfl, s1, s2, atEnd_ok g3⟩
  exact key n xs H rfl (fun _ _ => rfl) h
end
end Go.AS
namespace Go.Proofs.YtjggeoghlicmdaaGreat
open Go Go.AS Go.RowKit
set_option linter.unusedVariables false
set_option maxRecDepth 100000
set_option maxHeartbeats 2000000
theorem vc_smem_Mem_Bad (x0 : Option Addr) (H : Heap) (R : Value → Heap → Prop) :
    (
 AS.asAddr (.pointer x0) fun i1 i2 =>
 ∃ n3, H.cell i1 (i2 + 4) = some (.int .i64 n3) ∧
 R (.int .i64 n3) H) →
    CA en F.smem_Mem_Bad [(.pointer x0)] H R := by
  intro h
  refine wpFn_ok (Z := []) (fn := Go.Proofs.Tryz.f17) ?_ ?_ ?_
  · kernel_rfl
  · kernel_rfl
  · apply turnInto h
    kernel_rfl
theorem vc_smem_Mem_Load (x0 : Option Addr) (x1 : Int) (x2 : Int) (H : Heap) (R : Value → Heap → Prop) :
    (
 CA en F.smem_Mem_access [(.pointer x0), (.int .i64 x1), (.int .i64 x2), (.bool true), (.func (.func F.smem_Mem_Load_1) #[] #[])] H fun v1 H2 =>
 ∃ n3, ∃ b4, v1 = (.tuple #[(.int .u64 n3), (.bool b4)]) ∧
 R (.tuple #[(.int .u64 n3), (.bool b4)]) H2) →
    CA en F.smem_Mem_Load [(.pointer x0), (.int .i64 x1), (.int .i64 x2)] H R := by
  intro h
  refine wpFn_ok (Z := []) (fn := Go.Proofs.Tryz.f22) ?_ ?_ ?_
  · kernel_rfl
  · kernel_rfl
  · apply turnInto h
    kernel_rfl
theorem vc_smem_Mem_Store (x0 : Option Addr) (x1 : Int) (x2 : Int) (x3 : Int) (H : Heap) (R : Value → Heap → Prop) :
    (
 CA en F.smem_Mem_Mask [(.pointer x0), (.int .i64 x1), (.int .i64 x2), (.int .u64 18446744073709551615), (.int .u64 x3)] H fun v1 H2 =>
 ∃ b3, v1 = (.bool b3) ∧
 R (.bool b3) H2) →
    CA en F.smem_Mem_Store [(.pointer x0), (.int .i64 x1), (.int .i64 x2), (.int .u64 x3)] H R := by
  intro h
  refine wpFn_ok (Z := []) (fn := Go.Proofs.Tryz.f23) ?_ ?_ ?_
  · kernel_rfl
  · kernel_rfl
  · apply turnInto h
    kernel_rfl
theorem vc_smem_New (x0 : Int) (H : Heap) (R : Value → Heap → Prop) :
    (
 nwH H (.map [] 0) fun i1 H2 =>
 nwH H2 (.cells true 0 [(.map (some i1)), (.int .i64 0), (.int .i64 (if (if 65536 < x0 then 65536 else x0) > 0 then (if 65536 < x0 then 65536 else x0) else 0)), (.int .i64 0), (.int .i64 0)]) fun i3 H4 =>
 R (.pointer (some ⟨i3, 0, none⟩)) H4) →
    CA en F.smem_New [(.int .i64 x0)] H R := by
  intro h
  refine wpFn_ok (Z := []) (fn := Go.Proofs.Tryz.f57) ?_ ?_ ?_
  · kernel_rfl
  · kernel_rfl
  · apply turnInto h
    kernel_rfl
theorem vc_smem_Mem_access (x0 : Option Addr) (x1 : Int) (x2 : Int) (x3 : Bool) (x4 : Value) (H : Heap) (R : Value → Heap → Prop) :
    (
 AS.asAddr (.pointer x0) fun i1 i2 =>
 ∃ n3, H.cell i1 (i2 + 3) = some (.int .i64 n3) ∧
 AS.asAddr (.pointer x0) fun i4 i5 =>
 stc H i4 (i5 + 3) [(.int .i64 (IntKind.i64.wrap (n3 + 1)))] fun H6 =>
 AS.asAddr (.pointer x0) fun i7 i8 =>
 ∃ m9, H6.cell i7 i8 = some (.map m9) ∧
 ∃ r10, AS.mapGet H6 (.int .i64) m9 (.int .i64 x1) = some r10 ∧
 ∃ a11 i12, got r10 (.slice none 0 0) (.slice a11 i12 0) ∧
 bif (!x3) then (
 AS.asAddr (.pointer x0) fun i13 i14 =>
 ∃ n15, H6.cell i13 (i14 + 4) = some (.int .i64 n15) ∧
 AS.asAddr (.pointer x0) fun i16 i17 =>
 stc H6 i16 (i17 + 4) [(.int .i64 (IntKind.i64.wrap (n15 + 1)))] fun H18 =>
 R (.tuple #[(.int .u64 0), (.bool false)]) H18)
 else (
 bif (decide (x2 < 0)) then (
 AS.asAddr (.pointer x0) fun i19 i20 =>
 ∃ n21, H6.cell i19 (i20 + 4) = some (.int .i64 n21) ∧
 AS.asAddr (.pointer x0) fun i22 i23 =>
 stc H6 i22 (i23 + 4) [(.int .i64 (IntKind.i64.wrap (n21 + 1)))] fun H24 =>
 R (.tuple #[(.int .u64 0), (.bool false)]) H24)
 else (
 bif (decide (x2 ≥ ((i12 : Nat) : Int))) then (
 AS.asAddr (.pointer x0) fun i25 i26 =>
 ∃ n27, H6.cell i25 (i26 + 4) = some (.int .i64 n27) ∧
 AS.asAddr (.pointer x0) fun i28 i29 =>
 stc H6 i28 (i29 + 4) [(.int .i64 (IntKind.i64.wrap (n27 + 1)))] fun H30 =>
 R (.tuple #[(.int .u64 0), (.bool false)]) H30)
 else (
 inB x2 i12 ∧
 asRow a11 fun i31 i32 =>
 ∃ n33, H6.cell i31 (i32 + (x2.toNat * 1)) = some (.int .u64 n33) ∧
 AS.asFn x4 fun f34 l35 l36 =>
 (∃ fn, en.fn f34 = some fn) ∧
 CA en f34 (l35 ++ [(.int .u64 n33)] ++ l36) H6 fun v37 H38 =>
 ∃ n39, v37 = (.int .u64 n39) ∧
 inB x2 i12 ∧
 asRow a11 fun i40 i41 =>
 stc H38 i40 (i41 + (x2.toNat * 1)) [(.int .u64 n39)] fun H42 =>
 R (.tuple #[(.int .u64 n33), (.bool true)]) H42)))) →
    CA en F.smem_Mem_access [(.pointer x0), (.int .i64 x1), (.int .i64 x2), (.bool x3), x4] H R := by
  intro h
  refine wpFn_ok (Z := []) (fn := Go.Proofs.Tryz.f64) ?_ ?_ ?_
  · kernel_rfl
  · kernel_rfl
  · apply turnInto h
    kernel_rfl
theorem vc_smem_Mem_Load_1 (x0 : Int) (H : Heap) (R : Value → Heap → Prop) :
    (
 R (.int .u64 x0) H) →
    CA en F.smem_Mem_Load_1 [(.int .u64 x0)] H R := by
  intro h
  refine wpFn_ok (Z := []) (fn := Go.Proofs.Tryz.f65) ?_ ?_ ?_
  · kernel_rfl
  · kernel_rfl
  · apply turnInto h
    kernel_rfl
theorem vc_smem_Mem_Mask (x0 : Option Addr) (x1 : Int) (x2 : Int) (x3 : Int) (x4 : Int) (H : Heap) (R : Value → Heap → Prop) :
    (
 CA en F.smem_Mem_Swap [(.pointer x0), (.int .i64 x1), (.int .i64 x2), (.int .u64 x3), (.int .u64 x4)] H fun v1 H2 =>
 ∃ n3, ∃ b4, v1 = (.tuple #[(.int .u64 n3), (.bool b4)]) ∧
 R (.bool b4) H2) →
    CA en F.smem_Mem_Mask [(.pointer x0), (.int .i64 x1), (.int .i64 x2), (.int .u64 x3), (.int .u64 x4)] H R := by
  intro h
  refine wpFn_ok (Z := []) (fn := Go.Proofs.Tryz.f66) ?_ ?_ ?_
  · kernel_rfl
  · kernel_rfl
  · apply turnInto h
    kernel_rfl
theorem vc_smem_Mem_Make (x0 : Option Addr) (x1 : Int) (H : Heap) (R : Value → Heap → Prop) :
    (
 bif (decide (x1 < 1)) then (
 R (.tuple #[(.int .i64 0), (.int .i64 1)]) H)
 else (
 bif (decide (x1 > 65536)) then (
 R (.tuple #[(.int .i64 0), (.int .i64 1)]) H)
 else (
 AS.asAddr (.pointer x0) fun i1 i2 =>
 ∃ n3, H.cell i1 (i2 + 2) = some (.int .i64 n3) ∧
 bif (decide (x1 > n3)) then (
 R (.tuple #[(.int .i64 0), (.int .i64 5)]) H)
 else (
 AS.asAddr (.pointer x0) fun i4 i5 =>
 ∃ n6, H.cell i4 (i5 + 1) = some (.int .i64 n6) ∧
 AS.asAddr (.pointer x0) fun i7 i8 =>
 stc H i7 (i8 + 1) [(.int .i64 (IntKind.i64.wrap (n6 + 1)))] fun H9 =>
 AS.asAddr (.pointer x0) fun i10 i11 =>
 ∃ n12, H9.cell i10 (i11 + 2) = some (.int .i64 n12) ∧
 AS.asAddr (.pointer x0) fun i13 i14 =>
 stc H9 i13 (i14 + 2) [(.int .i64 (IntKind.i64.wrap (n12 - x1)))] fun H15 =>
 AS.asAddr (.pointer x0) fun i16 i17 =>
 ∃ m18, (H15.bump 11).cell i16 i17 = some (.map m18) ∧
 AS.asAddr (.pointer x0) fun i19 i20 =>
 ∃ n21, (H15.bump 11).cell i19 (i20 + 1) = some (.int .i64 n21) ∧
 okLen 8 x1 x1 ∧
 nwH (H15.bump 11) (.cells true 1 (reps x1.toNat [(.int .u64 0)])) fun i22 H23 =>
 upM H23 (.int .i64) m18 (.int .i64 n21) (.slice (some ⟨i22, 0, none⟩) x1.toNat 0) fun H24 =>
 (
 AS.asAddr (.pointer x0) fun i29 i30 =>
 ∃ n31, H24.cell i29 (i30 + 1) = some (.int .i64 n31) ∧
 R (.tuple #[(.int .i64 n31), (.int .i64 0)]) H24) ∧
 ((∃ n26, (H15.bump 11).cell i19 (i20 + 1) = some (.int .i64 n26) ∧
 n21 = n26) ∧ (∃ n25, H23.cell i19 (i20 + 1) = some (.int .i64 n25) ∧
 n21 = n25) ∧ True) ∧
 ((∃ m28, (H15.bump 11).cell i16 i17 = some (.map m28) ∧
 m18 = m28) ∧ (∃ m27, H23.cell i16 i17 = some (.map m27) ∧
 m18 = m27) ∧ True) ∧
 True)))) →
    CA en F.smem_Mem_Make [(.pointer x0), (.int .i64 x1)] H R := by
  intro h
  refine wpFn_ok (Z := []) (fn := Go.Proofs.Tryz.f84) ?_ ?_ ?_
  · kernel_rfl
  · kernel_rfl
  · apply turnInto h
    kernel_rfl
theorem vc_smem_Mem_Swap (x0 : Option Addr) (x1 : Int) (x2 : Int) (x3 : Int) (x4 : Int) (H : Heap) (R : Value → Heap → Prop) :
    (
 nwH H (.cells true 0 [(.int .u64 x3)]) fun i1 H2 =>
 nwH H2 (.cells true 0 [(.int .u64 x4)]) fun i3 H4 =>
 CA en F.smem_Mem_access [(.pointer x0), (.int .i64 x1), (.int .i64 x2), (.bool true), (.func (.func F.smem_Mem_Swap_1) #[] #[(.pointer (some ⟨i1, 0, none⟩)), (.pointer (some ⟨i3, 0, none⟩))])] H4 fun v5 H6 =>
 ∃ n7, ∃ b8, v5 = (.tuple #[(.int .u64 n7), (.bool b8)]) ∧
 R (.tuple #[(.int .u64 n7), (.bool b8)]) H6) →
    CA en F.smem_Mem_Swap [(.pointer x0), (.int .i64 x1), (.int .i64 x2), (.int .u64 x3), (.int .u64 x4)] H R := by
  intro h
  refine wpFn_ok (Z := []) (fn := Go.Proofs.Tryz.f115) ?_ ?_ ?_
  · kernel_rfl
  · kernel_rfl
  · apply turnInto h
    kernel_rfl
theorem vc_smem_Mem_Free (x0 : Option Addr) (x1 : Int) (H : Heap) (R : Value → Heap → Prop) :
    (
 AS.asAddr (.pointer x0) fun i1 i2 =>
 ∃ m3, H.cell i1 i2 = some (.map m3) ∧
 ∃ r4, AS.mapGet H (.int .i64) m3 (.int .i64 x1) = some r4 ∧
 ∃ a5 i6, got r4 (.slice none 0 0) (.slice a5 i6 0) ∧
 AS.asAddr (.pointer x0) fun i7 i8 =>
 ∃ n9, H.cell i7 (i8 + 2) = some (.int .i64 n9) ∧
 AS.asAddr (.pointer x0) fun i10 i11 =>
 stc H i10 (i11 + 2) [(.int .i64 (IntKind.i64.wrap (n9 + ((i6 : Nat) : Int))))] fun H12 =>
 AS.asAddr (.pointer x0) fun i13 i14 =>
 ∃ m15, H12.cell i13 i14 = some (.map m15) ∧
 dlM H12 (.int .i64) m15 (.int .i64 x1) fun H16 =>
 R (.bool r4.isSome) H16) →
    CA en F.smem_Mem_Free [(.pointer x0), (.int .i64 x1)] H R := by
  intro h
  refine wpFn_ok (Z := []) (fn := Go.Proofs.Tryz.f118) ?_ ?_ ?_
  · kernel_rfl
  · kernel_rfl
  · apply turnInto h
    kernel_rfl
theorem vc_smem_Mem_Swap_1 (x0 : Int) (c0 : Option Addr) (c1 : Option Addr) (H : Heap) (R : Value → Heap → Prop) :
    (
 AS.asAddr (.pointer c0) fun i1 i2 =>
 ∃ n3, H.cell i1 i2 = some (.int .u64 n3) ∧
 AS.asAddr (.pointer c1) fun i4 i5 =>
 ∃ n6, H.cell i4 i5 = some (.int .u64 n6) ∧
 CA en F.smem_under [(.int .u64 x0), (.int .u64 n3), (.int .u64 n6)] H fun v7 H8 =>
 ∃ n9, v7 = (.int .u64 n9) ∧
 R (.int .u64 n9) H8) →
    CA en F.smem_Mem_Swap_1 [(.int .u64 x0), (.pointer c0), (.pointer c1)] H R := by
  intro h
  refine wpFn_ok (Z := []) (fn := Go.Proofs.Tryz.f167) ?_ ?_ ?_
  · kernel_rfl
  · kernel_rfl
  · apply turnInto h
    kernel_rfl
theorem vc_smem_under (x0 : Int) (x1 : Int) (x2 : Int) (H : Heap) (R : Value → Heap → Prop) :
    (
 R (.int .u64 (IntKind.u64.wrap ((BitVec.ofInt 64 (IntKind.u64.wrap ((BitVec.ofInt 64 x0 &&& ~~~(BitVec.ofInt 64 x1)).toNat : Int)) ||| (BitVec.ofInt 64 (IntKind.u64.wrap ((BitVec.ofInt 64 x2 &&& (BitVec.ofInt 64 x1)).toNat : Int)))).toNat : Int))) H) →
    CA en F.smem_under [(.int .u64 x0), (.int .u64 x1), (.int .u64 x2)] H R := by
  intro h
  refine wpFn_ok (Z := []) (fn := Go.Proofs.Tryz.f168) ?_ ?_ ?_
  · kernel_rfl
  · kernel_rfl
  · apply turnInto h
    kernel_rfl
theorem vc_smem_Mem_Fetch (x0 : Option Addr) (x1 : Int) (x2 : Int) (x3 : Int) (x4 : Int) (x5 : Int) (H : Heap) (R : Value → Heap → Prop) :
    (
 nwH H (.cells true 0 [(.int .i64 x3)]) fun i1 H2 =>
 nwH H2 (.cells true 0 [(.int .u64 x4)]) fun i3 H4 =>
 nwH H4 (.cells true 0 [(.int .u64 x5)]) fun i5 H6 =>
 ∃ n7, H6.cell i1 0 = some (.int .i64 n7) ∧
 bif (n7 == 0) then (
 CA en F.smem_Mem_access [(.pointer x0), (.int .i64 x1), (.int .i64 x2), (.bool true), (.func (.func F.smem_Mem_Fetch_1) #[] #[(.pointer (some ⟨i1, 0, none⟩)), (.pointer (some ⟨i3, 0, none⟩)), (.pointer (some ⟨i5, 0, none⟩))])] H6 fun v8 H9 =>
 ∃ n10, ∃ b11, v8 = (.tuple #[(.int .u64 n10), (.bool b11)]) ∧
 R (.tuple #[(.int .u64 n10), (.bool b11)]) H9)
 else (
 ∃ n12, H6.cell i1 0 = some (.int .i64 n12) ∧
 bif (n12 == 80) then (
 CA en F.smem_Mem_access [(.pointer x0), (.int .i64 x1), (.int .i64 x2), (.bool true), (.func (.func F.smem_Mem_Fetch_1) #[] #[(.pointer (some ⟨i1, 0, none⟩)), (.pointer (some ⟨i3, 0, none⟩)), (.pointer (some ⟨i5, 0, none⟩))])] H6 fun v13 H14 =>
 ∃ n15, ∃ b16, v13 = (.tuple #[(.int .u64 n15), (.bool b16)]) ∧
 R (.tuple #[(.int .u64 n15), (.bool b16)]) H14)
 else (
 ∃ n17, H6.cell i1 0 = some (.int .i64 n17) ∧
 bif (n17 == 64) then (
 CA en F.smem_Mem_access [(.pointer x0), (.int .i64 x1), (.int .i64 x2), (.bool true), (.func (.func F.smem_Mem_Fetch_1) #[] #[(.pointer (some ⟨i1, 0, none⟩)), (.pointer (some ⟨i3, 0, none⟩)), (.pointer (some ⟨i5, 0, none⟩))])] H6 fun v18 H19 =>
 ∃ n20, ∃ b21, v18 = (.tuple #[(.int .u64 n20), (.bool b21)]) ∧
 R (.tuple #[(.int .u64 n20), (.bool b21)]) H19)
 else (
 ∃ n22, H6.cell i1 0 = some (.int .i64 n22) ∧
 CA en F.smem_Mem_access [(.pointer x0), (.int .i64 x1), (.int .i64 x2), (.bool (n22 == 160)), (.func (.func F.smem_Mem_Fetch_1) #[] #[(.pointer (some ⟨i1, 0, none⟩)), (.pointer (some ⟨i3, 0, none⟩)), (.pointer (some ⟨i5, 0, none⟩))])] H6 fun v23 H24 =>
 ∃ n25, ∃ b26, v23 = (.tuple #[(.int .u64 n25), (.bool b26)]) ∧
 R (.tuple #[(.int .u64 n25), (.bool b26)]) H24)))) →
    CA en F.smem_Mem_Fetch [(.pointer x0), (.int .i64 x1), (.int .i64 x2), (.int .i64 x3), (.int .u64 x4), (.int .u64 x5)] H R := by
  intro h
  refine wpFn_ok (Z := []) (fn := Go.Proofs.Tryz.f186) ?_ ?_ ?_
  · kernel_rfl
  · kernel_rfl
  · apply turnInto h
    kernel_rfl
theorem vc_smem_Mem_Cas (x0 : Option Addr) (x1 : Int) (x2 : Int) (x3 : Int) (x4 : Int) (x5 : Int) (H : Heap) (R : Value → Heap → Prop) :
    (
 nwH H (.cells true 0 [(.int .u64 x3)]) fun i1 H2 =>
 nwH H2 (.cells true 0 [(.int .u64 x4)]) fun i3 H4 =>
 nwH H4 (.cells true 0 [(.int .u64 x5)]) fun i5 H6 =>
 CA en F.smem_Mem_access [(.pointer x0), (.int .i64 x1), (.int .i64 x2), (.bool true), (.func (.func F.smem_Mem_Cas_1) #[] #[(.pointer (some ⟨i3, 0, none⟩)), (.pointer (some ⟨i1, 0, none⟩)), (.pointer (some ⟨i5, 0, none⟩))])] H6 fun v7 H8 =>
 ∃ n9, ∃ b10, v7 = (.tuple #[(.int .u64 n9), (.bool b10)]) ∧
 R (.tuple #[(.int .u64 n9), (.bool b10)]) H8) →
    CA en F.smem_Mem_Cas [(.pointer x0), (.int .i64 x1), (.int .i64 x2), (.int .u64 x3), (.int .u64 x4), (.int .u64 x5)] H R := by
  intro h
  refine wpFn_ok (Z := []) (fn := Go.Proofs.Tryz.f241) ?_ ?_ ?_
  · kernel_rfl
  · kernel_rfl
  · apply turnInto h
    kernel_rfl
theorem vc_smem_Mem_Fetch_1 (x0 : Int) (c0 : Option Addr) (c1 : Option Addr) (c2 : Option Addr) (H : Heap) (R : Value → Heap → Prop) :
    (
 AS.asAddr (.pointer c0) fun i1 i2 =>
 ∃ n3, H.cell i1 i2 = some (.int .i64 n3) ∧
 AS.asAddr (.pointer c1) fun i4 i5 =>
 ∃ n6, H.cell i4 i5 = some (.int .u64 n6) ∧
 AS.asAddr (.pointer c2) fun i7 i8 =>
 ∃ n9, H.cell i7 i8 = some (.int .u64 n9) ∧
 AS.asAddr (.pointer c1) fun i10 i11 =>
 ∃ n12, H.cell i10 i11 = some (.int .u64 n12) ∧
 CA en F.word_Alu [(.int .i64 n3), (.bool true), (.int .u64 (IntKind.u64.wrap ((BitVec.ofInt 64 x0 &&& (BitVec.ofInt 64 n6)).toNat : Int))), (.int .u64 (IntKind.u64.wrap ((BitVec.ofInt 64 n9 &&& (BitVec.ofInt 64 n12)).toNat : Int)))] H fun v13 H14 =>
 ∃ n15, ∃ b16, v13 = (.tuple #[(.int .u64 n15), (.bool b16)]) ∧
 AS.asAddr (.pointer c1) fun i17 i18 =>
 ∃ n19, H14.cell i17 i18 = some (.int .u64 n19) ∧
 CA en F.smem_under [(.int .u64 x0), (.int .u64 n19), (.int .u64 n15)] H14 fun v20 H21 =>
 ∃ n22, v20 = (.int .u64 n22) ∧
 R (.int .u64 n22) H21) →
    CA en F.smem_Mem_Fetch_1 [(.int .u64 x0), (.pointer c0), (.pointer c1), (.pointer c2)] H R := by
  intro h
  refine wpFn_ok (Z := []) (fn := Go.Proofs.Tryz.f244) ?_ ?_ ?_
  · kernel_rfl
  · kernel_rfl
  · apply turnInto h
    kernel_rfl
theorem vc_smem_Mem_Size (x0 : Option Addr) (x1 : Int) (H : Heap) (R : Value → Heap → Prop) :
    (
 AS.asAddr (.pointer x0) fun i1 i2 =>
 ∃ m3, H.cell i1 i2 = some (.map m3) ∧
 ∃ r4, AS.mapGet H (.int .i64) m3 (.int .i64 x1) = some r4 ∧
 ∃ a5 i6, got r4 (.slice none 0 0) (.slice a5 i6 0) ∧
 R (.int .i64 ((i6 : Nat) : Int)) H) →
    CA en F.smem_Mem_Size [(.pointer x0), (.int .i64 x1)] H R := by
  intro h
  refine wpFn_ok (Z := []) (fn := Go.Proofs.Tryz.f275) ?_ ?_ ?_
  · kernel_rfl
  · kernel_rfl
  · apply turnInto h
    kernel_rfl
theorem vc_smem_Mem_Cas_1 (x0 : Int) (c0 : Option Addr) (c1 : Option Addr) (c2 : Option Addr) (H : Heap) (R : Value → Heap → Prop) :
    (
 AS.asAddr (.pointer c0) fun i1 i2 =>
 ∃ n3, H.cell i1 i2 = some (.int .u64 n3) ∧
 AS.asAddr (.pointer c1) fun i4 i5 =>
 ∃ n6, H.cell i4 i5 = some (.int .u64 n6) ∧
 bif ((IntKind.u64.wrap ((BitVec.ofInt 64 (IntKind.u64.wrap ((BitVec.ofInt 64 x0 ^^^ (BitVec.ofInt 64 n3)).toNat : Int)) &&& (BitVec.ofInt 64 n6)).toNat : Int)) != 0) then (
 R (.int .u64 x0) H)
 else (
 AS.asAddr (.pointer c1) fun i7 i8 =>
 ∃ n9, H.cell i7 i8 = some (.int .u64 n9) ∧
 AS.asAddr (.pointer c2) fun i10 i11 =>
 ∃ n12, H.cell i10 i11 = some (.int .u64 n12) ∧
 CA en F.smem_under [(.int .u64 x0), (.int .u64 n9), (.int .u64 n12)] H fun v13 H14 =>
 ∃ n15, v13 = (.int .u64 n15) ∧
 R (.int .u64 n15) H14)) →
    CA en F.smem_Mem_Cas_1 [(.int .u64 x0), (.pointer c0), (.pointer c1), (.pointer c2)] H R := by
  intro h
  refine wpFn_ok (Z := []) (fn := Go.Proofs.Tryz.f290) ?_ ?_ ?_
  · kernel_rfl
  · kernel_rfl
  · apply turnInto h
    kernel_rfl
theorem vc_word_Alu (x0 : Int) (x1 : Bool) (x2 : Int) (x3 : Int) (H : Heap) (R : Value → Heap → Prop) :
    (
 bif (x0 == 192) then (
 bif x1 then (
 nz 64 ∧
 nn (Int.tmod x3 64) ∧
 R (.tuple #[(.int .u64 (IntKind.u64.wrap (Int.fdiv (IntKind.i64.wrap x2) (2 ^ (min (Int.tmod x3 64).toNat 64))))), (.bool true)]) H)
 else (
 bif (x0 == 192) then (
 nz 32 ∧
 nn (Int.tmod x3 32) ∧
 R (.tuple #[(.int .u64 (IntKind.u64.wrap (IntKind.u32.wrap (Int.fdiv (IntKind.i32.wrap x2) (2 ^ (min (Int.tmod x3 32).toNat 32)))))), (.bool true)]) H)
 else (
 bif x1 then (
 CA en F.word_alu_uint64 [(.int .i64 x0), (.int .u64 64), (.int .u64 x2), (.int .u64 x3)] H fun v1 H2 =>
 ∃ n3, ∃ b4, v1 = (.tuple #[(.int .u64 n3), (.bool b4)]) ∧
 R (.tuple #[(.int .u64 n3), (.bool b4)]) H2)
 else (
 CA en F.word_alu_uint32 [(.int .i64 x0), (.int .u64 32), (.int .u32 (IntKind.u32.wrap x2)), (.int .u32 (IntKind.u32.wrap x3))] H fun v5 H6 =>
 ∃ n7, ∃ b8, v5 = (.tuple #[(.int .u32 n7), (.bool b8)]) ∧
 R (.tuple #[(.int .u64 (IntKind.u64.wrap n7)), (.bool b8)]) H6))))
 else (
 bif (x0 == 192) then (
 nz 32 ∧
 nn (Int.tmod x3 32) ∧
 R (.tuple #[(.int .u64 (IntKind.u64.wrap (IntKind.u32.wrap (Int.fdiv (IntKind.i32.wrap x2) (2 ^ (min (Int.tmod x3 32).toNat 32)))))), (.bool true)]) H)
 else (
 bif x1 then (
 CA en F.word_alu_uint64 [(.int .i64 x0), (.int .u64 64), (.int .u64 x2), (.int .u64 x3)] H fun v9 H10 =>
 ∃ n11, ∃ b12, v9 = (.tuple #[(.int .u64 n11), (.bool b12)]) ∧
 R (.tuple #[(.int .u64 n11), (.bool b12)]) H10)
 else (
 CA en F.word_alu_uint32 [(.int .i64 x0), (.int .u64 32), (.int .u32 (IntKind.u32.wrap x2)), (.int .u32 (IntKind.u32.wrap x3))] H fun v13 H14 =>
 ∃ n15, ∃ b16, v13 = (.tuple #[(.int .u32 n15), (.bool b16)]) ∧
 R (.tuple #[(.int .u64 (IntKind.u64.wrap n15)), (.bool b16)]) H14)))) →
    CA en F.word_Alu [(.int .i64 x0), (.bool x1), (.int .u64 x2), (.int .u64 x3)] H R := by
  intro h
  refine wpFn_ok (Z := []) (fn := Go.Proofs.Tryz.f245) ?_ ?_ ?_
  · kernel_rfl
  · kernel_rfl
  · apply turnInto h
    kernel_rfl
theorem vc_word_alu_uint64 (x0 : Int) (x1 : Int) (x2 : Int) (x3 : Int) (H : Heap) (R : Value → Heap → Prop) :
    (
 nz x1 ∧
 bif (x0 == 0) then (
 R (.tuple #[(.int .u64 (IntKind.u64.wrap (x2 + x3))), (.bool true)]) H)
 else (
 bif (x0 == 16) then (
 R (.tuple #[(.int .u64 (IntKind.u64.wrap (x2 - x3))), (.bool true)]) H)
 else (
 bif (x0 == 32) then (
 R (.tuple #[(.int .u64 (IntKind.u64.wrap (x2 * x3))), (.bool true)]) H)
 else (
 bif (x0 == 48) then (
 CA en F.word_divide_uint64 [(.int .u64 x2), (.int .u64 x3)] H fun v1 H2 =>
 ∃ n3, ∃ n4, v1 = (.tuple #[(.int .u64 n3), (.int .u64 n4)]) ∧
 R (.tuple #[(.int .u64 n3), (.bool true)]) H2)
 else (
 bif (x0 == 144) then (
 CA en F.word_divide_uint64 [(.int .u64 x2), (.int .u64 x3)] H fun v5 H6 =>
 ∃ n7, ∃ n8, v5 = (.tuple #[(.int .u64 n7), (.int .u64 n8)]) ∧
 R (.tuple #[(.int .u64 n8), (.bool true)]) H6)
 else (
 bif (x0 == 64) then (
 R (.tuple #[(.int .u64 (IntKind.u64.wrap ((BitVec.ofInt 64 x2 ||| (BitVec.ofInt 64 x3)).toNat : Int))), (.bool true)]) H)
 else (
 bif (x0 == 80) then (
 R (.tuple #[(.int .u64 (IntKind.u64.wrap ((BitVec.ofInt 64 x2 &&& (BitVec.ofInt 64 x3)).toNat : Int))), (.bool true)]) H)
 else (
 bif (x0 == 160) then (
 R (.tuple #[(.int .u64 (IntKind.u64.wrap ((BitVec.ofInt 64 x2 ^^^ (BitVec.ofInt 64 x3)).toNat : Int))), (.bool true)]) H)
 else (
 bif (x0 == 96) then (
 nn (Int.tmod x3 x1) ∧
 R (.tuple #[(.int .u64 (IntKind.u64.wrap (x2 * 2 ^ (min (Int.tmod x3 x1).toNat 64)))), (.bool true)]) H)
 else (
 bif (x0 == 112) then (
 nn (Int.tmod x3 x1) ∧
 R (.tuple #[(.int .u64 (Int.fdiv x2 (2 ^ (min (Int.tmod x3 x1).toNat 64)))), (.bool true)]) H)
 else (
 bif (x0 == 128) then (
 R (.tuple #[(.int .u64 (IntKind.u64.wrap (0 - x2))), (.bool true)]) H)
 else (
 bif (x0 == 176) then (
 R (.tuple #[(.int .u64 x3), (.bool true)]) H)
 else (
 R (.tuple #[(.int .u64 0), (.bool false)]) H))))))))))))) →
    CA en F.word_alu_uint64 [(.int .i64 x0), (.int .u64 x1), (.int .u64 x2), (.int .u64 x3)] H R := by
  intro h
  refine wpFn_ok (Z := []) (fn := Go.Proofs.Tryz.f291) ?_ ?_ ?_
  · kernel_rfl
  · kernel_rfl
  · apply turnInto h
    kernel_rfl
end Go.Proofs.YtjggeoghlicmdaaGreat
namespace Go.Proofs.YtjggeoghlicmdaaGreat
open Go Go.AS Go.RowKit
set_option linter.unusedVariables false
set_option maxRecDepth 100000
set_option maxHeartbeats 2000000
theorem vc_crossbarkit_Pick (x0 : Int) (x1 : Int) (H : Heap) (R : Value → Heap → Prop) :
    (
 bif (decide (x1 < 1)) then (
 R (.int .i64 0) H)
 else (
 nz x1 ∧
 bif (decide ((Int.tmod x0 x1) < 0)) then (
 R (.int .i64 (IntKind.i64.wrap ((Int.tmod x0 x1) + x1))) H)
 else (
 R (.int .i64 (Int.tmod x0 x1)) H))) →
    CA en F.crossbarkit_Pick [(.int .i64 x0), (.int .i64 x1)] H R := by
  intro h
  refine wpFn_ok (Z := []) (fn := Go.Proofs.Tryz.f12) ?_ ?_ ?_
  · kernel_rfl
  · kernel_rfl
  · apply turnInto h
    kernel_rfl
noncomputable def L_crossbarkit_SameWords_0 : Code := loopAt Go.Proofs.Tryz.f15 0
theorem vc_crossbarkit_SameWords (x0 : Option Addr) (x0l : Nat) (x1 : Option Addr) (x1l : Nat) (H : Heap) (R : Value → Heap → Prop) :
    (
 bif (((x0l : Nat) : Int) != ((x1l : Nat) : Int)) then (
 R (.bool false) H)
 else (
 LA en L_crossbarkit_SameWords_0 [(.slice x0 x0l 0), (.slice x1 x1l 0), undef, undef, (.bool false), (.int .i64 0), (.slice x0 x0l 0), (.int .i64 ((x0l : Nat) : Int)), (.slice x1 x1l 0), (.int .i64 ((x1l : Nat) : Int)), (.bool false), undef, undef, undef, undef, undef, undef, undef, undef, undef, undef, undef, undef, undef, undef, undef] H [(X.exit 0, fun (y1 : Fr) (H2 : Heap) =>
 AS.asBool (y1.getD 4 undef) fun b3 =>
 R (.bool true) H2),
 (X.ret, fun (y4 : Fr) (H5 : Heap) =>
 AS.asBool (y4.getD 4 undef) fun b6 =>
 R (.bool b6) H5)])) →
    CA en F.crossbarkit_SameWords [(.slice x0 x0l 0), (.slice x1 x1l 0)] H R := by
  intro h
  refine wpFn_ok (Z := [[(4, (.bool false))]]) (fn := Go.Proofs.Tryz.f15) ?_ ?_ ?_
  · kernel_rfl
  · kernel_rfl
  · apply turnInto h
    kernel_rfl
theorem use_crossbarkit_SameWords_0 {t0 : Option Addr} {t0l : Nat} {t1 : Option Addr} {t1l : Nat} {t6 : Option Addr} {t6l : Nat} {t7 : Int} {t8 : Option Addr} {t8l : Nat} {t9 : Int} {K0 : Fr → Heap → Prop} {K1 : Fr → Heap → Prop} {t4 : Bool} {t5 : Int} {t11 : Value} {t12 : Value} {t13 : Value} {t14 : Value} {t15 : Value} {t16 : Value} {t17 : Value} {t18 : Value} {t19 : Value} {t20 : Value} {t21 : Value} {t22 : Value} {t23 : Value} {t24 : Value} {t25 : Value} {H : Heap} (I : Nat → Bool → Int → Heap → Prop) (n : Nat) (h0 : I n t4 t5 H)
    (hstep : ∀ (n : Nat) (t4 : Bool) (t5 : Int) (ys : Fr) (H : Heap), I n t4 t5 H →
    (
 bif (decide (t5 < ((t0l : Nat) : Int))) then (
 inB t5 t0l ∧
 asRow t0 fun i1 i2 =>
 ∃ n3, (H.bump 9).cell i1 (i2 + (t5.toNat * 1)) = some (.int .u64 n3) ∧
 inB t5 t1l ∧
 asRow t1 fun i4 i5 =>
 ∃ n6, (H.bump 9).cell i4 (i5 + (t5.toNat * 1)) = some (.int .u64 n6) ∧
 (
 bif (n3 != n6) then (
 K1 [(.slice t0 t0l 0), (.slice t1 t1l 0), undef, undef, (.bool false), (.int .i64 t5), (.slice t6 t6l 0), (.int .i64 t7), (.slice t8 t8l 0), (.int .i64 t9), (.bool false), (.int .i64 t5), (.slice t0 t0l 0), (.int .i64 ((t0l : Nat) : Int)), (.bool true), (ys.getD 15 undef), (ys.getD 16 undef), (.slice t0 t0l 0), (.int .i64 t5), (.pointer (some ⟨i1, (i2 + (t5.toNat * 1)), none⟩)), (.int .u64 n3), (.slice t1 t1l 0), (.int .i64 t5), (.pointer (some ⟨i4, (i5 + (t5.toNat * 1)), none⟩)), (.int .u64 n6), (.bool true)] (H.bump 9))
 else (
 ∃ k7, k7 < n ∧
 I k7 t4 (IntKind.i64.wrap (t5 + 1)) (H.bump 9))) ∧
 True)
 else (
 K0 [(.slice t0 t0l 0), (.slice t1 t1l 0), undef, undef, (.bool t4), (.int .i64 t5), (.slice t6 t6l 0), (.int .i64 t7), (.slice t8 t8l 0), (.int .i64 t9), (.bool false), (.int .i64 t5), (.slice t0 t0l 0), (.int .i64 ((t0l : Nat) : Int)), (.bool false), (ys.getD 15 undef), (ys.getD 16 undef), (ys.getD 17 undef), (ys.getD 18 undef), (ys.getD 19 undef), (ys.getD 20 undef), (ys.getD 21 undef), (ys.getD 22 undef), (ys.getD 23 undef), (ys.getD 24 undef), (ys.getD 25 undef)] H))) :
    LA en L_crossbarkit_SameWords_0 [(.slice t0 t0l 0), (.slice t1 t1l 0), undef, undef, (.bool t4), (.int .i64 t5), (.slice t6 t6l 0), (.int .i64 t7), (.slice t8 t8l 0), (.int .i64 t9), (.bool false), t11, t12, t13, t14, t15, t16, t17, t18, t19, t20, t21, t22, t23, t24, t25] H [(X.exit 0, K0), (X.ret, K1)] := by
  refine LA_rule (Z := []) (fun m xs H' => AS.asBool (xs.getD 4 undef) fun t4 => AS.asInt .i64 (xs.getD 5 undef) fun t5 => I m t4 t5 H') ?_ n H ?_
  · intro n H
    suffices hs : ∀ s11 : Value, ∀ s12 : Value, ∀ s13 : Value, ∀ s14 : Value, ∀ s17 : Value, ∀ s18 : Value, ∀ s19 : Value, ∀ s20 : Value, ∀ s21 : Value, ∀ s22 : Value, ∀ s23 : Value, ∀ s24 : Value, ∀ s25 : Value, ∀ s4 : Value, ∀ s15 : Value, ∀ s16 : Value, ∀ s5 : Value, ((AS.asBool s4 fun t4 => AS.asInt .i64 s5 fun t5 => I n t4 t5 H) → wpCode en L_crossbarkit_SameWords_0 [] [(.slice t0 t0l 0), (.slice t1 t1l 0), undef, undef, s4, s5, (.slice t6 t6l 0), (.int .i64 t7), (.slice t8 t8l 0), (.int .i64 t9), (.bool false), s11, s12, s13, s14, s15, s16, s17, s18, s19, s20, s21, s22, s23, s24, s25] H (loopQ (fun m xs H' => AS.asBool (xs.getD 4 undef) fun t4 => AS.asInt .i64 (xs.getD 5 undef) fun t5 => I m t4 t5 H') n [(X.exit 0, K0), (X.ret, K1)])) by
      apply turnInto hs
      kernel_rfl
    intro s11 s12 s13 s14 s17 s18 s19 s20 s21 s22 s23 s24 s25 s4 s15 s16 s5 hP
    replace hP := asBool_elim hP
    obtain ⟨t4, rfl, hP⟩ := hP
    replace hP := asInt_elim hP
    obtain ⟨t5, rfl, hP⟩ := hP
    apply turnInto (hstep n t4 t5 [(.slice t0 t0l 0), (.slice t1 t1l 0), undef, undef, (.bool t4), (.int .i64 t5), (.slice t6 t6l 0), (.int .i64 t7), (.slice t8 t8l 0), (.int .i64 t9), (.bool false), s11, s12, s13, s14, s15, s16, s17, s18, s19, s20, s21, s22, s23, s24, s25] H hP)
    kernel_rfl
  · apply turnInto h0
    kernel_rfl
end Go.Proofs.YtjggeoghlicmdaaGreat
namespace Go.AS
open Go.RowKit
set_option linter.unusedVariables false
theorem get_set (H : Heap) (i : Nat) (o : Obj) (j : Nat) : (H.set i o).get j = if j = i then some o else H.get j := Tr.get_put o H.tr i j
theorem get_new (H : Heap) (o : Obj) (j : Nat) : (H.new o).get j = if j = H.next then some o else H.get j := Tr.get_put o H.tr H.next j
theorem get_bump (H : Heap) (n j : Nat) : (H.bump n).get j = H.get j := rfl
theorem next_set (H : Heap) (i : Nat) (o : Obj) : (H.set i o).next = H.next := rfl
theorem next_new (H : Heap) (o : Obj) : (H.new o).next = H.next + 1 := rfl
theorem next_bump (H : Heap) (n : Nat) : (H.bump n).next = H.next + n := rfl
theorem get_set_self (H : Heap) (i : Nat) (o : Obj) : (H.set i o).get i = some o := by rw [get_set, if_pos rfl]
theorem get_set_ne {H : Heap} {i j : Nat} {o : Obj} (h : j ≠ i) : (H.set i o).get j = H.get j := by rw [get_set, if_neg h]
theorem get_new_self (H : Heap) (o : Obj) : (H.new o).get H.next = some o := by rw [get_new, if_pos rfl]
theorem get_new_lt {H : Heap} {j : Nat} {o : Obj} (h : j < H.next) : (H.new o).get j = H.get j := by rw [get_new, if_neg (by omega)]
theorem get_new_ne {H : Heap} {j : Nat} {o : Obj} (h : j ≠ H.next) : (H.new o).get j = H.get j := by rw [get_new, if_neg h]
theorem cell_bump (H : Heap) (n i o : Nat) : (H.bump n).cell i o = H.cell i o := rfl
theorem cell_of {H : Heap} {i : Nat} {w : Bool} {z : Nat} {c : List Value} (h : H.get i = some (.cells w z c)) (o : Nat) : H.cell i o = c[o]? := by
  unfold Heap.cell; rw [h]
theorem cellsAt_of {H : Heap} {i : Nat} {w : Bool} {z : Nat} {c : List Value} (h : H.get i = some (.cells w z c)) (o n : Nat) : H.cellsAt i o n = takeAt c o n := by
  unfold Heap.cellsAt; rw [h]
theorem entries_of {H : Heap} {i : Nat} {es : List MapEntry} {ck : Nat} (h : H.get i = some (.map es ck)) : entriesOf H (some i) = some es := by
  unfold entriesOf; simp only [h]
theorem stc_of {H : Heap} {i o z : Nat} {c vs : List Value} {K : Heap → Prop} (h : H.get i = some (.cells true z c)) (hl : o + vs.length ≤ c.length) (k : K (H.set i (.cells true z (setAt c o vs)))) : stc H i o vs K := ⟨z, c, h, hl, k⟩
theorem stc_of' {H : Heap} {i o z : Nat} {c vs : List Value} {K : Heap → Prop} (h : H.get i = some (.cells true z c)) (hl : o + vs.length ≤ c.length) (k : ∀ H', H' = H.set i (.cells true z (setAt c o vs)) → K H') : stc H i o vs K := ⟨z, c, h, hl, k _ rfl⟩
theorem nwH_in {H : Heap} {o : Obj} {K : Nat → Heap → Prop} (k : ∀ i H', i = H.next → H' = H.new o → K i H') : nwH H o K := k _ _ rfl rfl
theorem apd_grow {H : Heap} {bytes es i o len n : Nat} {c old new : List Value} {K : Option Addr → Nat → Heap → Prop} (h : H.get i = some (.cells true es c)) (hn : 0 < n) (hc : c.length < o + (len + n) * es) (ho : takeAt c o (len * es) = some old)
    (hl : (len + n) * bytes ≤ 140737488355328) (k : ∀ j H', j = H.next → H' = (H.set i .dead).new (.cells true es (old ++ new)) → K (some ⟨j, 0, none⟩) (len + n) H') : apd H bytes es (some ⟨i, o, none⟩) len n new K :=
  .inr ⟨hn, .inr ⟨i, o, c, rfl, h, .inr ⟨hc, old, ho, hl, k _ _ rfl rfl⟩⟩⟩
theorem apd_first {H : Heap} {bytes es n : Nat} {new : List Value} {K : Option Addr → Nat → Heap → Prop} (hn : 0 < n) (hl : n * bytes ≤ 140737488355328) (k : ∀ j H', j = H.next → H' = H.new (.cells true es new) → K (some ⟨j, 0, none⟩) n H') : apd H bytes es none 0 n new K :=
  .inr ⟨hn, .inl ⟨rfl, rfl, hl, k _ _ rfl rfl⟩⟩
theorem asAddr_some {i o : Nat} {K : Nat → Nat → Prop} : asAddr (.pointer (some ⟨i, o, none⟩)) K = K i o := rfl
theorem asRow_some {i o : Nat} {K : Nat → Nat → Prop} : asRow (some ⟨i, o, none⟩) K = K i o := rfl
theorem asFn_func {f : FuncId} {fs cs : Array Value} {K : FuncId → List Value → List Value → Prop} : asFn (.func (.func f) fs cs) K = K f fs.toList cs.toList := rfl
theorem asInt_int {k : IntKind} {n : Int} {K : Int → Prop} : asInt k (.int k n) K = K n := by simp [asInt]
theorem cond_no {b : Bool} {p q : Prop} (h : b = false) (hq : q) : cond b p q := by subst h; exact hq
theorem cond_yes {b : Bool} {p q : Prop} (h : b = true) (hp : p) : cond b p q := by subst h; exact hp
theorem cond_of {b : Bool} {p q : Prop} (h1 : b = true → p) (h2 : b = false → q) : cond b p q := by
  cases b with
  | true => exact h1 rfl
  | false => exact h2 rfl
def Frm (S : List Nat) (H H' : Heap) : Prop := H.next ≤ H'.next ∧ ∀ j, j < H.next → j ∉ S → H'.get j = H.get j
theorem Frm.refl (S : List Nat) (H : Heap) : Frm S H H := ⟨Nat.le_refl _, fun _ _ _ => rfl⟩
theorem Frm.trans {S S' : List Nat} {H H1 H2 : Heap} (h : Frm S H H1) (k : Frm S' H1 H2) (hs : ∀ j ∈ S', j ∈ S ∨ H.next ≤ j) : Frm S H H2 :=
  ⟨Nat.le_trans h.1 k.1, fun j hj hn => by
    rw [k.2 j (Nat.lt_of_lt_of_le hj h.1) (fun hm => by rcases hs j hm with h1 | h1; exact hn h1; omega), h.2 j hj hn]⟩
theorem Frm.mono {S S' : List Nat} {H H' : Heap} (h : Frm S H H') (hs : ∀ j ∈ S, j ∈ S') : Frm S' H H' := ⟨h.1, fun j hj hn => h.2 j hj fun hm => hn (hs j hm)⟩
theorem Frm.set {S : List Nat} {H H' : Heap} (h : Frm S H H') {i : Nat} (o : Obj) (hi : i ∈ S ∨ H.next ≤ i) : Frm S H (H'.set i o) :=
  ⟨h.1, fun j hj hn => by
    rw [get_set_ne (fun e => by subst e; rcases hi with h1 | h1; exact hn h1; omega), h.2 j hj hn]⟩
theorem Frm.new {S : List Nat} {H H' : Heap} (h : Frm S H H') (o : Obj) : Frm S H (H'.new o) :=
  ⟨Nat.le_succ_of_le h.1, fun j hj hn => by
    have := h.1
    rw [get_new_ne (by omega), h.2 j hj hn]⟩
theorem Frm.bump {S : List Nat} {H H' : Heap} (h : Frm S H H') (n : Nat) : Frm S H (H'.bump n) :=
  ⟨Nat.le_trans h.1 (Nat.le_add_right _ _), h.2⟩
section maps
variable {α : Type} (key : α → Int) (val : α → Value) (born : α → Nat) (ik : IntKind)
def ent (a : α) : MapEntry := { key := .int ik (key a), val := val a, born := born a }
theorem findNow_int (k : Int) : ∀ (l : List α) (i : Nat),
    Instr.findNow (.int ik) (.int ik k) (l.map (ent key val born ik)) i = some (((l.findIdx? fun a => key a == k)).map fun j => (i + j, ((l[j]?).map val).getD undef))
  | [], i => by simp [Instr.findNow]
  | a :: l, i => by
    simp only [List.map_cons, Instr.findNow]
    have e : Instr.sameNow (.int ik) (.int ik k) (ent key val born ik a).key = some (k == key a) := by simp [Instr.sameNow, ent]
    rw [e]
    by_cases h : k = key a
    · subst h
      simp [ent, List.findIdx?_cons]
    · have h1 : (k == key a) = false := by simpa using h
      have h2 : (key a == k) = false := by simpa using Ne.symm h
      rw [h1]
      simp only
      rw [findNow_int k l (i + 1), List.findIdx?_cons, h2]
      simp only [Bool.false_eq_true, if_false, Option.map_map]
      congr 2
      funext j
      simp [Nat.add_assoc, Nat.add_comm 1 j]
end maps
theorem calls_of_CA {E : Env} (hE : E.Ok) (hmix : E.prog.follows .mixedOrders = true) {f : FuncId} {args : List Value} {H : Heap} {b : Bool} (h : CA E f args H fun v _ => v = .bool b) {μ : Inj} {w : World} {ARGS : Array Value}
    (hH : HRel E w.heap.size μ H w) (ha : VRels μ args ARGS.toList) : Calls E.prog f ARGS w fun e w' => e = .returned (.bool b) ∧ Below w.heap.size w w' := by
  obtain ⟨n, v, H', h1, rfl⟩ := h
  refine (sem_ok hE hmix w.heap.size n f args H _ H' h1 μ w ARGS hH ha).mono ?_
  rintro e w' ⟨V, μ', rfl, h2, h3, h4, h5⟩
  cases h3
  exact ⟨rfl, h5⟩
end Go.AS
namespace Go.AS
open Go.RowKit
set_option linter.unusedVariables false
abbrev W (w : BitVec 64) : Value := .int .u64 (w.toNat : Int)
theorem wrap_u64 (n : Int) : IntKind.u64.wrap n = ((BitVec.ofInt 64 n).toNat : Int) := by
  have h1 : IntKind.u64.wrap n = n % 18446744073709551616 := rfl
  rw [h1, BitVec.toNat_ofInt]
  have : (0 : Int) ≤ n % 18446744073709551616 := Int.emod_nonneg _ (by decide)
  omega
theorem ofInt_bv (w : BitVec 64) : BitVec.ofInt 64 (w.toNat : Int) = w := by
  rw [BitVec.ofInt_natCast, BitVec.ofNat_toNat, BitVec.setWidth_eq]
theorem wrap_bv (w : BitVec 64) : IntKind.u64.wrap (w.toNat : Int) = (w.toNat : Int) := by rw [wrap_u64, ofInt_bv]
theorem ofInt_add (a b : Int) : BitVec.ofInt 64 (a + b) = BitVec.ofInt 64 a + BitVec.ofInt 64 b := by
  exact BitVec.ofInt_add a b
theorem wrap_i64 {n : Int} (h : -9223372036854775808 ≤ n ∧ n < 9223372036854775808) : IntKind.i64.wrap n = n := by
  have e : IntKind.i64.wrap n = if 9223372036854775808 ≤ n % 18446744073709551616 then n % 18446744073709551616 - 18446744073709551616 else n % 18446744073709551616 := by
    show (let m := n % (2 ^ IntKind.i64.bits : Int); if (IntKind.i64.signed && decide (m ≥ (2 ^ (IntKind.i64.bits - 1) : Int))) = true then m - (2 ^ IntKind.i64.bits : Int) else m) = _
    have h1 : (2 ^ IntKind.i64.bits : Int) = 18446744073709551616 := rfl
    have h2 : (2 ^ (IntKind.i64.bits - 1) : Int) = 9223372036854775808 := rfl
    have h3 : IntKind.i64.signed = true := rfl
    rw [h1, h2, h3]
    simp
  rw [e]
  split <;> omega
theorem bv_eq {a b : BitVec 64} : ((a.toNat : Int) = (b.toNat : Int)) ↔ a = b := by
  rw [← BitVec.toNat_inj]; omega
theorem bv_beq (a b : BitVec 64) : (((a.toNat : Int) == (b.toNat : Int)) : Bool) = (a == b) := by
  rw [Bool.eq_iff_iff]; simp [bv_eq]
theorem bv_bne (a b : BitVec 64) : (((a.toNat : Int) != (b.toNat : Int)) : Bool) = (a != b) := by
  rw [Bool.eq_iff_iff]; simp [bv_eq]
end Go.AS
namespace Go.AS
open Go.RowKit
set_option linter.unusedVariables false
structure Asr where
  foot : List Nat
  holds : Heap → Prop
  loc : ∀ {H H' : Heap}, (∀ i ∈ foot, H'.get i = H.get i) → holds H → holds H'
def feet (L : List Asr) : List Nat := L.flatMap Asr.foot
structure Sep (H : Heap) (L : List Asr) : Prop where
  all : ∀ A ∈ L, A.holds H
  nd : (feet L).Nodup
  lt : ∀ i ∈ feet L, i < H.next
def bx (i : Nat) (o : Obj) : Asr := ⟨[i], fun H => H.get i = some o, fun h k => by rw [h _ (by simp)]; exact k⟩
abbrev cl (i : Nat) (c : List Value) : Asr := bx i (.cells true 0 c)
def many (L : List Asr) : Asr := ⟨feet L, fun H => ∀ A ∈ L, A.holds H, fun h k A hA => A.loc (fun i hi => h i (List.mem_flatMap.2 ⟨A, hA, hi⟩)) (k A hA)⟩
theorem feet_cons (A : Asr) (L : List Asr) : feet (A :: L) = A.foot ++ feet L := by simp [feet]
theorem feet_append (L M : List Asr) : feet (L ++ M) = feet L ++ feet M := by simp [feet]
variable {H H' : Heap} {L M : List Asr} {A B : Asr}
theorem Sep.nil : Sep H [] := ⟨by simp, by simp [feet], by simp [feet]⟩
theorem Sep.perm (h : Sep H L) (p : L.Perm M) : Sep H M := by
  refine ⟨fun A hA => h.all A (p.mem_iff.2 hA), ?_, fun i hi => h.lt i ?_⟩
  · exact (p.flatMap_right _).nodup_iff.1 h.nd
  · exact (p.flatMap_right Asr.foot).mem_iff.2 hi
theorem eraseIdx_perm : ∀ {L : List Asr} {k : Nat} {A : Asr}, L[k]? = some A → L.Perm (A :: L.eraseIdx k)
  | [], k, A, h => by simp at h
  | B :: L, 0, A, h => by simp at h; subst h; exact .refl _
  | B :: L, k + 1, A, h => by
    have ih := eraseIdx_perm (L := L) (k := k) (A := A) (by simpa using h)
    exact (ih.cons B).trans (List.Perm.swap A B _)
theorem set_perm : ∀ {L : List Asr} {k : Nat} {A : Asr}, k < L.length → (L.set k A).Perm (A :: L.eraseIdx k)
  | [], k, A, h => by simp at h
  | B :: L, 0, A, h => .refl _
  | B :: L, k + 1, A, h => by
    have ih := set_perm (L := L) (k := k) (A := A) (by simpa using h)
    exact (ih.cons B).trans (List.Perm.swap A B _)
theorem Sep.out (h : Sep H L) (k : Nat) (hk : L[k]? = some A) : Sep H (A :: L.eraseIdx k) := h.perm (eraseIdx_perm hk)
theorem Sep.back (k : Nat) (h : Sep H (A :: L.eraseIdx k)) (hk : k < L.length) : Sep H (L.set k A) := h.perm (set_perm hk).symm
theorem Sep.tail (h : Sep H (A :: L)) : Sep H L :=
  ⟨fun B hB => h.all B (List.mem_cons_of_mem _ hB), by have := h.nd; rw [feet_cons] at this; exact (List.nodup_append.1 this).2.1, fun i hi => h.lt i (by rw [feet_cons]; exact List.mem_append_right _ hi)⟩
theorem Sep.drop (h : Sep H L) (n : Nat) : Sep H (L.drop n) := by
  induction n generalizing L with
  | zero => exact h
  | succ n ih => cases L with
    | nil => exact h
    | cons A L => exact ih h.tail
theorem Sep.one (h : Sep H L) (k : Nat) (hk : L[k]? = some A) : A.holds H := h.all A (List.mem_of_getElem? hk)
theorem Sep.head (h : Sep H (A :: L)) : A.holds H := h.all A (by simp)
theorem Sep.footlt (h : Sep H (A :: L)) {i : Nat} (hi : i ∈ A.foot) : i < H.next := h.lt i (by rw [feet_cons]; exact List.mem_append_left _ hi)
theorem Sep.footnd (h : Sep H (A :: L)) : A.foot.Nodup := by have := h.nd; rw [feet_cons] at this; exact (List.nodup_append.1 this).1
theorem Sep.many_iff : Sep H (many L :: M) ↔ Sep H (L ++ M) := by
  have e : feet (many L :: M) = feet (L ++ M) := by rw [feet_cons, feet_append]; rfl
  constructor
  · intro h
    refine ⟨fun A hA => ?_, e ▸ h.nd, fun i hi => h.lt i (e ▸ hi)⟩
    rcases List.mem_append.1 hA with hA | hA
    · exact h.head A hA
    · exact h.all A (List.mem_cons_of_mem _ hA)
  · intro h
    refine ⟨fun A hA => ?_, e ▸ h.nd, fun i hi => h.lt i (e ▸ hi)⟩
    rcases List.mem_cons.1 hA with rfl | hA
    · exact fun B hB => h.all B (List.mem_append_left _ hB)
    · exact h.all A (List.mem_append_right _ hA)
theorem Sep.upd {S : List Nat} (h : Sep H (A :: L)) (fr : Frm S H H') (hS : ∀ j ∈ S, j ∈ A.foot ∨ H.next ≤ j) (hB : B.holds H') (hf : ∀ j ∈ B.foot, j ∈ A.foot ∨ H.next ≤ j) (hn : B.foot.Nodup) (hl : ∀ j ∈ B.foot, j < H'.next) : Sep H' (B :: L) := by
  have nd := h.nd
  rw [feet_cons] at nd
  have nd' := List.nodup_append.1 nd
  refine ⟨fun C hC => ?_, ?_, fun i hi => ?_⟩
  · rcases List.mem_cons.1 hC with rfl | hC
    · exact hB
    · refine C.loc (fun i hi => ?_) (h.all C (List.mem_cons_of_mem _ hC))
      have hi' : i ∈ feet L := List.mem_flatMap.2 ⟨C, hC, hi⟩
      have hlt := h.tail.lt i hi'
      refine fr.2 i hlt fun hs => ?_
      rcases hS i hs with h1 | h1
      · exact nd'.2.2 i h1 i hi' rfl
      · omega
  · rw [feet_cons]
    refine List.nodup_append.2 ⟨hn, nd'.2.1, fun a ha b hb e => ?_⟩
    subst e
    rcases hf a ha with h1 | h1
    · exact nd'.2.2 a h1 a hb rfl
    · have := h.tail.lt a hb; omega
  · rw [feet_cons] at hi
    rcases List.mem_append.1 hi with h1 | h1
    · exact hl i h1
    · exact Nat.lt_of_lt_of_le (h.tail.lt i h1) fr.1
theorem Sep.keep (h : Sep H L) (fr : Frm [] H H') : Sep H' L :=
  ⟨fun A hA => A.loc (fun i hi => fr.2 i (h.lt i (List.mem_flatMap.2 ⟨A, hA, hi⟩)) (by simp)) (h.all A hA), h.nd, fun i hi => Nat.lt_of_lt_of_le (h.lt i hi) fr.1⟩
theorem Sep.bump (h : Sep H L) (n : Nat) : Sep (H.bump n) L := h.keep ((Frm.refl _ _).bump n)
theorem Sep.new (h : Sep H L) (o : Obj) : Sep (H.new o) (bx H.next o :: L) := by
  refine ⟨fun A hA => ?_, ?_, fun i hi => ?_⟩
  · rcases List.mem_cons.1 hA with rfl | hA
    · exact get_new_self _ _
    · exact (h.keep ((Frm.refl _ _).new o)).all A hA
  · rw [feet_cons]
    refine List.nodup_append.2 ⟨by simp [bx], h.nd, fun a ha b hb e => ?_⟩
    simp only [bx, List.mem_singleton] at ha
    have := h.lt b hb
    omega
  · rw [feet_cons] at hi
    rcases List.mem_append.1 hi with h1 | h1
    · simp only [bx, List.mem_singleton] at h1
      rw [next_new]; omega
    · have := h.lt i h1
      rw [next_new]; omega
theorem Sep.nw {o : Obj} {K : Nat → Heap → Prop} (h : Sep H L) (k : ∀ i H', Sep H' (bx i o :: L) → K i H') : nwH H o K := k _ _ (h.new o)
theorem Sep.set0 {i : Nat} {o o' : Obj} (h : Sep H (bx i o :: L)) : Sep (H.set i o') (bx i o' :: L) := by
  refine h.upd (S := [i]) ((Frm.refl _ _).set _ (by simp)) (by simp [bx]) (get_set_self _ _ _) (by simp [bx]) (by simp [bx]) ?_
  intro j hj
  simp only [bx, List.mem_singleton] at hj
  subst hj
  exact h.footlt (by simp [bx])
theorem Sep.set {i : Nat} {o : Obj} (h : Sep H L) (k : Nat) (o' : Obj) (hk : L[k]? = some (bx i o)) : Sep (H.set i o') (L.set k (bx i o')) :=
  Sep.back k (h.out k hk).set0 (by have := List.getElem?_eq_some_iff.1 hk; exact this.1)
theorem Sep.get {i : Nat} {o : Obj} (h : Sep H L) (k : Nat) (hk : L[k]? = some (bx i o)) : H.get i = some o := h.one k hk
theorem Sep.ld {i o z : Nat} {w : Bool} {c : List Value} {v : Value} (h : Sep H L) (k : Nat) (hk : L[k]? = some (bx i (.cells w z c))) (hv : c[o]? = some v) : H.cell i o = some v := by
  rw [cell_of (h.get k hk)]; exact hv
theorem Sep.lds {i o n z : Nat} {w : Bool} {c : List Value} {v : List Value} (h : Sep H L) (k : Nat) (hk : L[k]? = some (bx i (.cells w z c))) (hv : takeAt c o n = some v) : H.cellsAt i o n = some v := by
  rw [cellsAt_of (h.get k hk)]; exact hv
theorem Sep.st {i o z : Nat} {c vs : List Value} {K : Heap → Prop} (h : Sep H L) (k : Nat) (hk : L[k]? = some (bx i (.cells true z c))) (hl : o + vs.length ≤ c.length)
    (r : ∀ H', Sep H' (L.set k (bx i (.cells true z (setAt c o vs)))) → K H') : stc H i o vs K := stc_of (h.get k hk) hl (r _ (h.set k _ hk))
end Go.AS
namespace Go.AS
open Go.RowKit
set_option linter.unusedVariables false
variable {H : Heap} {L : List Asr}
theorem asRow_in {i o : Nat} {K : Nat → Nat → Prop} (h : K i o) : asRow (some ⟨i, o, none⟩) K := h
theorem asAddr_in {i o : Nat} {K : Nat → Nat → Prop} (h : K i o) : asAddr (.pointer (some ⟨i, o, none⟩)) K := h
theorem asSl_in {a : Option Addr} {l : Nat} {K : Option Addr → Nat → Prop} (h : K a l) : asSl (.slice a l 0) K := h
theorem asInt_in {k : IntKind} {n : Int} {K : Int → Prop} (h : K n) : AS.asInt k (.int k n) K := by rw [asInt_int]; exact h
theorem asBool_in {b : Bool} {K : Bool → Prop} (h : K b) : AS.asBool (.bool b) K := h
theorem asFn_in {f : FuncId} {fs cs : Array Value} {K : FuncId → List Value → List Value → Prop} (h : K f fs.toList cs.toList) : asFn (.func (.func f) fs cs) K := h
theorem asPtr_in {p : Option Addr} {K : Option Addr → Prop} (h : K p) : asPtr (.pointer p) K := h
theorem Sep.swap {A B : Asr} (h : Sep H (A :: B :: L)) : Sep H (B :: A :: L) := h.perm (List.Perm.swap B A L)
theorem Sep.eraseAt (h : Sep H L) (k : Nat) : Sep H (L.eraseIdx k) := by
  by_cases hk : k < L.length
  · exact (h.perm (eraseIdx_perm (List.getElem?_eq_getElem hk))).tail
  · rw [List.eraseIdx_of_length_le (by omega)]; exact h
theorem Sep.rm0 {A0 : Asr} (h : Sep H (A0 :: L)) : Sep H (L) := Sep.eraseAt h 0
theorem Sep.rm1 {A0 A1 : Asr} (h : Sep H (A0 :: A1 :: L)) : Sep H (A0 :: L) := Sep.eraseAt h 1
theorem Sep.rm4 {A0 A1 A2 A3 A4 : Asr} (h : Sep H (A0 :: A1 :: A2 :: A3 :: A4 :: L)) : Sep H (A0 :: A1 :: A2 :: A3 :: L) := Sep.eraseAt h 4
theorem Sep.up1 {A0 A1 : Asr} (h : Sep H (A0 :: A1 :: L)) : Sep H (A1 :: A0 :: L) := Sep.out h 1 rfl
theorem Sep.up2 {A0 A1 A2 : Asr} (h : Sep H (A0 :: A1 :: A2 :: L)) : Sep H (A2 :: A0 :: A1 :: L) := Sep.out h 2 rfl
theorem Sep.up3 {A0 A1 A2 A3 : Asr} (h : Sep H (A0 :: A1 :: A2 :: A3 :: L)) : Sep H (A3 :: A0 :: A1 :: A2 :: L) := Sep.out h 3 rfl
theorem Sep.up4 {A0 A1 A2 A3 A4 : Asr} (h : Sep H (A0 :: A1 :: A2 :: A3 :: A4 :: L)) : Sep H (A4 :: A0 :: A1 :: A2 :: A3 :: L) := Sep.out h 4 rfl
theorem Sep.up5 {A0 A1 A2 A3 A4 A5 : Asr} (h : Sep H (A0 :: A1 :: A2 :: A3 :: A4 :: A5 :: L)) : Sep H (A5 :: A0 :: A1 :: A2 :: A3 :: A4 :: L) := Sep.out h 5 rfl
theorem Sep.up6 {A0 A1 A2 A3 A4 A5 A6 : Asr} (h : Sep H (A0 :: A1 :: A2 :: A3 :: A4 :: A5 :: A6 :: L)) : Sep H (A6 :: A0 :: A1 :: A2 :: A3 :: A4 :: A5 :: L) := Sep.out h 6 rfl
theorem Sep.ld0 {i z o : Nat} {w : Bool} {c : List Value} {v : Value} (h : Sep H (bx i (.cells w z c) :: L)) (hv : c[o]? = some v) : H.cell i o = some v := Sep.ld h 0 rfl hv
theorem Sep.lds0 {i z o n : Nat} {w : Bool} {c : List Value} {v : List Value} (h : Sep H (bx i (.cells w z c) :: L)) (hv : takeAt c o n = some v) : H.cellsAt i o n = some v := Sep.lds h 0 rfl hv
theorem Sep.get0 {i : Nat} {x : Obj} (h : Sep H (bx i x :: L)) : H.get i = some x := Sep.get h 0 rfl
theorem Sep.st0 {i z o : Nat} {c vs : List Value} {K : Heap → Prop} (h : Sep H (bx i (.cells true z c) :: L)) (hl : o + vs.length ≤ c.length) (r : ∀ H', Sep H' (bx i (.cells true z (setAt c o vs)) :: L) → K H') : stc H i o vs K := Sep.st h 0 rfl hl r
theorem Sep.put0 {i : Nat} {x : Obj} (h : Sep H (bx i x :: L)) (y : Obj) : Sep (H.set i y) (bx i y :: L) := Sep.set h 0 y rfl
theorem Sep.ld1 {A0 : Asr} {i z o : Nat} {w : Bool} {c : List Value} {v : Value} (h : Sep H (A0 :: bx i (.cells w z c) :: L)) (hv : c[o]? = some v) : H.cell i o = some v := Sep.ld h 1 rfl hv
theorem Sep.lds1 {A0 : Asr} {i z o n : Nat} {w : Bool} {c : List Value} {v : List Value} (h : Sep H (A0 :: bx i (.cells w z c) :: L)) (hv : takeAt c o n = some v) : H.cellsAt i o n = some v := Sep.lds h 1 rfl hv
theorem Sep.get1 {A0 : Asr} {i : Nat} {x : Obj} (h : Sep H (A0 :: bx i x :: L)) : H.get i = some x := Sep.get h 1 rfl
theorem Sep.st1 {A0 : Asr} {i z o : Nat} {c vs : List Value} {K : Heap → Prop} (h : Sep H (A0 :: bx i (.cells true z c) :: L)) (hl : o + vs.length ≤ c.length) (r : ∀ H', Sep H' (A0 :: bx i (.cells true z (setAt c o vs)) :: L) → K H') : stc H i o vs K := Sep.st h 1 rfl hl r
theorem Sep.one1 {A0 : Asr} {A : Asr} (h : Sep H (A0 :: A :: L)) : A.holds H := Sep.one h 1 rfl
theorem Sep.ld2 {A0 A1 : Asr} {i z o : Nat} {w : Bool} {c : List Value} {v : Value} (h : Sep H (A0 :: A1 :: bx i (.cells w z c) :: L)) (hv : c[o]? = some v) : H.cell i o = some v := Sep.ld h 2 rfl hv
theorem Sep.lds2 {A0 A1 : Asr} {i z o n : Nat} {w : Bool} {c : List Value} {v : List Value} (h : Sep H (A0 :: A1 :: bx i (.cells w z c) :: L)) (hv : takeAt c o n = some v) : H.cellsAt i o n = some v := Sep.lds h 2 rfl hv
theorem Sep.get2 {A0 A1 : Asr} {i : Nat} {x : Obj} (h : Sep H (A0 :: A1 :: bx i x :: L)) : H.get i = some x := Sep.get h 2 rfl
theorem Sep.st2 {A0 A1 : Asr} {i z o : Nat} {c vs : List Value} {K : Heap → Prop} (h : Sep H (A0 :: A1 :: bx i (.cells true z c) :: L)) (hl : o + vs.length ≤ c.length) (r : ∀ H', Sep H' (A0 :: A1 :: bx i (.cells true z (setAt c o vs)) :: L) → K H') : stc H i o vs K := Sep.st h 2 rfl hl r
theorem Sep.ld3 {A0 A1 A2 : Asr} {i z o : Nat} {w : Bool} {c : List Value} {v : Value} (h : Sep H (A0 :: A1 :: A2 :: bx i (.cells w z c) :: L)) (hv : c[o]? = some v) : H.cell i o = some v := Sep.ld h 3 rfl hv
theorem Sep.lds3 {A0 A1 A2 : Asr} {i z o n : Nat} {w : Bool} {c : List Value} {v : List Value} (h : Sep H (A0 :: A1 :: A2 :: bx i (.cells w z c) :: L)) (hv : takeAt c o n = some v) : H.cellsAt i o n = some v := Sep.lds h 3 rfl hv
theorem Sep.get3 {A0 A1 A2 : Asr} {i : Nat} {x : Obj} (h : Sep H (A0 :: A1 :: A2 :: bx i x :: L)) : H.get i = some x := Sep.get h 3 rfl
theorem Sep.st3 {A0 A1 A2 : Asr} {i z o : Nat} {c vs : List Value} {K : Heap → Prop} (h : Sep H (A0 :: A1 :: A2 :: bx i (.cells true z c) :: L)) (hl : o + vs.length ≤ c.length) (r : ∀ H', Sep H' (A0 :: A1 :: A2 :: bx i (.cells true z (setAt c o vs)) :: L) → K H') : stc H i o vs K := Sep.st h 3 rfl hl r
theorem Sep.ld4 {A0 A1 A2 A3 : Asr} {i z o : Nat} {w : Bool} {c : List Value} {v : Value} (h : Sep H (A0 :: A1 :: A2 :: A3 :: bx i (.cells w z c) :: L)) (hv : c[o]? = some v) : H.cell i o = some v := Sep.ld h 4 rfl hv
theorem Sep.st4 {A0 A1 A2 A3 : Asr} {i z o : Nat} {c vs : List Value} {K : Heap → Prop} (h : Sep H (A0 :: A1 :: A2 :: A3 :: bx i (.cells true z c) :: L)) (hl : o + vs.length ≤ c.length) (r : ∀ H', Sep H' (A0 :: A1 :: A2 :: A3 :: bx i (.cells true z (setAt c o vs)) :: L) → K H') : stc H i o vs K := Sep.st h 4 rfl hl r
theorem Sep.ld5 {A0 A1 A2 A3 A4 : Asr} {i z o : Nat} {w : Bool} {c : List Value} {v : Value} (h : Sep H (A0 :: A1 :: A2 :: A3 :: A4 :: bx i (.cells w z c) :: L)) (hv : c[o]? = some v) : H.cell i o = some v := Sep.ld h 5 rfl hv
theorem Sep.st5 {A0 A1 A2 A3 A4 : Asr} {i z o : Nat} {c vs : List Value} {K : Heap → Prop} (h : Sep H (A0 :: A1 :: A2 :: A3 :: A4 :: bx i (.cells true z c) :: L)) (hl : o + vs.length ≤ c.length) (r : ∀ H', Sep H' (A0 :: A1 :: A2 :: A3 :: A4 :: bx i (.cells true z (setAt c o vs)) :: L) → K H') : stc H i o vs K := Sep.st h 5 rfl hl r
theorem Sep.lds8 {A0 A1 A2 A3 A4 A5 A6 A7 : Asr} {i z o n : Nat} {w : Bool} {c : List Value} {v : List Value} (h : Sep H (A0 :: A1 :: A2 :: A3 :: A4 :: A5 :: A6 :: A7 :: bx i (.cells w z c) :: L)) (hv : takeAt c o n = some v) : H.cellsAt i o n = some v := Sep.lds h 8 rfl hv
end Go.AS
namespace Go.AS
open Go.RowKit
set_option linter.unusedVariables false
variable {H H' : Heap} {L M : List Asr}
theorem rowsFlat_len {w : Nat} : ∀ (css : List (List Value)), (∀ c ∈ css, c.length = w) → css.flatten.length = css.length * w
  | [], _ => by simp
  | c :: css, h => by
    rw [List.flatten_cons, List.length_append, rowsFlat_len css fun d hd => h d (List.mem_cons_of_mem _ hd), h c (by simp), List.length_cons, Nat.add_mul]
    omega
theorem rowsFlat_drop {w : Nat} : ∀ (css : List (List Value)) (j : Nat), (∀ c ∈ css, c.length = w) → css.flatten.drop (j * w) = (css.drop j).flatten
  | css, 0, _ => by simp
  | [], j + 1, _ => by simp
  | c :: css, j + 1, h => by
    have hc := h c (by simp)
    rw [List.flatten_cons, Nat.add_mul, Nat.one_mul, Nat.add_comm, ← hc, ← List.drop_drop, List.drop_left, hc, List.drop_succ_cons]
    exact rowsFlat_drop css j fun d hd => h d (List.mem_cons_of_mem _ hd)
theorem rowsFlat_takeAt {w : Nat} {css : List (List Value)} {j : Nat} (h : ∀ c ∈ css, c.length = w) (hj : j < css.length) : takeAt css.flatten (j * w) w = some css[j] := by
  have h1 := rowsFlat_len css h
  have h2 : j * w + w ≤ css.length * w := by rw [← Nat.succ_mul]; exact Nat.mul_le_mul_right _ hj
  unfold takeAt
  rw [if_pos (by omega), rowsFlat_drop css j h, List.drop_eq_getElem_cons hj, List.flatten_cons]
  have h3 : (css[j]).length = w := h _ (List.getElem_mem hj)
  congr 1
  conv => lhs; rw [← h3]
  exact List.take_left
theorem rowsFlat_cell {w : Nat} {css : List (List Value)} {j k : Nat} (h : ∀ c ∈ css, c.length = w) (hj : j < css.length) (hk : k < w) : css.flatten[j * w + k]? = (css[j])[k]? := by
  have h3 : (css[j]).length = w := h _ (List.getElem_mem hj)
  rw [← List.getElem?_drop, rowsFlat_drop css j h, List.drop_eq_getElem_cons hj, List.flatten_cons, List.getElem?_append_left (by omega)]
inductive Arg : Option Addr → Nat → List (List Value) → List Asr → Prop where
  | none : Arg none 0 [] []
  | some (i : Nat) (css : List (List Value)) : Arg (some ⟨i, 0, Option.none⟩) css.length css [bx i (.cells false 0 css.flatten)]
theorem Arg.len {a n css} (h : Arg a n css M) : n = css.length := by cases h <;> rfl
theorem Arg.row {a n css w} (ha : Arg a n css M) (h : Sep H L) (hM : ∀ A ∈ M, A ∈ L) (hw : ∀ c ∈ css, c.length = w) {j : Nat} (hj : j < css.length) :
    ∃ i, a = Option.some ⟨i, 0, Option.none⟩ ∧ H.cellsAt i (0 + j * w) w = Option.some css[j] ∧ ∀ k, k < w → H.cell i (0 + j * w + k) = (css[j])[k]? := by
  cases ha with
  | none => simp at hj
  | some i css =>
    have hg : H.get i = Option.some (.cells false 0 css.flatten) := h.all (bx i (.cells false 0 css.flatten)) (hM _ (by simp))
    refine ⟨i, rfl, ?_, fun k hk => ?_⟩
    · rw [cellsAt_of hg, Nat.zero_add]; exact rowsFlat_takeAt hw hj
    · rw [cell_of hg, Nat.zero_add]; exact rowsFlat_cell hw hj hk
theorem Arg.of {P : List Value → Prop} {v : Value} (h : v = .slice Option.none 0 0 ∨ ∃ (i : Nat) (cs : List (List Value)), v = .slice (Option.some ⟨i, 0, Option.none⟩) cs.length 0 ∧ i < H.next ∧ H.get i = Option.some (.cells false 0 cs.flatten) ∧ ∀ c ∈ cs, P c) :
    ∃ a n css M, v = .slice a n 0 ∧ Arg a n css M ∧ Sep H M ∧ (∀ c ∈ css, P c) := by
  rcases h with rfl | ⟨i, cs, rfl, hi, hg, hc⟩
  · exact ⟨_, _, [], [], rfl, .none, Sep.nil, by simp⟩
  · refine ⟨_, _, cs, _, rfl, .some i cs, ⟨?_, ?_, ?_⟩, hc⟩
    · intro A hA
      simp only [List.mem_singleton] at hA
      subst hA; exact hg
    · simp [feet, bx]
    · intro j hj
      simp [feet, bx] at hj
      subst hj; exact hi
theorem Sep.many0 (h : Sep H L) : Sep H (many [] :: L) := Sep.many_iff.2 h
theorem Sep.many1 {A : Asr} : Sep H (many [A] :: L) ↔ Sep H (A :: L) := Sep.many_iff
theorem Sep.splitM {A X B : List Asr} : Sep H (many (A ++ (X ++ B)) :: L) ↔ Sep H (many X :: many (A ++ B) :: L) := by
  rw [Sep.many_iff, Sep.many_iff]
  have e : Sep H (X ++ many (A ++ B) :: L) ↔ Sep H (many (A ++ B) :: (X ++ L)) := ⟨fun h => h.perm List.perm_middle, fun h => h.perm List.perm_middle.symm⟩
  rw [e, Sep.many_iff]
  have p : (A ++ (X ++ B) ++ L).Perm (A ++ B ++ (X ++ L)) := by
    simp only [List.append_assoc]
    exact List.Perm.append_left A (List.perm_append_comm_assoc X B L)
  exact ⟨fun h => h.perm p, fun h => h.perm p.symm⟩
variable {i w k : Nat} {ow : Bool} {css : List (List Value)} {row : List Value}
theorem flatMap_split {α β : Type} {f : α → List β} {l : List α} {k : Nat} {x : α} (hk : l[k]? = Option.some x) : l.flatMap f = (l.take k).flatMap f ++ (f x ++ (l.drop (k + 1)).flatMap f) := by
  obtain ⟨hl, hg⟩ := List.getElem?_eq_some_iff.1 hk
  conv => lhs; rw [← List.take_append_drop k l, List.drop_eq_getElem_cons hl, hg]
  simp [List.flatMap_append]
theorem flatMap_set {α β : Type} {f : α → List β} {l : List α} {k : Nat} {y : α} (hk : k < l.length) : (l.set k y).flatMap f = (l.take k).flatMap f ++ (f y ++ (l.drop (k + 1)).flatMap f) := by
  have h1 : (l.set k y)[k]? = Option.some y := by rw [List.getElem?_set_self hk]
  rw [flatMap_split h1, List.take_set, List.drop_set]
  rw [if_pos (by omega), List.set_eq_of_length_le (by rw [List.length_take]; omega)]
end Go.AS
namespace Go.Proofs.YtjggeoghlicmdaaGreat
open Go Go.AS Go.RowKit
set_option linter.unusedVariables false
abbrev P (i : Nat) : Value := .pointer (some ⟨i, 0, none⟩)
abbrev I (n : Int) : Value := .int .i64 n
variable {H H' : Heap} {R : Value → Heap → Prop} {L : List Asr}
theorem Pick_ok {v n : Int} (hn : 1 ≤ n) (hl : n ≤ 4611686018427387904) (hR : R (I (v % n)) H) : CA en F.crossbarkit_Pick [I v, I n] H R := by
  apply vc_crossbarkit_Pick
  refine cond_no (by simp; omega) ⟨by unfold nz; omega, ?_⟩
  have hb : (v.tmod n).natAbs < n.natAbs := by
    rw [Int.natAbs_tmod]; exact Nat.mod_lt _ (by omega)
  have h1 : v % n = if v.tmod n < 0 then v.tmod n + n else v.tmod n := by
    have e1 := Int.tmod_add_mul_tdiv v n
    split
    · rename_i h
      have : v % n = (v.tmod n + n) % n := by
        conv => lhs; rw [← e1]
        rw [Int.add_mul_emod_self_left, Int.add_emod_right]
      rw [this]; exact Int.emod_eq_of_lt (by omega) (by omega)
    · rename_i h
      have : v % n = (v.tmod n) % n := by
        conv => lhs; rw [← e1]
        rw [Int.add_mul_emod_self_left]
      rw [this]; exact Int.emod_eq_of_lt (by omega) (by omega)
  rw [h1] at hR
  refine cond_of (fun h => ?_) fun h => ?_
  · simp only [decide_eq_true_eq] at h
    rw [if_pos h] at hR
    rw [wrap_i64 (by omega)]; exact hR
  · simp only [decide_eq_false_iff_not] at h
    rw [if_neg h] at hR; exact hR
def WRow (H : Heap) (a : Option Addr) (ws : List (BitVec 64)) : Prop := ws = [] ∨ ∃ b w z, a = some ⟨b, 0, none⟩ ∧ b < H.next ∧ H.get b = some (AS.Obj.cells w z (ws.map W))
theorem WRow.frm {a : Option Addr} {ws : List (BitVec 64)} (h : WRow H a ws) (f : Frm [] H H') : WRow H' a ws :=
  h.imp_right fun ⟨b, w, z, h1, h2, h3⟩ => ⟨b, w, z, h1, Nat.lt_of_lt_of_le h2 f.1, by rw [f.2 b h2 (by simp)]; exact h3⟩
theorem WRow.at' {a : Option Addr} {ws : List (BitVec 64)} (h : WRow H a ws) {j : Nat} (hj : j < ws.length) : ∃ b, a = some ⟨b, 0, none⟩ ∧ H.cell b (0 + j * 1) = some (W (ws.getD j 0)) := by
  rcases h with rfl | ⟨b, w, z, rfl, _, hg⟩
  · simp at hj
  · refine ⟨b, rfl, ?_⟩
    rw [cell_of hg, Nat.zero_add, Nat.mul_one, List.getElem?_map, List.getElem?_eq_getElem hj, List.getD_eq_getElem?_getD, List.getElem?_eq_getElem hj]
    rfl
theorem SameWords_ok {a1 a2 : Option Addr} {w1 w2 : List (BitVec 64)} (h1 : WRow H a1 w1) (h2 : WRow H a2 w2) (hb : w1.length < 9223372036854775807) (hR : ∀ H', Frm [] H H' → R (.bool (decide (w1 = w2))) H') :
    CA en F.crossbarkit_SameWords [.slice a1 w1.length 0, .slice a2 w2.length 0] H R := by
  apply vc_crossbarkit_SameWords
  refine cond_of (fun h => ?_) fun h => ?_
  · have hne : ¬ w1 = w2 := by rintro rfl; simp at h
    have := hR H (Frm.refl _ _)
    rw [decide_eq_false hne] at this; exact this
  have hlen : w1.length = w2.length := by
    by_cases e : w1.length = w2.length
    · exact e
    · exfalso; revert h; simp; omega
  refine use_crossbarkit_SameWords_0 (fun k _ t H' => ∃ j : Nat, j ≤ w1.length ∧ k = w1.length - j ∧ t = (j : Int) ∧ Frm [] H H' ∧ w1.take j = w2.take j) w1.length ⟨0, by omega, rfl, rfl, Frm.refl _ _, rfl⟩ ?_
  rintro k t4 t ys H' ⟨j, hj, rfl, rfl, f, he⟩
  refine cond_of (fun hc => ?_) fun hc => ?_
  · simp only [decide_eq_true_eq] at hc
    have hj1 : j < w1.length := by omega
    have hj2 : j < w2.length := by omega
    obtain ⟨b1, rfl, e1⟩ := (h1.frm f).at' hj1
    obtain ⟨b2, rfl, e2⟩ := (h2.frm f).at' hj2
    refine ⟨by unfold inB; omega, asRow_in ⟨_, e1, by unfold inB; omega, asRow_in ⟨_, e2, ?_, trivial⟩⟩⟩
    rw [bv_bne]
    have g1 : w1.getD j 0 = w1[j] := by rw [List.getD_eq_getElem?_getD, List.getElem?_eq_getElem hj1]; rfl
    have g2 : w2.getD j 0 = w2[j] := by rw [List.getD_eq_getElem?_getD, List.getElem?_eq_getElem hj2]; rfl
    refine cond_of (fun hn => ?_) fun hn => ⟨w1.length - (j + 1), by omega, j + 1, by omega, rfl, by rw [wrap_i64 (by omega)]; omega, f.bump _, ?_⟩
    · have hne : ¬ w1 = w2 := by
        rintro rfl
        simp at hn
      have := hR _ (f.bump 9)
      rw [decide_eq_false hne] at this
      exact asBool_in this
    · rw [List.take_succ_eq_append_getElem hj1, List.take_succ_eq_append_getElem hj2, he]
      have : w1.getD j 0 = w2.getD j 0 := by simpa using hn
      rw [g1, g2] at this
      rw [this]
  · simp only [decide_eq_false_iff_not] at hc
    obtain rfl : j = w1.length := by omega
    rw [List.take_length, hlen, List.take_length] at he
    have := hR _ f
    rw [decide_eq_true he] at this
    exact asBool_in this
end Go.Proofs.YtjggeoghlicmdaaGreat
