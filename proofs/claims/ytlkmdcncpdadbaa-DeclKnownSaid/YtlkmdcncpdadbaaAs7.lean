/-
  The plain machine's regions are the model's.
-/
import Derived.Test.YtlkmdcncpdadbaaAs6
namespace Go.AS
open Go.RowKit
set_option linter.unusedVariables false

/-- What a function's meaning is worth. -/
def FOK (E : Env) (B0 : Nat) (sem : FSem) : Prop :=
  ∀ f args H v H', sem f args H = some (v, H') → ∀ μ w (ARGS : Array Value), HRel E B0 μ H w → VRels μ args ARGS.toList →
    Calls E.prog f ARGS w fun e w' => ∃ V μ', e = .returned V ∧ Grow H μ H' μ' ∧ VRel μ' v V ∧ HRel E B0 μ' H' w' ∧ Below B0 w w'

def TRel (μ : Inj) (T : Tr Value) (a : Act) : Prop :=
  (∀ t, (T.get t = none ∧ a.tmps[t]? = none) ∨ ∃ v V, T.get t = some v ∧ a.tmps[t]? = some V ∧ VRel μ v V) ∧ a.defers = []

section
variable {E : Env} (hE : E.Ok) {B0 : Nat} {μ : Inj} {H : Heap} {w : World}

theorem TRel.mono {μ' : Inj} (hle : Inj.le μ μ') {T : Tr Value} {a : Act} (h : TRel μ T a) : TRel μ' T a :=
  ⟨fun t => (h.1 t).imp id fun ⟨v, V, h1, h2, h3⟩ => ⟨v, V, h1, h2, h3.mono hle⟩, h.2⟩

theorem VRel.undef : VRel μ undef undef := .tuple .nil

theorem TRel.at {T : Tr Value} {a : Act} (h : TRel μ T a) (t : Nat) : VRel μ ((T.get t).getD Go.undef) (a.tmps.getD t Go.undef) := by
  rcases h.1 t with ⟨h1, h2⟩ | ⟨v, V, h1, h2, h3⟩
  · rw [h1, Array.getD_eq_getD_getElem?, h2]; exact VRel.undef
  · rw [h1, Array.getD_eq_getD_getElem?, h2]; exact h3

theorem ev_rel (hH : HRel E B0 μ H w) {T : Tr Value} {a : Act} (h : TRel μ T a) (x : Operand) : VRel μ (ev E T x) (a.eval x) := by
  cases x with
  | tmp t => exact h.at t
  | const v =>
    simp only [ev, Act.eval]
    cases hp : plain v with
    | true => exact plain_rel hp
    | false => exact .top _
  | global g =>
    simp only [ev, Act.eval]
    cases hb : Nat.ble (g + 1) E.ng with
    | true =>
      obtain ⟨L, h1, h2, h3⟩ := hH.glob g (Nat.le_of_ble_eq_true hb)
      have := VRel.ptr (μ := μ) (i := g) (o := 0) h1
      rw [h2, h3] at this
      exact this
    | false => exact .top _
  | func f => exact .func .nil .nil

theorem TRel.put {T : Tr Value} {a : Act} (h : TRel μ T a) (d : Option Tmp) {v V : Value} (hv : VRel μ v V) : TRel μ (putT T d v) (a.put d V) := by
  cases d with
  | none => exact h
  | some d =>
    refine ⟨fun t => ?_, h.2⟩
    simp only [putT, Act.put, Tr.get_upd]
    rw [Array.getElem?_setIfInBounds]
    by_cases e : t = d
    · subst e
      rw [if_pos rfl, if_pos rfl]
      rcases h.1 t with ⟨h1, h2⟩ | ⟨v', V', h1, h2, h3⟩
      · left
        refine ⟨by rw [h1]; rfl, ?_⟩
        rw [if_neg]
        intro hlt
        rw [Array.getElem?_eq_getElem hlt] at h2
        cases h2
      · right
        refine ⟨v, V, by rw [h1]; rfl, ?_, hv⟩
        rw [if_pos]
        rcases Nat.lt_or_ge t a.tmps.size with hlt | hge
        · exact hlt
        · rw [Array.getElem?_eq_none hge] at h2; cases h2
    · rw [if_neg e, if_neg (fun h => e h.symm)]
      exact h.1 t

theorem wanted_ok {ops : Array Oper} {T : Tr Value} {a : Act} (h : TRel μ T a) {o : Oper} {b : Bool} (hw : wantedA ops T o = some b) : Region.wanted o (yielded ops a.tmps) = b := by
  unfold wantedA at hw
  unfold Region.wanted
  cases hg : o.guard with
  | none => rw [hg] at hw; simpa using hw
  | some p =>
    obtain ⟨j, want⟩ := p
    rw [hg] at hw
    simp only at hw ⊢
    unfold yielded
    cases hd : (ops[j]?).bind (·.dst) with
    | none => rw [hd] at hw; simp only [Option.some.injEq] at hw; subst hw; rfl
    | some d =>
      rw [hd] at hw
      simp only [Option.bind_some] at hw ⊢
      rcases h.1 d with ⟨h1, h2⟩ | ⟨v, V, h1, h2, h3⟩
      · rw [h1] at hw; rw [h2]; simp only [Option.some.injEq] at hw; subst hw; rfl
      · rw [h1] at hw; rw [h2]
        cases h3
        case tuple cs CS hs =>
          obtain ⟨cs⟩ := cs
          obtain ⟨CS⟩ := CS
          cases hs with
          | nil => simp only [Option.some.injEq] at hw; subst hw; rfl
          | cons _ _ => cases hw
        case bool x => simp only [Option.some.injEq] at hw; subst hw; rfl
        all_goals (cases hw)

/-- What an operation's answer is worth, at a frame. -/
theorem oper_ok (hE : E.Ok) {sem : FSem} (hF : FOK E B0 sem) (hH : HRel E B0 μ H w) {o : Oper} {T T0 : Tr Value} {a : Act} (hev : ∀ x, VRel μ (ev E T0 x) (a.eval x)) (hT : TRel μ T a)
    {v : Value} {H' : Heap} (h : resA sem (aop E (ev E T0) o.op H) H = some (v, H')) {K : Act → World → Prop} {Q : Exit → Act → World → Prop}
    (hK : ∀ V μ' w', Grow H μ H' μ' → VRel μ' v V → TRel μ' (putT T o.dst v) (a.put o.dst V) → HRel E B0 μ' H' w' → Below B0 w w' → K (a.put o.dst V) w') : o.wp E.prog a w K Q := by
  unfold Oper.wp
  cases hr : aop E (ev E T0) o.op H with
  | none => rw [hr] at h; cases h
  | some r =>
    rw [hr] at h
    have hop := aop_ok hE hH hev hr
    cases r with
    | val v0 H0 =>
      simp only [resA, Option.some.injEq, Prod.mk.injEq] at h
      obtain ⟨rfl, rfl⟩ := h
      obtain ⟨N, V, w', μ', h1, h2, h3, h4, h5, h6⟩ := hop
      rw [h1]
      rcases h2 with rfl | ⟨rfl, rfl⟩
      · exact hK V μ' w' h3 h4 ((hT.mono h3.le).put _ h4) h5 h6
      · exact hK Go.undef μ' w' h3 h4 ((hT.mono h3.le).put _ h4) h5 h6
    | call f args =>
      simp only [resA] at h
      obtain ⟨ARGS, h1, h2⟩ := hop
      rw [h1]
      refine (hF f args H v H' h μ w ARGS hH h2).mono ?_
      rintro e w' ⟨V, μ', rfl, h3, h4, h5, h6⟩
      exact hK V μ' w' h3 h4 ((hT.mono h3.le).put _ h4) h5 h6

def SRel (E : Env) (B0 : Nat) (μ : Inj) (s : St) (a : Act) (w : World) : Prop := TRel μ s.T a ∧ HRel E B0 μ s.H w

theorem runOps_ok (hE : E.Ok) {sem : FSem} (hF : FOK E B0 sem) {ops : Array Oper} {Q : Exit → Act → World → Prop} : ∀ (l : List Oper) (s s' : St) (μ : Inj) (a : Act) (w : World),
    runOps E sem ops l s = some s' → SRel E B0 μ s a w → (∀ μ' a' w', Grow s.H μ s'.H μ' → SRel E B0 μ' s' a' w' → Below B0 w w' → Q .normal a' w') → wpList E.prog ops Q l a w
  | [], s, s', μ, a, w, h, hs, hQ => by
    simp only [runOps, Option.some.injEq] at h
    subst h
    exact hQ μ a w (Grow.refl _ _) hs (Below.refl _ _)
  | o :: l, s, s', μ, a, w, h, hs, hQ => by
    simp only [runOps] at h
    cases hst : stepA E sem ops o s with
    | none => rw [hst] at h; cases h
    | some s1 =>
      rw [hst] at h
      simp only at h
      unfold stepA at hst
      unfold wpList
      cases hw : wantedA ops s.T o with
      | none => rw [hw] at hst; cases hst
      | some b =>
        rw [hw] at hst
        have hwt := wanted_ok hs.1 hw
        rw [hwt]
        cases b with
        | false =>
          simp only [Option.some.injEq] at hst
          subst hst
          rw [if_neg (by simp)]
          exact runOps_ok hE hF l _ s' μ _ w h ⟨hs.1.put _ VRel.undef, hs.2⟩ hQ
        | true =>
          simp only at hst
          rw [if_pos rfl]
          left
          cases hr : resA sem (aop E (ev E s.T) o.op s.H) s.H with
          | none => rw [hr] at hst; cases hst
          | some p =>
            obtain ⟨v, H'⟩ := p
            rw [hr] at hst
            simp only [Option.some.injEq] at hst
            subst hst
            refine oper_ok hE hF hs.2 (fun x => ev_rel hs.2 hs.1 x) hs.1 hr ?_
            intro V μ' w' q1 q2 q3 q4 q5
            exact runOps_ok hE hF l _ s' μ' _ w' h ⟨q3, q4⟩ fun μ2 a2 w2 r1 r2 r3 => hQ μ2 a2 w2 (q1.trans r1) r2 (q5.trans r3)
end
end Go.AS
