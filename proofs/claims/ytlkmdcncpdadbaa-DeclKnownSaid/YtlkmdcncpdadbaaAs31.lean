/-
  A law over arguments of plain shapes: from the plain machine to the model.
-/
import Derived.Test.YtlkmdcncpdadbaaAs30
import Derived.WideShapes
namespace Go.AS
open Go.RowKit Go.ChangeShapes Go.WideShapes
set_option linter.unusedVariables false

section
variable {E : Env}

def shpV (E : Env) (H : Heap) (d t : Nat) (v : Value) : Prop :=
  match und E t with
  | some (.struct _) => ∃ l, v = .agg ⟨l⟩ ∧ shp E H d t l
  | _ => shp E H d t [v]

def shpVs (E : Env) (H : Heap) (d : Nat) : List Nat → List Value → Prop
  | [], vs => vs = []
  | t :: ts, vs => ∃ v us, vs = v :: us ∧ shpV E H d t v ∧ shpVs E H d ts us

theorem shpV_frm {H H' : Heap} (hf : Frm [] H H') {d t : Nat} {v : Value} (h : shpV E H d t v) : shpV E H' d t v := by
  unfold shpV at h ⊢
  split
  · rename_i hu; rw [hu] at h; obtain ⟨l, e, h⟩ := h; exact ⟨l, e, shp_frm hf h⟩
  · rename_i hu
    split at h
    · rename_i hu2; exact (hu _ hu2).elim
    · exact shp_frm hf h

variable {w : World} {D : Type} {enc : TypeId × Value → D} {spare : Nat → Bool} {held : Bool} {r : Reach} {bs : Nat}

theorem open_arg (hE : E.Ok) {t d : Nat} {v : Value} {x : DataW D} {ps : List MemPlace} (h : DataW.Trod enc E.prog w 0 spare held t v x ps) (hv : Value.okWide E.prog w r bs t v) (ho : okTy E d t = true)
    {μ : Inj} {H : Heap} (hH : HRel E w.heap.size μ H w) : ∃ (μ' : Inj) (H' : Heap) (u : Value), Grow H μ H' μ' ∧ HRel E w.heap.size μ' H' w ∧ VRel μ' u v ∧ shpV E H' d t u ∧ Frm [] H H' := by
  obtain ⟨fuel, h⟩ := h
  obtain ⟨μ', H', vs, g1, h1, r1, s1, f1, o1⟩ := open_cells hE fuel t _ _ h d ho hH
  cases d with
  | zero => simp [okTy] at ho
  | succ d =>
  unfold okTy at ho
  split at ho
  · rename_i hu
    have hP := und_ok hE hu
    obtain ⟨b, hb⟩ : ∃ b, v = .bool b := by
      simp only [Value.okWide, hP, Cell.okWide, Cell.ok] at hv
      cases v <;> simp_all
    subst hb
    unfold shp at s1
    rw [hu] at s1
    obtain ⟨b', rfl⟩ := s1
    refine ⟨μ', H', .bool b', g1, h1, ?_, by unfold shpV; rw [hu]; unfold shp; rw [hu]; exact ⟨_, rfl⟩, f1⟩
    cases r1 with
    | cons a b => exact a
  · rename_i k hu
    have hP := und_ok hE hu
    obtain ⟨n, hb⟩ := okWide_int hP hv
    subst hb
    have s1' := s1
    unfold shp at s1
    rw [hu] at s1
    obtain ⟨b', rfl, hw⟩ := s1
    refine ⟨μ', H', .int k b', g1, h1, ?_, by unfold shpV; rw [hu]; exact s1', f1⟩
    cases r1 with
    | cons a b => exact a
  · rename_i e hu
    have hP := und_ok hE hu
    obtain ⟨a, len, cap, hb⟩ := okWide_slice hP hv
    subst hb
    have s1' := s1
    unfold shp at s1
    rw [hu] at s1
    obtain ⟨u, rfl⟩ : ∃ u, vs = [u] := by
      rcases s1 with rfl | ⟨i, cs, rfl, _⟩ <;> exact ⟨_, rfl⟩
    refine ⟨μ', H', u, g1, h1, ?_, by unfold shpV; rw [hu]; exact s1', f1⟩
    cases r1 with
    | cons a b => exact a
  · rename_i fs hu
    have hP := und_ok hE hu
    have hb : ∃ cs, v = .agg cs := by
      simp only [Value.okWide, hP] at hv
      obtain ⟨cs, e, _⟩ := hv
      exact ⟨cs, e⟩
    obtain ⟨cs, rfl⟩ := hb
    exact ⟨μ', H', .agg ⟨vs⟩, g1, h1, .agg r1, by unfold shpV; rw [hu]; exact ⟨vs, rfl, s1⟩, f1⟩
  · cases ho

theorem open_args (hE : E.Ok) {d : Nat} : ∀ (ts : List TypeId) (vs : List Value) (xs : List (DataW D)) (ps : List MemPlace), DataW.TrodAll enc E.prog w 0 spare held ts vs xs ps →
    (∀ (j : Nat) t v, ts[j]? = some t → vs[j]? = some v → Value.okWide E.prog w r bs t v) → ts.all (okTy E d) = true → ∀ {μ : Inj} {H : Heap}, HRel E w.heap.size μ H w →
    ∃ (μ' : Inj) (H' : Heap) (us : List Value), HRel E w.heap.size μ' H' w ∧ VRels μ' us vs ∧ shpVs E H' d ts us ∧ Grow H μ H' μ' ∧ Frm [] H H'
  | [], vs, xs, ps, h, _, _, μ, H, hH => by
    obtain ⟨rfl, rfl, rfl⟩ := Go.ChangeShapes.trodAll_nil h
    exact ⟨μ, H, [], hH, .nil, rfl, Grow.refl _ _, Frm.refl _ _⟩
  | t :: ts, vs, xs, ps, h, hv, ho, μ, H, hH => by
    obtain ⟨v, vs', x, xs', p, q, rfl, rfl, rfl, h1, h2⟩ := Go.ChangeShapes.trodAll_cons h
    simp only [List.all_cons, Bool.and_eq_true] at ho
    obtain ⟨μ1, H1, u, g1, k1, r1, s1, f1⟩ := open_arg hE h1 (hv 0 t v rfl rfl) ho.1 hH
    obtain ⟨μ2, H2, us, k2, r2, s2, g2, f2⟩ := open_args hE ts vs' xs' q h2 (fun j t v a b => hv (j + 1) t v (by simpa using a) (by simpa using b)) ho.2 k1
    exact ⟨μ2, H2, u :: us, k2, .cons (r1.mono g2.le) r2, ⟨u, us, rfl, shpV_frm f2 s1, s2⟩, g1.trans g2, f1.trans f2 (by simp)⟩

/-- A law that holds of all arguments of these shapes. -/
theorem law_calls (hE : E.Ok) (hmix : E.prog.follows .mixedOrders = true) {f : FuncId} {d : Nat} {ts : List TypeId} (hlaw : ∀ H us, shpVs E H d ts us → CA E f us H fun v _ => v = .bool true)
    (ho : ts.all (okTy E d) = true) {vs : Array Value} {xs : List (DataW D)} {ps : List MemPlace} (h : DataW.TrodAll enc E.prog w 0 spare held ts vs.toList xs ps)
    (hv : ∀ (j : Nat) t v, ts[j]? = some t → vs[j]? = some v → Value.okWide E.prog w r bs t v) :
    Calls E.prog f vs w fun e w' => e = .returned (.bool true) ∧ Below w.heap.size w w' := by
  obtain ⟨μ, H, us, h1, h2, h3, _, _⟩ := open_args hE ts vs.toList xs ps h (fun j t v a b => hv j t v a (by rw [← Array.getElem?_toList]; exact b)) ho (hrel0 E w)
  exact calls_of_CA hE hmix (hlaw H us h3) h1 h2
end
end Go.AS
