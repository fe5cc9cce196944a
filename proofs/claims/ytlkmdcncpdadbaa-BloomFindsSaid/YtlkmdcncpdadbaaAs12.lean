/-
  Rules for the plain machine: what a piece of code does, without a bound on its steps.
-/
import Derived.Test.YtlkmdcncpdadbaaAs11
namespace Go.AS
open Go.RowKit
set_option linter.unusedVariables false

section
variable {E : Env}

/-! ### More steps do no harm -/
def FLe (fs gs : FSem) : Prop := ∀ f a H r, fs f a H = some r → gs f a H = some r

theorem resA_mono {fs gs : FSem} (h : FLe fs gs) {r : Option Res} {H : Heap} {p : Value × Heap} (hr : resA fs r H = some p) : resA gs r H = some p := by
  cases r with
  | none => cases hr
  | some r => cases r with
    | val v H' => exact hr
    | call f args => exact h _ _ _ _ hr

theorem stepA_mono {fs gs : FSem} (h : FLe fs gs) {ops : Array Oper} {o : Oper} {s s' : St} (hr : stepA E fs ops o s = some s') : stepA E gs ops o s = some s' := by
  unfold stepA at hr ⊢
  cases hw : wantedA ops s.T o with
  | none => rw [hw] at hr; cases hr
  | some b =>
    rw [hw] at hr
    cases b with
    | false => exact hr
    | true =>
      simp only at hr ⊢
      cases hx : resA fs (aop E (ev E s.T) o.op s.H) s.H with
      | none => rw [hx] at hr; cases hr
      | some p => rw [hx] at hr; rw [resA_mono h hx]; exact hr

theorem runOps_mono {fs gs : FSem} (h : FLe fs gs) {ops : Array Oper} : ∀ {l : List Oper} {s s' : St}, runOps E fs ops l s = some s' → runOps E gs ops l s = some s'
  | [], s, s', hr => hr
  | o :: l, s, s', hr => by
    simp only [runOps] at hr ⊢
    cases hx : stepA E fs ops o s with
    | none => rw [hx] at hr; cases hr
    | some s1 => rw [hx] at hr; rw [stepA_mono h hx]; exact runOps_mono h hr

theorem pass1_mono {fs gs : FSem} (h : FLe fs gs) {ops : Array Oper} {base : Nat} : ∀ {l : List Oper} {i : Nat} {T : Tr Value} {H : Heap} {k : Nat} {rs : List DR} {hs : List Heap} {r : List DR × Tr Value × List Heap × Heap},
    pass1 E fs ops base l i T H k rs hs = some r → pass1 E gs ops base l i T H k rs hs = some r
  | [], _, _, _, _, _, _, _, hr => hr
  | o :: l, i, T, H, k, rs, hs, r, hr => by
    simp only [pass1] at hr ⊢
    cases hw : wantedA ops T o with
    | none => rw [hw] at hr; cases hr
    | some b =>
      rw [hw] at hr
      cases b with
      | false => exact pass1_mono h hr
      | true =>
        simp only at hr ⊢
        cases hx : resA fs (aopD E base i (ev E T) o.op H) H with
        | none => rw [hx] at hr; cases hr
        | some p =>
          obtain ⟨v, H'⟩ := p
          rw [hx] at hr; rw [resA_mono h hx]
          simp only at hr ⊢
          cases hl : isLoudD o.op with
          | true => rw [hl] at hr; exact pass1_mono h hr
          | false => rw [hl] at hr; exact pass1_mono h hr

theorem runDraw_mono {fs gs : FSem} (h : FLe fs gs) {ops : Array Oper} {s s' : St} (hr : runDraw E fs ops s = some s') : runDraw E gs ops s = some s' := by
  unfold runDraw at hr ⊢
  cases hst : staticOk ops with
  | false => rw [hst] at hr; cases hr
  | true =>
    rw [hst] at hr
    simp only [cond_true] at hr ⊢
    cases hp : preA E s.H.next ops.toList 0 s.H.tr with
    | none => rw [hp] at hr; cases hr
    | some tr =>
    rw [hp] at hr
    simp only at hr ⊢
    cases hx : pass1 E fs ops s.H.next ops.toList 0 s.T ⟨tr, s.H.next + ops.size⟩ 0 [] [⟨tr, s.H.next + ops.size⟩] with
    | none => rw [hx] at hr; cases hr
    | some r => rw [hx] at hr; rw [pass1_mono h hx]; exact hr

theorem loopN_mono {f g : St → Option (X × St)} (h : ∀ s r, f s = some r → g s = some r) : ∀ {n m : Nat} {s : St} {r : X × St}, n ≤ m → loopN f n s = some r → loopN g m s = some r
  | 0, _, _, _, _, hr => by simp [loopN] at hr
  | n + 1, 0, _, _, hle, _ => by omega
  | n + 1, m + 1, s, r, hle, hr => by
    simp only [loopN] at hr ⊢
    cases hx : f s with
    | none => rw [hx] at hr; cases hr
    | some p =>
      obtain ⟨x, s1⟩ := p
      rw [hx] at hr
      rw [h _ _ hx]
      cases x with
      | normal => exact loopN_mono h (by omega) hr
      | exit id => exact hr
      | ret => exact hr

theorem runCode_mono {fs gs : FSem} (h : FLe fs gs) {n m : Nat} (hle : n ≤ m) : ∀ (c : Code) (s : St) (r : X × St), runCode E fs n c s = some r → runCode E gs m c s = some r := by
  intro c
  induction c with
  | region id ops d =>
    intro s r hr
    simp only [runCode] at hr ⊢
    cases d with
    | true =>
      simp only [cond_true] at hr ⊢
      cases hx : runDraw E fs ops s with
      | none => rw [hx] at hr; cases hr
      | some s1 => rw [hx] at hr; rw [runDraw_mono h hx]; exact hr
    | false =>
      simp only [cond_false] at hr ⊢
      cases hx : runOps E fs ops ops.toList s with
      | none => rw [hx] at hr; cases hr
      | some s1 => rw [hx] at hr; rw [runOps_mono h hx]; exact hr
  | seq a b iha ihb =>
    intro s r hr
    simp only [runCode] at hr ⊢
    cases hx : runCode E fs n a s with
    | none => rw [hx] at hr; cases hr
    | some p =>
      obtain ⟨x, s1⟩ := p
      rw [hx] at hr
      rw [iha _ _ hx]
      cases x with
      | normal => exact ihb _ _ hr
      | exit id => exact hr
      | ret => exact hr
  | cond c a b iha ihb =>
    intro s r hr
    simp only [runCode] at hr ⊢
    split at hr
    · rename_i t hc
      cases t with
      | true => exact iha _ _ hr
      | false => exact ihb _ _ hr
    · cases hr
  | block id a ih =>
    intro s r hr
    simp only [runCode] at hr ⊢
    cases hx : runCode E fs n a s with
    | none => rw [hx] at hr; cases hr
    | some p =>
      obtain ⟨x, s1⟩ := p
      rw [hx] at hr
      rw [ih _ _ hx]
      exact hr
  | loop a ih =>
    intro s r hr
    simp only [runCode] at hr ⊢
    exact loopN_mono (fun s r => ih s r) hle hr
  | scope a ih =>
    intro s r hr
    simp only [runCode] at hr ⊢
    exact ih _ _ hr
  | _ => intro s r hr; exact hr

theorem sem_mono : ∀ {n m : Nat}, n ≤ m → FLe (sem E n) (sem E m)
  | 0, _, _ => by intro f a H r h; simp [sem] at h
  | n + 1, 0, hle => by omega
  | n + 1, m + 1, hle => by
    intro f a H r h
    simp only [sem] at h ⊢
    cases ht : (E.truth f && a.isEmpty) with
    | true => rw [ht] at h; exact h
    | false =>
    rw [ht] at h
    simp only [cond_false] at h ⊢
    cases hf : E.fn f with
    | none => rw [hf] at h; cases h
    | some fn =>
      rw [hf] at h
      simp only at h ⊢
      cases hb : fn.body with
      | none => rw [hb] at h; cases h
      | some c =>
        rw [hb] at h
        simp only at h ⊢
        cases hi : initT fn a with
        | none => rw [hi] at h; cases h
        | some T =>
          rw [hi] at h
          simp only at h ⊢
          cases hr : runCode E (sem E n) n c ⟨T, H⟩ with
          | none => rw [hr] at h; cases h
          | some p =>
            rw [hr] at h
            rw [runCode_mono (sem_mono (show n ≤ m by omega)) (by omega) _ _ _ hr]
            exact h

/-! ### What comes of it -/
def CA (E : Env) (f : FuncId) (args : List Value) (H : Heap) (R : Value → Heap → Prop) : Prop := ∃ n v H', sem E n f args H = some (v, H') ∧ R v H'
def WA (E : Env) (c : Code) (T : Tr Value) (H : Heap) (Q : X → Tr Value → Heap → Prop) : Prop := ∃ n x s', runCode E (sem E n) n c ⟨T, H⟩ = some (x, s') ∧ Q x s'.T s'.H
def OA (E : Env) (ops : Array Oper) (l : List Oper) (T : Tr Value) (H : Heap) (Q : Tr Value → Heap → Prop) : Prop := ∃ n s', runOps E (sem E n) ops l ⟨T, H⟩ = some s' ∧ Q s'.T s'.H

theorem CA.mono {f : FuncId} {args : List Value} {H : Heap} {R R' : Value → Heap → Prop} (h : CA E f args H R) (hr : ∀ v H', R v H' → R' v H') : CA E f args H R' :=
  let ⟨n, v, H', h1, h2⟩ := h; ⟨n, v, H', h1, hr _ _ h2⟩
theorem WA.mono {c : Code} {T : Tr Value} {H : Heap} {Q Q' : X → Tr Value → Heap → Prop} (h : WA E c T H Q) (hr : ∀ x T H, Q x T H → Q' x T H) : WA E c T H Q' :=
  let ⟨n, x, s, h1, h2⟩ := h; ⟨n, x, s, h1, hr _ _ _ h2⟩

theorem CA_of {n : Nat} {f : FuncId} {args : List Value} {H H' : Heap} {v : Value} {R : Value → Heap → Prop} (h : sem E n f args H = some (v, H')) (hr : R v H') : CA E f args H R := ⟨n, v, H', h, hr⟩

def XThen (K : Tr Value → Heap → Prop) (Q : X → Tr Value → Heap → Prop) : X → Tr Value → Heap → Prop
  | .normal => K
  | x => Q x

def XBlock (id : Nat) (Q : X → Tr Value → Heap → Prop) : X → Tr Value → Heap → Prop
  | .exit j => if j = id then Q .normal else Q (.exit j)
  | x => Q x

theorem WA_seq {a b : Code} {T : Tr Value} {H : Heap} {Q : X → Tr Value → Heap → Prop} (h : WA E a T H (XThen (fun T H => WA E b T H Q) Q)) : WA E (.seq a b) T H Q := by
  obtain ⟨n, x, s, h1, h2⟩ := h
  cases x with
  | normal =>
    obtain ⟨m, y, s2, h3, h4⟩ := h2
    refine ⟨max n m, y, s2, ?_, h4⟩
    simp only [runCode]
    rw [runCode_mono (sem_mono (Nat.le_max_left n m)) (Nat.le_max_left n m) _ _ _ h1]
    exact runCode_mono (sem_mono (Nat.le_max_right n m)) (Nat.le_max_right n m) _ _ _ h3
  | exit id => exact ⟨n, _, s, by simp only [runCode]; rw [h1], h2⟩
  | ret => exact ⟨n, _, s, by simp only [runCode]; rw [h1], h2⟩

theorem WA_cond {c : Operand} {a b : Code} {T : Tr Value} {H : Heap} {Q : X → Tr Value → Heap → Prop} {t : Bool} (hc : ev E T c = .bool t) (h : if t = true then WA E a T H Q else WA E b T H Q) : WA E (.cond c a b) T H Q := by
  cases t with
  | true =>
    obtain ⟨n, x, s, h1, h2⟩ := (by simpa using h : WA E a T H Q)
    exact ⟨n, x, s, by simp only [runCode]; rw [hc]; exact h1, h2⟩
  | false =>
    obtain ⟨n, x, s, h1, h2⟩ := (by simpa using h : WA E b T H Q)
    exact ⟨n, x, s, by simp only [runCode]; rw [hc]; exact h1, h2⟩

theorem WA_block {id : Nat} {a : Code} {T : Tr Value} {H : Heap} {Q : X → Tr Value → Heap → Prop} (h : WA E a T H (XBlock id Q)) : WA E (.block id a) T H Q := by
  obtain ⟨n, x, s, h1, h2⟩ := h
  cases x with
  | normal => exact ⟨n, .normal, s, by simp only [runCode]; rw [h1], h2⟩
  | ret => exact ⟨n, .ret, s, by simp only [runCode]; rw [h1], h2⟩
  | exit j =>
    simp only [XBlock] at h2
    by_cases e : j = id
    · subst e
      rw [if_pos rfl] at h2
      exact ⟨n, .normal, s, by simp only [runCode]; rw [h1]; simp, h2⟩
    · rw [if_neg e] at h2
      refine ⟨n, .exit j, s, ?_, h2⟩
      simp only [runCode]; rw [h1]
      simp only
      have : Nat.beq j id = false := by
        cases hb : Nat.beq j id with
        | false => rfl
        | true => exact absurd (Nat.eq_of_beq_eq_true hb) e
      rw [this]; rfl

theorem WA_loop {a : Code} {T : Tr Value} {H : Heap} {Q : X → Tr Value → Heap → Prop} (h : WA E a T H (XThen (fun T H => WA E (.loop a) T H Q) Q)) : WA E (.loop a) T H Q := by
  obtain ⟨n, x, s, h1, h2⟩ := h
  cases x with
  | normal =>
    obtain ⟨m, y, s2, h3, h4⟩ := h2
    refine ⟨max n m + 1, y, s2, ?_, h4⟩
    simp only [runCode, loopN]
    rw [runCode_mono (sem_mono (show n ≤ max n m + 1 by omega)) (show n ≤ max n m + 1 by omega) _ _ _ h1]
    simp only [runCode] at h3
    exact loopN_mono (fun s r hr => runCode_mono (sem_mono (show m ≤ max n m + 1 by omega)) (show m ≤ max n m + 1 by omega) _ _ _ hr) (Nat.le_max_right n m) h3
  | exit id => exact ⟨n + 1, _, s, by simp only [runCode, loopN]; rw [runCode_mono (sem_mono (Nat.le_succ n)) (Nat.le_succ n) _ _ _ h1], h2⟩
  | ret => exact ⟨n + 1, _, s, by simp only [runCode, loopN]; rw [runCode_mono (sem_mono (Nat.le_succ n)) (Nat.le_succ n) _ _ _ h1], h2⟩

theorem WA_skip {T : Tr Value} {H : Heap} {Q : X → Tr Value → Heap → Prop} (h : Q .normal T H) : WA E .skip T H Q := ⟨0, .normal, ⟨T, H⟩, rfl, h⟩
theorem WA_exit {id : Nat} {T : Tr Value} {H : Heap} {Q : X → Tr Value → Heap → Prop} (h : Q (.exit id) T H) : WA E (.exit id) T H Q := ⟨0, .exit id, ⟨T, H⟩, rfl, h⟩
theorem WA_ret {T : Tr Value} {H : Heap} {Q : X → Tr Value → Heap → Prop} (h : Q .ret T H) : WA E .ret T H Q := ⟨0, .ret, ⟨T, H⟩, rfl, h⟩
theorem WA_scope {a : Code} {T : Tr Value} {H : Heap} {Q : X → Tr Value → Heap → Prop} (h : WA E a T H Q) : WA E (.scope a) T H Q :=
  let ⟨n, x, s, h1, h2⟩ := h; ⟨n, x, s, h1, h2⟩

theorem WA_region {id : Nat} {ops : Array Oper} {T : Tr Value} {H : Heap} {Q : X → Tr Value → Heap → Prop} (h : OA E ops ops.toList T H (Q .normal)) : WA E (.region id ops false) T H Q := by
  obtain ⟨n, s, h1, h2⟩ := h
  exact ⟨n, .normal, s, by simp only [runCode, cond_false]; rw [h1], h2⟩

theorem OA_nil {ops : Array Oper} {T : Tr Value} {H : Heap} {Q : Tr Value → Heap → Prop} (h : Q T H) : OA E ops [] T H Q := ⟨0, ⟨T, H⟩, rfl, h⟩

/-- One operation. -/
def OpA (E : Env) (o : Oper) (T : Tr Value) (H : Heap) (K : Tr Value → Heap → Prop) : Option Res → Prop
  | some (.val v H') => K (putT T o.dst v) H'
  | some (.call f args) => CA E f args H fun v H' => K (putT T o.dst v) H'
  | none => False

def OpW (E : Env) (o : Oper) (T : Tr Value) (H : Heap) (K : Tr Value → Heap → Prop) : Option Bool → Prop
  | some true => OpA E o T H K (aop E (ev E T) o.op H)
  | some false => K (putT T o.dst undef) H
  | none => False

theorem OA_cons {ops : Array Oper} {o : Oper} {l : List Oper} {T : Tr Value} {H : Heap} {Q : Tr Value → Heap → Prop} (h : OpW E o T H (fun T H => OA E ops l T H Q) (wantedA ops T o)) : OA E ops (o :: l) T H Q := by
  cases hw : wantedA ops T o with
  | none => rw [hw] at h; exact h.elim
  | some b =>
    rw [hw] at h
    cases b with
    | false =>
      obtain ⟨n, s, h1, h2⟩ := h
      exact ⟨n, s, by simp only [runOps, stepA]; rw [hw]; exact h1, h2⟩
    | true =>
      simp only [OpW] at h
      cases hr : aop E (ev E T) o.op H with
      | none => rw [hr] at h; exact h.elim
      | some r =>
        rw [hr] at h
        cases r with
        | val v H' =>
          obtain ⟨n, s, h1, h2⟩ := h
          exact ⟨n, s, by simp only [runOps, stepA]; rw [hw]; simp only [hr, resA]; exact h1, h2⟩
        | call f args =>
          obtain ⟨n, v, H', h1, m, s, h2, h3⟩ := h
          refine ⟨max n m, s, ?_, h3⟩
          simp only [runOps, stepA]
          rw [hw]
          simp only [hr, resA]
          rw [sem_mono (Nat.le_max_left n m) _ _ _ _ h1]
          exact runOps_mono (sem_mono (Nat.le_max_right n m)) h2

/-- What a call gives back. -/
def Back (E : Env) (fn : Func) (R : Value → Heap → Prop) : X → Tr Value → Heap → Prop
  | .normal, T, H => ∃ vs, resultsL E ⟨T, H⟩ fn.results.toList = some vs ∧ R (resultOf vs) H
  | .ret, T, H => ∃ vs, resultsL E ⟨T, H⟩ fn.results.toList = some vs ∧ R (resultOf vs) H
  | _, _, _ => False

theorem CA_enter {f : FuncId} {fn : Func} {c : Code} {args : List Value} {T : Tr Value} {H : Heap} {R : Value → Heap → Prop} (ht : E.truth f = false) (hf : E.fn f = some fn) (hb : fn.body = some c) (hi : initT fn args = some T)
    (h : WA E c T H (Back E fn R)) : CA E f args H R := by
  obtain ⟨n, x, s, h1, h2⟩ := h
  cases x with
  | normal =>
    obtain ⟨vs, h3, h4⟩ := h2
    refine ⟨n + 1, resultOf vs, s.H, ?_, h4⟩
    simp only [sem, ht, Bool.false_and, cond_false, hf, hb, hi, h1]
    rw [h3]; rfl
  | ret =>
    obtain ⟨vs, h3, h4⟩ := h2
    refine ⟨n + 1, resultOf vs, s.H, ?_, h4⟩
    simp only [sem, ht, Bool.false_and, cond_false, hf, hb, hi, h1]
    rw [h3]; rfl
  | exit id => exact h2.elim
end
end Go.AS
