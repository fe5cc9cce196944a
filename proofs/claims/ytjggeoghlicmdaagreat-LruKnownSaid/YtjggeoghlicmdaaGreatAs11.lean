/-
  The plain machine over a loaded program, and what a run of it proves.
-/
import Derived.Test.YtjggeoghlicmdaaGreatAs10
namespace Go.AS
open Go.RowKit
set_option linter.unusedVariables false

theorem ofListFrom_get {α : Type} : ∀ (l : List α) (n : Nat) (t : Tr α) (i : Nat), (Tr.ofListFrom l n t).get i = if n ≤ i ∧ i < n + l.length then l[i - n]? else t.get i
  | [], n, t, i => by
    simp only [Tr.ofListFrom_nil, List.length_nil, Nat.add_zero]
    rw [if_neg (by omega)]
  | x :: l, n, t, i => by
    simp only [Tr.ofListFrom_cons, ofListFrom_get l (n + 1) _ i, Tr.get_put, List.length_cons]
    by_cases h1 : n + 1 ≤ i ∧ i < n + 1 + l.length
    · rw [if_pos h1, if_pos (by omega), show i - n = (i - (n + 1)) + 1 from by omega]
      rfl
    · rw [if_neg h1]
      by_cases h2 : i = n
      · subst h2
        rw [if_pos rfl, if_pos (by omega), Nat.sub_self]
        rfl
      · rw [if_neg h2, if_neg (by omega)]

noncomputable def Env.of (P : Program) (tys : Tr TypeInfo) (fns : Tr Func) (eqs clones : List Nat) : Env where
  prog := P
  ty := tys.get
  fn := fun f => match fns.get f with
    | some fn => match fn.body with
      | some _ => some fn
      | none => none
    | none => none
  eqOk := fun t => eqs.any (Nat.beq t)
  clone := fun f => clones.any (Nat.beq f)
  truth := fun _ => false
  ng := P.globals.size

theorem Env.ok_frz {E : Env} (h : E.Ok) (f : Nat → Bool) : ({ E with frz := f } : Env).Ok := ⟨h.ty, h.fn, h.eqOk, h.clone, h.truth⟩

def eqFine (P : Program) (t : Nat) : Bool :=
  !P.stoodInHeld t && !P.eqGuardType P.depth t && (match P.underlying t with
    | some (.struct fs) => fs.toList.all fun f => !(f.name == "_")
    | _ => true)

def cloneFine (P : Program) (f : Nat) : Prop := ∃ fn, P.funcs[f]? = some fn ∧ fn.body = none ∧ (fn.name == "runtime.NumGoroutine") = false ∧ Extern.findNext fn = none ∧ Extern.find fn = some Extern.MapsClone.clone

theorem Env.of_ok {P : Program} {tys : Tr TypeInfo} {fns : Tr Func} {eqs clones : List Nat} (ht : tys = Tr.ofListFrom P.types.toList 0 .nil) (hf : fns = Tr.ofListFrom P.funcs.toList 0 .nil)
    (hn : P.funcs.toList.all (fun f => !(f.name == "runtime.NumGoroutine")) = true)
    (he : eqs.all (eqFine P) = true) (hc : ∀ f ∈ clones, cloneFine P f) : (Env.of P tys fns eqs clones).Ok := by
  subst ht; subst hf
  refine ⟨fun t i h => ?_, fun f fn h => ?_, fun t h => ?_, fun f h => ?_, fun f h => by cases h⟩
  · simp only [Env.of, ofListFrom_get, Nat.zero_add, Nat.sub_zero, Tr.get_nil] at h
    split at h
    · rename_i hb
      show P.info? t = some i
      unfold Tables.info?
      rw [if_pos (by simpa using hb.2)]
      simpa using h
    · cases h
  · simp only [Env.of, ofListFrom_get, Nat.zero_add, Nat.sub_zero, Tr.get_nil] at h
    split at h
    · rename_i g hg
      split at hg
      · split at h
        · rename_i c hb
          injection h with h; subst h
          rw [Array.getElem?_toList] at hg
          refine ⟨hg, by rw [hb]; rfl, ?_⟩
          rw [List.all_eq_true] at hn
          have := hn g (by rw [Array.mem_toList_iff]; exact Array.mem_of_getElem? hg)
          simpa using this
        · cases h
      · cases hg
    · cases h
  · simp only [Env.of, List.any_eq_true] at h
    obtain ⟨u, hu, hb⟩ := h
    obtain rfl := Nat.eq_of_beq_eq_true hb
    rw [List.all_eq_true] at he
    have := he t hu
    simp only [eqFine, Bool.and_eq_true, Bool.not_eq_true'] at this
    refine ⟨this.1.1, this.1.2, fun fs hfs f hff => ?_⟩
    have h3 := this.2
    have hfs' : P.underlying t = some (.struct fs) := hfs
    rw [hfs'] at h3
    simp only [List.all_eq_true] at h3
    have := h3 f hff
    simpa using this
  · simp only [Env.of, List.any_eq_true] at h
    obtain ⟨u, hu, hb⟩ := h
    obtain rfl := Nat.eq_of_beq_eq_true hb
    exact hc f hu

/-- The memory at the outset: the program's variables have their numbers, nothing is held of them. -/
noncomputable def heap0 (E : Env) : Heap := ⟨.nil, E.ng⟩

def inj0 (E : Env) : Inj := fun g => if g < E.ng then some ⟨g, 0, 0, 0⟩ else none

theorem hrel0 (E : Env) (w : World) : HRel E w.heap.size (inj0 E) (heap0 E) w where
  fresh i hi := by
    have : ¬ i < E.ng := by have : E.ng ≤ i := hi; omega
    simp [inj0, this]
  glob g hg := ⟨⟨g, 0, 0, 0⟩, by simp [inj0, hg], rfl, rfl⟩
  obj i o h _ := by simp [heap0, Heap.get, Tr.get_nil] at h
  apart i j oi oj Li Lj h := by simp [heap0, Heap.get, Tr.get_nil] at h
  base := Nat.le_refl _

/-- A closed law: the plain machine says true, so the model does. -/
theorem closed_calls {E : Env} (hE : E.Ok) (hmix : E.prog.follows .mixedOrders = true) {n f : Nat} (h : (sem E n f [] (heap0 E)).map (·.1) = some (.bool true)) (w : World) :
    Calls E.prog f #[] w fun e w' => e = .returned (.bool true) ∧ Below w.heap.size w w' := by
  cases hs : sem E n f [] (heap0 E) with
  | none => rw [hs] at h; cases h
  | some p =>
    obtain ⟨v, H'⟩ := p
    rw [hs] at h
    simp only [Option.map_some, Option.some.injEq] at h
    subst h
    refine (sem_ok hE hmix w.heap.size n f [] (heap0 E) _ H' hs (inj0 E) w #[] (hrel0 E w) .nil).mono ?_
    rintro e w' ⟨V, μ', rfl, h1, h2, h3, h4⟩
    cases h2
    exact ⟨rfl, h4⟩

/-- The machine that knows of some closed functions that they return true. -/
noncomputable def Env.knows (E : Env) (l : List Nat) : Env := { E with truth := fun f => l.any (Nat.beq f) }

theorem Env.knows_ok {E : Env} {l : List Nat} (hE : E.Ok) (h : ∀ f ∈ l, ∀ w : World, Calls E.prog f #[] w fun e w' => e = .returned (.bool true) ∧ Below w.heap.size w w') : (E.knows l).Ok where
  ty := hE.ty
  fn := hE.fn
  eqOk := hE.eqOk
  clone := hE.clone
  truth := fun f hf => by
    simp only [Env.knows, List.any_eq_true] at hf
    obtain ⟨u, hu, hb⟩ := hf
    obtain rfl := Nat.eq_of_beq_eq_true hb
    exact h _ hu
end Go.AS
