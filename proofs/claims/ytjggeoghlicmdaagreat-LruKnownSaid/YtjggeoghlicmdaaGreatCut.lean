/-
  Runs of the plain machine in parts: what the kernel has seen of each part by itself, it has seen of the whole.
-/
import Derived.Test.YtjggeoghlicmdaaGreatAs13
namespace Go.AS
open Go.RowKit
set_option linter.unusedVariables false

def cHd : Code → Code
  | .seq a _ => a
  | c => c

def cTl : Code → Code
  | .seq _ b => b
  | c => c

def cIn : Code → Code
  | .block _ b => b
  | .loop b => b
  | .scope b => b
  | c => c

def bodyOf (fn : Func) : Code := match fn.body with
  | some c => c
  | none => .skip

noncomputable section

/-- Some pieces of code, one behind the other, each of which ends at its end. -/
def runs (E : Env) (S : FSem) (n : Nat) (l : List Code) : St → Option St :=
  List.rec (motive := fun _ => St → Option St) (fun s => some s)
    (fun c _ ih s => Option.rec (motive := fun _ => Option St) none (fun p => X.rec (motive := fun _ => Option St) (ih p.2) (fun _ => none) none p.1) (runCodeF E S n c s)) l

/-- Some rounds of a loop, each of which ends at its end. -/
def turns (f : St → Option (X × St)) (k : Nat) : St → Option St :=
  Nat.rec (motive := fun _ => St → Option St) (fun s => some s)
    (fun _ ih s => Option.rec (motive := fun _ => Option St) none (fun p => X.rec (motive := fun _ => Option St) (ih p.2) (fun _ => none) none p.1) (f s)) k

def seqs (l : List Code) (d : Code) : Code := l.foldr .seq d

def blkF (id : Nat) (r : Option (X × St)) : Option (X × St) :=
  Option.rec (motive := fun _ => Option (X × St)) none (fun p => X.rec (motive := fun _ => Option (X × St)) (some (.normal, p.2)) (fun j => bif Nat.beq j id then some (.normal, p.2) else some (.exit j, p.2)) (some (.ret, p.2)) p.1) r

def outF (E : Env) (fn : Func) (r : Option (X × St)) : Option (Value × Heap) :=
  match r with
  | some (.normal, s) => (resultsL E s fn.results.toList).map fun vs => (resultOf vs, s.H)
  | some (.ret, s) => (resultsL E s fn.results.toList).map fun vs => (resultOf vs, s.H)
  | _ => none

theorem runs_seqs {E : Env} {S : FSem} {n : Nat} {d : Code} {s' : St} : ∀ {l : List Code} {s : St}, runs E S n l s = some s' → runCodeF E S n (seqs l d) s = runCodeF E S n d s'
  | [], s, h => by
    have h' : some s = some s' := h
    injection h' with h'
    subst h'
    rfl
  | c :: l, s, h => by
    have h' : Option.rec (motive := fun _ => Option St) none (fun p => X.rec (motive := fun _ => Option St) (runs E S n l p.2) (fun _ => none) none p.1) (runCodeF E S n c s) = some s' := h
    show thenF (runCodeF E S n (seqs l d)) (runCodeF E S n c s) = _
    cases hr : runCodeF E S n c s with
    | none => rw [hr] at h'; cases h'
    | some p =>
      obtain ⟨x, s1⟩ := p
      rw [hr] at h'
      cases x with
      | normal => exact runs_seqs h'
      | exit i => cases h'
      | ret => cases h'

theorem seqs_in {E : Env} {S : FSem} {n : Nat} {r L Q : Code} : ∀ (l : List Code) (s : St), runCodeF E S n (seqs l (.seq (.seq r L) Q)) s = runCodeF E S n (seqs (l ++ [r]) (.seq L Q)) s
  | [], s => by
    show thenF (runCodeF E S n Q) (thenF (runCodeF E S n L) (runCodeF E S n r s)) = thenF (fun s => thenF (runCodeF E S n Q) (runCodeF E S n L s)) (runCodeF E S n r s)
    cases runCodeF E S n r s with
    | none => rfl
    | some p => obtain ⟨x, s1⟩ := p; cases x <;> rfl
  | c :: l, s => by
    show thenF (runCodeF E S n (seqs l (.seq (.seq r L) Q))) (runCodeF E S n c s) = thenF (runCodeF E S n (seqs (l ++ [r]) (.seq L Q))) (runCodeF E S n c s)
    rw [funext (seqs_in (r := r) (L := L) (Q := Q) l)]

theorem turns_loop {f : St → Option (X × St)} {s' : St} (m : Nat) : ∀ {k : Nat} {s : St}, turns f k s = some s' → loopF f (m + k) s = loopF f m s'
  | 0, s, h => by
    have h' : some s = some s' := h
    injection h' with h'
    subst h'
    rfl
  | k + 1, s, h => by
    have h' : Option.rec (motive := fun _ => Option St) none (fun p => X.rec (motive := fun _ => Option St) (turns f k p.2) (fun _ => none) none p.1) (f s) = some s' := h
    show thenF (loopF f (m + k)) (f s) = _
    cases hr : f s with
    | none => rw [hr] at h'; cases h'
    | some p =>
      obtain ⟨x, s1⟩ := p
      rw [hr] at h'
      cases x with
      | normal => exact turns_loop m h'
      | exit i => cases h'
      | ret => cases h'

theorem semF_body {E : Env} {n f : Nat} {args : List Value} {H : Heap} {fn : Func} {c : Code} {T : Tr Value}
    (ht : (E.truth f && args.isEmpty) = false) (hf : E.fn f = some fn) (hb : fn.body = some c) (hi : initT fn args = some T) :
    semF E (n + 1) f args H = outF E fn (runCodeF E (semF E n) n c ⟨T, H⟩) := by
  show (bif E.truth f && args.isEmpty then some (.bool true, H) else match E.fn f with
      | some fn => match fn.body with
        | some c => match initT fn args with
          | some T => match runCodeF E (semF E n) n c ⟨T, H⟩ with
            | some (.normal, s) => (resultsL E s fn.results.toList).map fun vs => (resultOf vs, s.H)
            | some (.ret, s) => (resultsL E s fn.results.toList).map fun vs => (resultOf vs, s.H)
            | _ => none
          | none => none
        | none => none
      | none => none) = _
  rw [ht, hf]
  simp only [cond_false]
  rw [hb]
  simp only
  rw [hi]
  rfl

/-- A body in two parts. -/
theorem semF_two {E : Env} {n f : Nat} {H : Heap} {fn : Func} {l : List Code} {d : Code} {T : Tr Value} {s : St} {v : Value}
    (ht : (E.truth f && ([] : List Value).isEmpty) = false) (hf : E.fn f = some fn) (hb : fn.body = some (seqs l d)) (hi : initT fn [] = some T)
    (h1 : runs E (semF E n) n l ⟨T, H⟩ = some s) (h2 : (outF E fn (runCodeF E (semF E n) n d s)).map (·.1) = some v) :
    (semF E (n + 1) f [] H).map (·.1) = some v := by
  rw [semF_body ht hf hb hi, runs_seqs h1]
  exact h2

/-- A body that ends with a loop and what stands behind it, in three parts. -/
theorem semF_loop {E : Env} {m j k f id : Nat} {H : Heap} {fn : Func} {l : List Code} {r b Q : Code} {T : Tr Value} {s1 s2 : St} {v : Value}
    (ht : (E.truth f && ([] : List Value).isEmpty) = false) (hf : E.fn f = some fn) (hb : fn.body = some (seqs l (.seq (.seq r (.block id (.loop b))) Q))) (hi : initT fn [] = some T)
    (h1 : (runs E (semF E (m + k + j)) (m + k + j) (l ++ [r]) ⟨T, H⟩).bind (turns (runCodeF E (semF E (m + k + j)) (m + k + j) b) j) = some s1)
    (h2 : turns (runCodeF E (semF E (m + k + j)) (m + k + j) b) k s1 = some s2)
    (h3 : (outF E fn (thenF (runCodeF E (semF E (m + k + j)) (m + k + j) Q) (blkF id (loopF (runCodeF E (semF E (m + k + j)) (m + k + j) b) m s2)))).map (·.1) = some v) :
    (semF E (m + k + j + 1) f [] H).map (·.1) = some v := by
  rw [semF_body ht hf hb hi, seqs_in]
  cases h0 : runs E (semF E (m + k + j)) (m + k + j) (l ++ [r]) ⟨T, H⟩ with
  | none => rw [h0] at h1; cases h1
  | some s0 =>
    rw [h0] at h1
    have h1' : turns (runCodeF E (semF E (m + k + j)) (m + k + j) b) j s0 = some s1 := h1
    rw [runs_seqs h0]
    show (outF E fn (thenF (runCodeF E (semF E (m + k + j)) (m + k + j) Q) (blkF id (loopF (runCodeF E (semF E (m + k + j)) (m + k + j) b) (m + k + j) s0)))).map (·.1) = some v
    rw [turns_loop (m + k) h1', turns_loop m h2]
    exact h3
end
end Go.AS
