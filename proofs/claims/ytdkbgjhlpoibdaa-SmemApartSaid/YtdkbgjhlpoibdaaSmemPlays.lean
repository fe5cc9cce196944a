/-
  'crossbarlaw08.SmemPlays' returns true: any calls of a memory of any room answer what the document says.
-/
import Derived.Test.YtdkbgjhlpoibdaaRefOps
import Derived.Test.YtdkbgjhlpoibdaaArgs
import Derived.Test.YtdkbgjhlpoibdaaSmemWhole
namespace Go.Proofs.Ytdkbgjhlpoibdaa
open Go Go.AS Go.RowKit
set_option linter.unusedVariables false
variable {H H' : Heap} {m : Nat} {S S' : Sm} {T T' : Rm} {R : Value → Heap → Prop} {L : List Asr}

def Rm.act (T : Rm) (q b : Nat) (x : Act) : Said × Rm :=
  if x.kind % 8 = 0 then (⟨0, false, (T.make q b x.i).1.1, (T.make q b x.i).1.2⟩, (T.make q b x.i).2)
  else if x.kind % 8 = 1 then (⟨0, (T.free x.h).1, 0, 0⟩, (T.free x.h).2)
  else if x.kind % 8 = 2 then (⟨(T.acc x.h x.i true id).1.1, (T.acc x.h x.i true id).1.2, 0, 0⟩, (T.acc x.h x.i true id).2)
  else if x.kind % 8 = 3 then (⟨0, (T.acc x.h x.i true fun _ => x.v).1.2, 0, 0⟩, (T.acc x.h x.i true fun _ => x.v).2)
  else if x.kind % 8 = 4 then (⟨0, (T.acc x.h x.i true fun w => under w x.mask x.v).1.2, 0, 0⟩, (T.acc x.h x.i true fun w => under w x.mask x.v).2)
  else if x.kind % 8 = 5 then (⟨(T.acc x.h x.i (isAtomic x.op) (fetchF x.op x.mask x.v)).1.1, (T.acc x.h x.i (isAtomic x.op) (fetchF x.op x.mask x.v)).1.2, 0, 0⟩, (T.acc x.h x.i (isAtomic x.op) (fetchF x.op x.mask x.v)).2)
  else if x.kind % 8 = 6 then (⟨(T.acc x.h x.i true fun w => under w x.mask x.v).1.1, (T.acc x.h x.i true fun w => under w x.mask x.v).1.2, 0, 0⟩, (T.acc x.h x.i true fun w => under w x.mask x.v).2)
  else (⟨(T.acc x.h x.i true (casF x.mask x.old x.v)).1.1, (T.acc x.h x.i true (casF x.mask x.old x.v)).1.2, 0, 0⟩, (T.acc x.h x.i true (casF x.mask x.old x.v)).2)

set_option maxHeartbeats 4000000 in
theorem should_ok (h : Sep H (rmem m T :: L)) (x : Act) (ok : T.ok) (hl : T.regs.length < 400) (hR : ∀ H' q b, Sep H' (rmem m (T.act q b x).2 :: L) → R (T.act q b x).1.val H') : CA en F.crossbarlaw08_should [P m, x.val] H R := by
  have h0 : x.kind % 8 = 0 → ∀ H' q b, Sep H' (rmem m (T.make q b x.i).2 :: L) → R (.agg #[.int .u64 0, .bool false, I (T.make q b x.i).1.1, I (T.make q b x.i).1.2]) H' := fun e H' q b h => by have := hR H' q b; unfold Rm.act at this; rw [e] at this; exact this h
  have h1 : x.kind % 8 = 1 → ∀ H', Sep H' (rmem m (T.free x.h).2 :: L) → R (.agg #[.int .u64 0, .bool (T.free x.h).1, I 0, I 0]) H' := fun e H' h => by have := hR H' 0 0; unfold Rm.act at this; rw [e] at this; exact this h
  have h2 : x.kind % 8 = 2 → ∀ H', Sep H' (rmem m (T.acc x.h x.i true id).2 :: L) → R (.agg #[W (T.acc x.h x.i true id).1.1, .bool (T.acc x.h x.i true id).1.2, I 0, I 0]) H' := fun e H' h => by have := hR H' 0 0; unfold Rm.act at this; rw [e] at this; exact this h
  have h3 : x.kind % 8 = 3 → ∀ H', Sep H' (rmem m (T.acc x.h x.i true fun _ => x.v).2 :: L) → R (.agg #[.int .u64 0, .bool (T.acc x.h x.i true fun _ => x.v).1.2, I 0, I 0]) H' := fun e H' h => by have := hR H' 0 0; unfold Rm.act at this; rw [e] at this; exact this h
  have h4 : x.kind % 8 = 4 → ∀ H', Sep H' (rmem m (T.acc x.h x.i true fun w => under w x.mask x.v).2 :: L) → R (.agg #[.int .u64 0, .bool (T.acc x.h x.i true fun w => under w x.mask x.v).1.2, I 0, I 0]) H' := fun e H' h => by have := hR H' 0 0; unfold Rm.act at this; rw [e] at this; exact this h
  have h5 : x.kind % 8 = 5 → ∀ H', Sep H' (rmem m (T.acc x.h x.i (isAtomic x.op) (fetchF x.op x.mask x.v)).2 :: L) → R (.agg #[W (T.acc x.h x.i (isAtomic x.op) (fetchF x.op x.mask x.v)).1.1, .bool (T.acc x.h x.i (isAtomic x.op) (fetchF x.op x.mask x.v)).1.2, I 0, I 0]) H' := fun e H' h => by have := hR H' 0 0; unfold Rm.act at this; rw [e] at this; exact this h
  have h6 : x.kind % 8 = 6 → ∀ H', Sep H' (rmem m (T.acc x.h x.i true fun w => under w x.mask x.v).2 :: L) → R (.agg #[W (T.acc x.h x.i true fun w => under w x.mask x.v).1.1, .bool (T.acc x.h x.i true fun w => under w x.mask x.v).1.2, I 0, I 0]) H' := fun e H' h => by have := hR H' 0 0; unfold Rm.act at this; rw [e] at this; exact this h
  have h7 : x.kind % 8 = 7 → ∀ H', Sep H' (rmem m (T.acc x.h x.i true (casF x.mask x.old x.v)).2 :: L) → R (.agg #[W (T.acc x.h x.i true (casF x.mask x.old x.v)).1.1, .bool (T.acc x.h x.i true (casF x.mask x.old x.v)).1.2, I 0, I 0]) H' := fun e H' h => by have := hR H' 0 0; unfold Rm.act at this; rw [e] at this; exact this h
  clear hR
  have kb : 0 ≤ x.kind % 8 ∧ x.kind % 8 < 8 := by omega
  apply vc_crossbarlaw08_should
  repeat' first
    | (refine Sep.nw (by assumption) fun _ _ _ => ?_)
    | (refine asRow_in ?_)
    | (refine asAddr_in ?_)
    | (refine ⟨_, rfl, ?_⟩)
    | (refine ⟨_, _, rfl, ?_⟩)
    | (refine ⟨_, _, _, rfl, ?_⟩)
    | (refine ⟨_, _, _, _, rfl, ?_⟩)
    | (refine ⟨_, _, _, _, _, rfl, ?_⟩)
    | (refine ⟨_, _, _, _, _, _, rfl, ?_⟩)
    | (refine ⟨_, _, _, _, _, _, _, rfl, ?_⟩)
    | (refine ⟨_, _, _, _, _, _, _, _, rfl, ?_⟩)
    | (refine ⟨_, _, _, _, _, _, _, _, _, rfl, ?_⟩)
    | (refine ⟨_, _, _, _, _, _, _, _, _, _, rfl, ?_⟩)
    | (refine ⟨_, (by first | exact Sep.ld0 (by assumption) (by rfl) | exact Sep.ld1 (by assumption) (by rfl) | exact Sep.ld2 (by assumption) (by rfl) | exact Sep.ld3 (by assumption) (by rfl) | exact Sep.ld4 (by assumption) (by rfl) | exact Sep.ld5 (by assumption) (by rfl) | exact Sep.ld6 (by assumption) (by rfl) | exact Sep.ld7 (by assumption) (by rfl) | exact Sep.ld8 (by assumption) (by rfl) | exact Sep.ld9 (by assumption) (by rfl) | exact Sep.lds0 (by assumption) (by rfl) | exact Sep.lds1 (by assumption) (by rfl) | exact Sep.lds2 (by assumption) (by rfl) | exact Sep.lds3 (by assumption) (by rfl) | exact Sep.lds4 (by assumption) (by rfl) | exact Sep.lds5 (by assumption) (by rfl) | exact Sep.lds6 (by assumption) (by rfl) | exact Sep.lds7 (by assumption) (by rfl) | exact Sep.lds8 (by assumption) (by rfl) | exact Sep.lds9 (by assumption) (by rfl)), ?_⟩)
    | (refine ⟨_, _, (by first | exact Sep.lds0 (by assumption) (by rfl) | exact Sep.lds1 (by assumption) (by rfl) | exact Sep.lds2 (by assumption) (by rfl) | exact Sep.lds3 (by assumption) (by rfl) | exact Sep.lds4 (by assumption) (by rfl) | exact Sep.lds5 (by assumption) (by rfl) | exact Sep.lds6 (by assumption) (by rfl) | exact Sep.lds7 (by assumption) (by rfl) | exact Sep.lds8 (by assumption) (by rfl) | exact Sep.lds9 (by assumption) (by rfl)), ?_⟩)
    | (refine ⟨_, _, _, (by first | exact Sep.lds0 (by assumption) (by rfl) | exact Sep.lds1 (by assumption) (by rfl) | exact Sep.lds2 (by assumption) (by rfl) | exact Sep.lds3 (by assumption) (by rfl) | exact Sep.lds4 (by assumption) (by rfl) | exact Sep.lds5 (by assumption) (by rfl) | exact Sep.lds6 (by assumption) (by rfl) | exact Sep.lds7 (by assumption) (by rfl) | exact Sep.lds8 (by assumption) (by rfl) | exact Sep.lds9 (by assumption) (by rfl)), ?_⟩)
    | (refine ⟨_, _, _, _, (by first | exact Sep.lds0 (by assumption) (by rfl) | exact Sep.lds1 (by assumption) (by rfl) | exact Sep.lds2 (by assumption) (by rfl) | exact Sep.lds3 (by assumption) (by rfl) | exact Sep.lds4 (by assumption) (by rfl) | exact Sep.lds5 (by assumption) (by rfl) | exact Sep.lds6 (by assumption) (by rfl) | exact Sep.lds7 (by assumption) (by rfl) | exact Sep.lds8 (by assumption) (by rfl) | exact Sep.lds9 (by assumption) (by rfl)), ?_⟩)
    | (refine ⟨_, _, _, _, _, (by first | exact Sep.lds0 (by assumption) (by rfl) | exact Sep.lds1 (by assumption) (by rfl) | exact Sep.lds2 (by assumption) (by rfl) | exact Sep.lds3 (by assumption) (by rfl) | exact Sep.lds4 (by assumption) (by rfl) | exact Sep.lds5 (by assumption) (by rfl) | exact Sep.lds6 (by assumption) (by rfl) | exact Sep.lds7 (by assumption) (by rfl) | exact Sep.lds8 (by assumption) (by rfl) | exact Sep.lds9 (by assumption) (by rfl)), ?_⟩)
    | (refine ⟨_, _, _, _, _, _, (by first | exact Sep.lds0 (by assumption) (by rfl) | exact Sep.lds1 (by assumption) (by rfl) | exact Sep.lds2 (by assumption) (by rfl) | exact Sep.lds3 (by assumption) (by rfl) | exact Sep.lds4 (by assumption) (by rfl) | exact Sep.lds5 (by assumption) (by rfl) | exact Sep.lds6 (by assumption) (by rfl) | exact Sep.lds7 (by assumption) (by rfl) | exact Sep.lds8 (by assumption) (by rfl) | exact Sep.lds9 (by assumption) (by rfl)), ?_⟩)
    | (refine ⟨_, _, _, _, _, _, _, (by first | exact Sep.lds0 (by assumption) (by rfl) | exact Sep.lds1 (by assumption) (by rfl) | exact Sep.lds2 (by assumption) (by rfl) | exact Sep.lds3 (by assumption) (by rfl) | exact Sep.lds4 (by assumption) (by rfl) | exact Sep.lds5 (by assumption) (by rfl) | exact Sep.lds6 (by assumption) (by rfl) | exact Sep.lds7 (by assumption) (by rfl) | exact Sep.lds8 (by assumption) (by rfl) | exact Sep.lds9 (by assumption) (by rfl)), ?_⟩)
    | (refine ⟨_, _, _, _, _, _, _, _, (by first | exact Sep.lds0 (by assumption) (by rfl) | exact Sep.lds1 (by assumption) (by rfl) | exact Sep.lds2 (by assumption) (by rfl) | exact Sep.lds3 (by assumption) (by rfl) | exact Sep.lds4 (by assumption) (by rfl) | exact Sep.lds5 (by assumption) (by rfl) | exact Sep.lds6 (by assumption) (by rfl) | exact Sep.lds7 (by assumption) (by rfl) | exact Sep.lds8 (by assumption) (by rfl) | exact Sep.lds9 (by assumption) (by rfl)), ?_⟩)
    | (refine ⟨_, _, _, _, _, _, _, _, _, (by first | exact Sep.lds0 (by assumption) (by rfl) | exact Sep.lds1 (by assumption) (by rfl) | exact Sep.lds2 (by assumption) (by rfl) | exact Sep.lds3 (by assumption) (by rfl) | exact Sep.lds4 (by assumption) (by rfl) | exact Sep.lds5 (by assumption) (by rfl) | exact Sep.lds6 (by assumption) (by rfl) | exact Sep.lds7 (by assumption) (by rfl) | exact Sep.lds8 (by assumption) (by rfl) | exact Sep.lds9 (by assumption) (by rfl)), ?_⟩)
    | (refine ⟨_, _, _, _, _, _, _, _, _, _, (by first | exact Sep.lds0 (by assumption) (by rfl) | exact Sep.lds1 (by assumption) (by rfl) | exact Sep.lds2 (by assumption) (by rfl) | exact Sep.lds3 (by assumption) (by rfl) | exact Sep.lds4 (by assumption) (by rfl) | exact Sep.lds5 (by assumption) (by rfl) | exact Sep.lds6 (by assumption) (by rfl) | exact Sep.lds7 (by assumption) (by rfl) | exact Sep.lds8 (by assumption) (by rfl) | exact Sep.lds9 (by assumption) (by rfl)), ?_⟩)
    | (refine ⟨_, _, _, _, _, _, _, _, _, _, _, (by first | exact Sep.lds0 (by assumption) (by rfl) | exact Sep.lds1 (by assumption) (by rfl) | exact Sep.lds2 (by assumption) (by rfl) | exact Sep.lds3 (by assumption) (by rfl) | exact Sep.lds4 (by assumption) (by rfl) | exact Sep.lds5 (by assumption) (by rfl) | exact Sep.lds6 (by assumption) (by rfl) | exact Sep.lds7 (by assumption) (by rfl) | exact Sep.lds8 (by assumption) (by rfl) | exact Sep.lds9 (by assumption) (by rfl)), ?_⟩)
    | (refine ⟨_, _, _, _, _, _, _, _, _, _, _, _, (by first | exact Sep.lds0 (by assumption) (by rfl) | exact Sep.lds1 (by assumption) (by rfl) | exact Sep.lds2 (by assumption) (by rfl) | exact Sep.lds3 (by assumption) (by rfl) | exact Sep.lds4 (by assumption) (by rfl) | exact Sep.lds5 (by assumption) (by rfl) | exact Sep.lds6 (by assumption) (by rfl) | exact Sep.lds7 (by assumption) (by rfl) | exact Sep.lds8 (by assumption) (by rfl) | exact Sep.lds9 (by assumption) (by rfl)), ?_⟩)
    | (first | refine Sep.st0 (by assumption) (Nat.le_of_ble_eq_true (by rfl)) fun _ _ => ?_ | refine Sep.st1 (by assumption) (Nat.le_of_ble_eq_true (by rfl)) fun _ _ => ?_ | refine Sep.st2 (by assumption) (Nat.le_of_ble_eq_true (by rfl)) fun _ _ => ?_ | refine Sep.st3 (by assumption) (Nat.le_of_ble_eq_true (by rfl)) fun _ _ => ?_ | refine Sep.st4 (by assumption) (Nat.le_of_ble_eq_true (by rfl)) fun _ _ => ?_ | refine Sep.st5 (by assumption) (Nat.le_of_ble_eq_true (by rfl)) fun _ _ => ?_ | refine Sep.st6 (by assumption) (Nat.le_of_ble_eq_true (by rfl)) fun _ _ => ?_ | refine Sep.st7 (by assumption) (Nat.le_of_ble_eq_true (by rfl)) fun _ _ => ?_ | refine Sep.st8 (by assumption) (Nat.le_of_ble_eq_true (by rfl)) fun _ _ => ?_ | refine Sep.st9 (by assumption) (Nat.le_of_ble_eq_true (by rfl)) fun _ _ => ?_)
    | fail
  refine Pick_ok (by decide) (by decide) ⟨_, rfl, ?_⟩
  generalize hk : x.kind % 8 = k at *
  repeat' first
    | (refine Sep.nw (by assumption) fun _ _ _ => ?_)
    | (refine asRow_in ?_)
    | (refine asAddr_in ?_)
    | (refine ⟨_, rfl, ?_⟩)
    | (refine ⟨_, _, rfl, ?_⟩)
    | (refine ⟨_, _, _, rfl, ?_⟩)
    | (refine ⟨_, _, _, _, rfl, ?_⟩)
    | (refine ⟨_, _, _, _, _, rfl, ?_⟩)
    | (refine ⟨_, _, _, _, _, _, rfl, ?_⟩)
    | (refine ⟨_, _, _, _, _, _, _, rfl, ?_⟩)
    | (refine ⟨_, _, _, _, _, _, _, _, rfl, ?_⟩)
    | (refine ⟨_, _, _, _, _, _, _, _, _, rfl, ?_⟩)
    | (refine ⟨_, _, _, _, _, _, _, _, _, _, rfl, ?_⟩)
    | (refine ⟨_, (by first | exact Sep.ld0 (by assumption) (by rfl) | exact Sep.ld1 (by assumption) (by rfl) | exact Sep.ld2 (by assumption) (by rfl) | exact Sep.ld3 (by assumption) (by rfl) | exact Sep.ld4 (by assumption) (by rfl) | exact Sep.ld5 (by assumption) (by rfl) | exact Sep.ld6 (by assumption) (by rfl) | exact Sep.ld7 (by assumption) (by rfl) | exact Sep.ld8 (by assumption) (by rfl) | exact Sep.ld9 (by assumption) (by rfl) | exact Sep.lds0 (by assumption) (by rfl) | exact Sep.lds1 (by assumption) (by rfl) | exact Sep.lds2 (by assumption) (by rfl) | exact Sep.lds3 (by assumption) (by rfl) | exact Sep.lds4 (by assumption) (by rfl) | exact Sep.lds5 (by assumption) (by rfl) | exact Sep.lds6 (by assumption) (by rfl) | exact Sep.lds7 (by assumption) (by rfl) | exact Sep.lds8 (by assumption) (by rfl) | exact Sep.lds9 (by assumption) (by rfl)), ?_⟩)
    | (refine ⟨_, _, (by first | exact Sep.lds0 (by assumption) (by rfl) | exact Sep.lds1 (by assumption) (by rfl) | exact Sep.lds2 (by assumption) (by rfl) | exact Sep.lds3 (by assumption) (by rfl) | exact Sep.lds4 (by assumption) (by rfl) | exact Sep.lds5 (by assumption) (by rfl) | exact Sep.lds6 (by assumption) (by rfl) | exact Sep.lds7 (by assumption) (by rfl) | exact Sep.lds8 (by assumption) (by rfl) | exact Sep.lds9 (by assumption) (by rfl)), ?_⟩)
    | (refine ⟨_, _, _, (by first | exact Sep.lds0 (by assumption) (by rfl) | exact Sep.lds1 (by assumption) (by rfl) | exact Sep.lds2 (by assumption) (by rfl) | exact Sep.lds3 (by assumption) (by rfl) | exact Sep.lds4 (by assumption) (by rfl) | exact Sep.lds5 (by assumption) (by rfl) | exact Sep.lds6 (by assumption) (by rfl) | exact Sep.lds7 (by assumption) (by rfl) | exact Sep.lds8 (by assumption) (by rfl) | exact Sep.lds9 (by assumption) (by rfl)), ?_⟩)
    | (refine ⟨_, _, _, _, (by first | exact Sep.lds0 (by assumption) (by rfl) | exact Sep.lds1 (by assumption) (by rfl) | exact Sep.lds2 (by assumption) (by rfl) | exact Sep.lds3 (by assumption) (by rfl) | exact Sep.lds4 (by assumption) (by rfl) | exact Sep.lds5 (by assumption) (by rfl) | exact Sep.lds6 (by assumption) (by rfl) | exact Sep.lds7 (by assumption) (by rfl) | exact Sep.lds8 (by assumption) (by rfl) | exact Sep.lds9 (by assumption) (by rfl)), ?_⟩)
    | (refine ⟨_, _, _, _, _, (by first | exact Sep.lds0 (by assumption) (by rfl) | exact Sep.lds1 (by assumption) (by rfl) | exact Sep.lds2 (by assumption) (by rfl) | exact Sep.lds3 (by assumption) (by rfl) | exact Sep.lds4 (by assumption) (by rfl) | exact Sep.lds5 (by assumption) (by rfl) | exact Sep.lds6 (by assumption) (by rfl) | exact Sep.lds7 (by assumption) (by rfl) | exact Sep.lds8 (by assumption) (by rfl) | exact Sep.lds9 (by assumption) (by rfl)), ?_⟩)
    | (refine ⟨_, _, _, _, _, _, (by first | exact Sep.lds0 (by assumption) (by rfl) | exact Sep.lds1 (by assumption) (by rfl) | exact Sep.lds2 (by assumption) (by rfl) | exact Sep.lds3 (by assumption) (by rfl) | exact Sep.lds4 (by assumption) (by rfl) | exact Sep.lds5 (by assumption) (by rfl) | exact Sep.lds6 (by assumption) (by rfl) | exact Sep.lds7 (by assumption) (by rfl) | exact Sep.lds8 (by assumption) (by rfl) | exact Sep.lds9 (by assumption) (by rfl)), ?_⟩)
    | (refine ⟨_, _, _, _, _, _, _, (by first | exact Sep.lds0 (by assumption) (by rfl) | exact Sep.lds1 (by assumption) (by rfl) | exact Sep.lds2 (by assumption) (by rfl) | exact Sep.lds3 (by assumption) (by rfl) | exact Sep.lds4 (by assumption) (by rfl) | exact Sep.lds5 (by assumption) (by rfl) | exact Sep.lds6 (by assumption) (by rfl) | exact Sep.lds7 (by assumption) (by rfl) | exact Sep.lds8 (by assumption) (by rfl) | exact Sep.lds9 (by assumption) (by rfl)), ?_⟩)
    | (refine ⟨_, _, _, _, _, _, _, _, (by first | exact Sep.lds0 (by assumption) (by rfl) | exact Sep.lds1 (by assumption) (by rfl) | exact Sep.lds2 (by assumption) (by rfl) | exact Sep.lds3 (by assumption) (by rfl) | exact Sep.lds4 (by assumption) (by rfl) | exact Sep.lds5 (by assumption) (by rfl) | exact Sep.lds6 (by assumption) (by rfl) | exact Sep.lds7 (by assumption) (by rfl) | exact Sep.lds8 (by assumption) (by rfl) | exact Sep.lds9 (by assumption) (by rfl)), ?_⟩)
    | (refine ⟨_, _, _, _, _, _, _, _, _, (by first | exact Sep.lds0 (by assumption) (by rfl) | exact Sep.lds1 (by assumption) (by rfl) | exact Sep.lds2 (by assumption) (by rfl) | exact Sep.lds3 (by assumption) (by rfl) | exact Sep.lds4 (by assumption) (by rfl) | exact Sep.lds5 (by assumption) (by rfl) | exact Sep.lds6 (by assumption) (by rfl) | exact Sep.lds7 (by assumption) (by rfl) | exact Sep.lds8 (by assumption) (by rfl) | exact Sep.lds9 (by assumption) (by rfl)), ?_⟩)
    | (refine ⟨_, _, _, _, _, _, _, _, _, _, (by first | exact Sep.lds0 (by assumption) (by rfl) | exact Sep.lds1 (by assumption) (by rfl) | exact Sep.lds2 (by assumption) (by rfl) | exact Sep.lds3 (by assumption) (by rfl) | exact Sep.lds4 (by assumption) (by rfl) | exact Sep.lds5 (by assumption) (by rfl) | exact Sep.lds6 (by assumption) (by rfl) | exact Sep.lds7 (by assumption) (by rfl) | exact Sep.lds8 (by assumption) (by rfl) | exact Sep.lds9 (by assumption) (by rfl)), ?_⟩)
    | (refine ⟨_, _, _, _, _, _, _, _, _, _, _, (by first | exact Sep.lds0 (by assumption) (by rfl) | exact Sep.lds1 (by assumption) (by rfl) | exact Sep.lds2 (by assumption) (by rfl) | exact Sep.lds3 (by assumption) (by rfl) | exact Sep.lds4 (by assumption) (by rfl) | exact Sep.lds5 (by assumption) (by rfl) | exact Sep.lds6 (by assumption) (by rfl) | exact Sep.lds7 (by assumption) (by rfl) | exact Sep.lds8 (by assumption) (by rfl) | exact Sep.lds9 (by assumption) (by rfl)), ?_⟩)
    | (refine ⟨_, _, _, _, _, _, _, _, _, _, _, _, (by first | exact Sep.lds0 (by assumption) (by rfl) | exact Sep.lds1 (by assumption) (by rfl) | exact Sep.lds2 (by assumption) (by rfl) | exact Sep.lds3 (by assumption) (by rfl) | exact Sep.lds4 (by assumption) (by rfl) | exact Sep.lds5 (by assumption) (by rfl) | exact Sep.lds6 (by assumption) (by rfl) | exact Sep.lds7 (by assumption) (by rfl) | exact Sep.lds8 (by assumption) (by rfl) | exact Sep.lds9 (by assumption) (by rfl)), ?_⟩)
    | (first | refine Sep.st0 (by assumption) (Nat.le_of_ble_eq_true (by rfl)) fun _ _ => ?_ | refine Sep.st1 (by assumption) (Nat.le_of_ble_eq_true (by rfl)) fun _ _ => ?_ | refine Sep.st2 (by assumption) (Nat.le_of_ble_eq_true (by rfl)) fun _ _ => ?_ | refine Sep.st3 (by assumption) (Nat.le_of_ble_eq_true (by rfl)) fun _ _ => ?_ | refine Sep.st4 (by assumption) (Nat.le_of_ble_eq_true (by rfl)) fun _ _ => ?_ | refine Sep.st5 (by assumption) (Nat.le_of_ble_eq_true (by rfl)) fun _ _ => ?_ | refine Sep.st6 (by assumption) (Nat.le_of_ble_eq_true (by rfl)) fun _ _ => ?_ | refine Sep.st7 (by assumption) (Nat.le_of_ble_eq_true (by rfl)) fun _ _ => ?_ | refine Sep.st8 (by assumption) (Nat.le_of_ble_eq_true (by rfl)) fun _ _ => ?_ | refine Sep.st9 (by assumption) (Nat.le_of_ble_eq_true (by rfl)) fun _ _ => ?_)
    | (refine rmake_s (by assumption) ok hl fun _ _ _ _ => ?_)
    | (refine rmake_s (Sep.up1 (by assumption)) ok hl fun _ _ _ _ => ?_)
    | (refine rmake_s (Sep.up2 (by assumption)) ok hl fun _ _ _ _ => ?_)
    | (refine rmake_s (Sep.up3 (by assumption)) ok hl fun _ _ _ _ => ?_)
    | (refine rmake_s (Sep.up4 (by assumption)) ok hl fun _ _ _ _ => ?_)
    | (refine rmake_s (Sep.up5 (by assumption)) ok hl fun _ _ _ _ => ?_)
    | (refine rmake_s (Sep.up6 (by assumption)) ok hl fun _ _ _ _ => ?_)
    | (refine rmake_s (Sep.up7 (by assumption)) ok hl fun _ _ _ _ => ?_)
    | (refine rmake_s (Sep.up8 (by assumption)) ok hl fun _ _ _ _ => ?_)
    | (refine rmake_s (Sep.up9 (by assumption)) ok hl fun _ _ _ _ => ?_)
    | (refine rfree_s (by assumption) ok fun _ _ => ?_)
    | (refine rfree_s (Sep.up1 (by assumption)) ok fun _ _ => ?_)
    | (refine rfree_s (Sep.up2 (by assumption)) ok fun _ _ => ?_)
    | (refine rfree_s (Sep.up3 (by assumption)) ok fun _ _ => ?_)
    | (refine rfree_s (Sep.up4 (by assumption)) ok fun _ _ => ?_)
    | (refine rfree_s (Sep.up5 (by assumption)) ok fun _ _ => ?_)
    | (refine rfree_s (Sep.up6 (by assumption)) ok fun _ _ => ?_)
    | (refine rfree_s (Sep.up7 (by assumption)) ok fun _ _ => ?_)
    | (refine rfree_s (Sep.up8 (by assumption)) ok fun _ _ => ?_)
    | (refine rfree_s (Sep.up9 (by assumption)) ok fun _ _ => ?_)
    | (refine rload_s (by assumption) ok fun _ _ => ?_)
    | (refine rload_s (Sep.up1 (by assumption)) ok fun _ _ => ?_)
    | (refine rload_s (Sep.up2 (by assumption)) ok fun _ _ => ?_)
    | (refine rload_s (Sep.up3 (by assumption)) ok fun _ _ => ?_)
    | (refine rload_s (Sep.up4 (by assumption)) ok fun _ _ => ?_)
    | (refine rload_s (Sep.up5 (by assumption)) ok fun _ _ => ?_)
    | (refine rload_s (Sep.up6 (by assumption)) ok fun _ _ => ?_)
    | (refine rload_s (Sep.up7 (by assumption)) ok fun _ _ => ?_)
    | (refine rload_s (Sep.up8 (by assumption)) ok fun _ _ => ?_)
    | (refine rload_s (Sep.up9 (by assumption)) ok fun _ _ => ?_)
    | (refine rstore_s (by assumption) ok fun _ _ => ?_)
    | (refine rstore_s (Sep.up1 (by assumption)) ok fun _ _ => ?_)
    | (refine rstore_s (Sep.up2 (by assumption)) ok fun _ _ => ?_)
    | (refine rstore_s (Sep.up3 (by assumption)) ok fun _ _ => ?_)
    | (refine rstore_s (Sep.up4 (by assumption)) ok fun _ _ => ?_)
    | (refine rstore_s (Sep.up5 (by assumption)) ok fun _ _ => ?_)
    | (refine rstore_s (Sep.up6 (by assumption)) ok fun _ _ => ?_)
    | (refine rstore_s (Sep.up7 (by assumption)) ok fun _ _ => ?_)
    | (refine rstore_s (Sep.up8 (by assumption)) ok fun _ _ => ?_)
    | (refine rstore_s (Sep.up9 (by assumption)) ok fun _ _ => ?_)
    | (refine rmask_s (by assumption) ok fun _ _ => ?_)
    | (refine rmask_s (Sep.up1 (by assumption)) ok fun _ _ => ?_)
    | (refine rmask_s (Sep.up2 (by assumption)) ok fun _ _ => ?_)
    | (refine rmask_s (Sep.up3 (by assumption)) ok fun _ _ => ?_)
    | (refine rmask_s (Sep.up4 (by assumption)) ok fun _ _ => ?_)
    | (refine rmask_s (Sep.up5 (by assumption)) ok fun _ _ => ?_)
    | (refine rmask_s (Sep.up6 (by assumption)) ok fun _ _ => ?_)
    | (refine rmask_s (Sep.up7 (by assumption)) ok fun _ _ => ?_)
    | (refine rmask_s (Sep.up8 (by assumption)) ok fun _ _ => ?_)
    | (refine rmask_s (Sep.up9 (by assumption)) ok fun _ _ => ?_)
    | (refine rfetch_s (by assumption) ok fun _ _ => ?_)
    | (refine rfetch_s (Sep.up1 (by assumption)) ok fun _ _ => ?_)
    | (refine rfetch_s (Sep.up2 (by assumption)) ok fun _ _ => ?_)
    | (refine rfetch_s (Sep.up3 (by assumption)) ok fun _ _ => ?_)
    | (refine rfetch_s (Sep.up4 (by assumption)) ok fun _ _ => ?_)
    | (refine rfetch_s (Sep.up5 (by assumption)) ok fun _ _ => ?_)
    | (refine rfetch_s (Sep.up6 (by assumption)) ok fun _ _ => ?_)
    | (refine rfetch_s (Sep.up7 (by assumption)) ok fun _ _ => ?_)
    | (refine rfetch_s (Sep.up8 (by assumption)) ok fun _ _ => ?_)
    | (refine rfetch_s (Sep.up9 (by assumption)) ok fun _ _ => ?_)
    | (refine rswap_s (by assumption) ok fun _ _ => ?_)
    | (refine rswap_s (Sep.up1 (by assumption)) ok fun _ _ => ?_)
    | (refine rswap_s (Sep.up2 (by assumption)) ok fun _ _ => ?_)
    | (refine rswap_s (Sep.up3 (by assumption)) ok fun _ _ => ?_)
    | (refine rswap_s (Sep.up4 (by assumption)) ok fun _ _ => ?_)
    | (refine rswap_s (Sep.up5 (by assumption)) ok fun _ _ => ?_)
    | (refine rswap_s (Sep.up6 (by assumption)) ok fun _ _ => ?_)
    | (refine rswap_s (Sep.up7 (by assumption)) ok fun _ _ => ?_)
    | (refine rswap_s (Sep.up8 (by assumption)) ok fun _ _ => ?_)
    | (refine rswap_s (Sep.up9 (by assumption)) ok fun _ _ => ?_)
    | (refine rcas_s (by assumption) ok fun _ _ => ?_)
    | (refine rcas_s (Sep.up1 (by assumption)) ok fun _ _ => ?_)
    | (refine rcas_s (Sep.up2 (by assumption)) ok fun _ _ => ?_)
    | (refine rcas_s (Sep.up3 (by assumption)) ok fun _ _ => ?_)
    | (refine rcas_s (Sep.up4 (by assumption)) ok fun _ _ => ?_)
    | (refine rcas_s (Sep.up5 (by assumption)) ok fun _ _ => ?_)
    | (refine rcas_s (Sep.up6 (by assumption)) ok fun _ _ => ?_)
    | (refine rcas_s (Sep.up7 (by assumption)) ok fun _ _ => ?_)
    | (refine rcas_s (Sep.up8 (by assumption)) ok fun _ _ => ?_)
    | (refine rcas_s (Sep.up9 (by assumption)) ok fun _ _ => ?_)
    | (refine cond_of (fun _ => ?_) fun _ => ?_)
    | fail
  · exact h0 (by simpa using ‹(k == 0) = true›) _ _ _ (Sep.thin3 (by assumption))
  · exact h1 (by simpa using ‹(k == 1) = true›) _ (Sep.thin3 (by assumption))
  · exact h2 (by simpa using ‹(k == 2) = true›) _ (Sep.thin3 (by assumption))
  · exact h3 (by simpa using ‹(k == 3) = true›) _ (Sep.thin3 (by assumption))
  · exact h4 (by simpa using ‹(k == 4) = true›) _ (Sep.thin3 (by assumption))
  · exact h5 (by simpa using ‹(k == 5) = true›) _ (Sep.thin3 (by assumption))
  · exact h6 (by simpa using ‹(k == 6) = true›) _ (Sep.thin3 (by assumption))
  · exact h7 (by simpa using ‹(k == 7) = true›) _ (Sep.thin3 (by assumption))
  · exfalso
    simp only [beq_eq_false_iff_ne, ne_eq] at *
    omega

/-! ### Both sides -/
def lvs : Int → List Rg → List (Int × List (BitVec 64))
  | _, [] => []
  | k, r :: l => if r.live then (k, r.ws) :: lvs (k + 1) l else lvs (k + 1) l

structure Rel (S : Sm) (T : Rm) : Prop where
  made : S.made = T.regs.length
  regs : S.regs.map (fun r => (r.h, r.ws)) = lvs 1 T.regs
  room : S.room = T.left
  cnt : S.count = T.did
  bads : S.bads = T.odds
  wroom : wr S.room = S.room

theorem lvs_ge : ∀ {l : List Rg} {k : Int} {p : Int × List (BitVec 64)}, p ∈ lvs k l → k ≤ p.1
  | [], k, p, h => by simp [lvs] at h
  | r :: l, k, p, h => by
    simp only [lvs] at h
    split at h
    · rcases List.mem_cons.1 h with rfl | h
      · exact Int.le_refl _
      · have := lvs_ge h; omega
    · have := lvs_ge h; omega

theorem lvs_len : ∀ {l : List Rg} {k : Int}, ((lvs k l).length : Int) = nLive l
  | [], k => rfl
  | r :: l, k => by
    have := lvs_len (l := l) (k := k + 1)
    simp only [lvs, nLive]
    split
    · simp only [List.length_cons]; omega
    · omega

theorem lvs_append : ∀ {l : List Rg} {k : Int} {r : Rg}, r.live = true → lvs k (l ++ [r]) = lvs k l ++ [(k + l.length, r.ws)]
  | [], k, r, hr => by simp [lvs, hr]
  | q :: l, k, r, hr => by
    have ih := lvs_append (l := l) (k := k + 1) hr
    have e : k + 1 + (l.length : Int) = k + ((l.length + 1 : Nat) : Int) := by omega
    simp only [List.cons_append, lvs, ih, List.length_cons, e]
    split <;> rfl

def pick1 (o : Option Rg) : Option (List (BitVec 64)) := match o with | some r => if r.live then some r.ws else none | none => none

theorem lvs_find : ∀ {l : List Rg} {k a : Int}, ((lvs k l).find? fun p => p.1 == a).map (·.2) = pick1 (if k ≤ a ∧ a < k + l.length then l[(a - k).toNat]? else none)
  | [], k, a => by simp [lvs, pick1]
  | r :: l, k, a => by
    have ih := lvs_find (l := l) (k := k + 1) (a := a)
    by_cases e : a = k
    · subst e
      have e0 : (a - a).toNat = 0 := by omega
      have hin : a ≤ a ∧ a < a + ((r :: l).length : Int) := by simp only [List.length_cons]; omega
      rw [if_pos hin, e0]
      rw [if_neg (by omega)] at ih
      simp only [lvs]
      cases hl : r.live
      · simp only [Bool.false_eq_true, if_false]
        rw [ih]; simp [pick1, hl]
      · simp [pick1, hl]
    · have hstep : (lvs k (r :: l)).find? (fun p => p.1 == a) = (lvs (k + 1) l).find? fun p => p.1 == a := by
        simp only [lvs]
        split
        · have e2 : ((k, r.ws).1 == a) = false := by simpa using fun h => e h.symm
          rw [List.find?_cons, e2]
        · rfl
      rw [hstep, ih]
      congr 1
      by_cases hin : k + 1 ≤ a ∧ a < k + 1 + (l.length : Int)
      · rw [if_pos hin, if_pos (by simp only [List.length_cons]; omega)]
        have : (a - k).toNat = (a - (k + 1)).toNat + 1 := by omega
        rw [this, List.getElem?_cons_succ]
      · rw [if_neg hin, if_neg (by simp only [List.length_cons]; omega)]

theorem lvs_set : ∀ {l : List Rg} {k : Int} {j i : Nat} {r : Rg} {w : BitVec 64}, l[j]? = some r → r.live = true →
    lvs k (l.set j { r with ws := r.ws.set i w }) = (lvs k l).map fun p => if p.1 = k + j then (p.1, p.2.set i w) else p
  | [], k, j, i, r, w, h, _ => by simp at h
  | q :: l, k, 0, i, r, w, h, hr => by
    simp at h; subst h
    have hid : (lvs (k + 1) l).map (fun p => if p.1 = k + ((0 : Nat) : Int) then (p.1, p.2.set i w) else p) = lvs (k + 1) l := by
      conv => rhs; rw [← List.map_id (lvs (k + 1) l)]
      refine List.map_congr_left fun p hp => ?_
      have := lvs_ge hp
      rw [if_neg (by simp only [Int.natCast_zero]; omega)]; rfl
    simp only [List.set_cons_zero, lvs, hr, if_true, List.map_cons, hid]
    simp
  | q :: l, k, j + 1, i, r, w, h, hr => by
    have ih := lvs_set (l := l) (k := k + 1) (j := j) (i := i) (w := w) (by simpa using h) hr
    have e : ∀ p : Int × List (BitVec 64), (p.1 = k + ((j + 1 : Nat) : Int)) ↔ (p.1 = k + 1 + (j : Int)) := fun p => by omega
    simp only [List.set_cons_succ, lvs, ih, e]
    split
    · simp only [List.map_cons]
      rw [if_neg (by omega)]
    · rfl

theorem lvs_dead : ∀ {l : List Rg} {k : Int} {j : Nat} {r : Rg}, l[j]? = some r →
    lvs k (l.set j { r with live := false }) = (lvs k l).filter fun p => p.1 != k + j
  | [], k, j, r, h => by simp at h
  | q :: l, k, 0, r, h => by
    simp at h; subst h
    have hid : (lvs (k + 1) l).filter (fun p => p.1 != k + ((0 : Nat) : Int)) = lvs (k + 1) l := List.filter_eq_self.2 fun p hp => by
      have := lvs_ge hp
      simp only [Int.natCast_zero, bne_iff_ne, ne_eq]; omega
    simp only [List.set_cons_zero, lvs, Bool.false_eq_true, if_false]
    split
    · rw [List.filter_cons, hid]; simp
    · exact hid.symm
  | q :: l, k, j + 1, r, h => by
    have ih := lvs_dead (l := l) (k := k + 1) (j := j) (r := r) (by simpa using h)
    have e : ∀ p : Int × List (BitVec 64), (p.1 != k + ((j + 1 : Nat) : Int)) = (p.1 != k + 1 + (j : Int)) := fun p => by
      rw [Bool.eq_iff_iff]; simp only [bne_iff_ne, ne_eq]; omega
    simp only [List.set_cons_succ, lvs, ih, e]
    split
    · rw [List.filter_cons]
      have : ((k, q.ws).1 != k + 1 + (j : Int)) = true := by simp only [bne_iff_ne, ne_eq]; omega
      rw [if_pos this]
    · rfl

theorem rel_find (r : Rel S T) (a : Int) : (S.find a).map Reg.ws = pick1 (T.at' a) := by
  have e1 : (S.find a).map Reg.ws = (((S.regs.map fun r => (r.h, r.ws)).find? fun p => p.1 == a)).map (·.2) := by
    unfold Sm.find
    rw [List.find?_map, Option.map_map]
    rfl
  rw [e1, r.regs, lvs_find]
  unfold Rm.at'
  congr 1
  by_cases h : 1 ≤ a ∧ a ≤ (T.regs.length : Int)
  · rw [if_pos h, if_pos (by omega)]
  · rw [if_neg h, if_neg (by omega)]

/-- Either both have it, with the same words, or neither. -/
theorem rel_both (r : Rel S T) (a : Int) : (S.find a = none ∧ T.lv a = none) ∨ ∃ q p, S.find a = some q ∧ T.lv a = some p ∧ q.ws = p.ws ∧ p.live = true ∧ T.regs[(a - 1).toNat]? = some p ∧ 1 ≤ a := by
  have h := rel_find r a
  unfold pick1 at h
  cases hS : S.find a with
  | none =>
    rw [hS] at h
    left
    refine ⟨rfl, ?_⟩
    unfold Rm.lv
    cases hT : T.at' a with
    | none => rfl
    | some p =>
      rw [hT] at h
      simp only at h ⊢
      split at h
      · cases h
      · rename_i hl; rw [if_neg hl]
  | some q =>
    rw [hS] at h
    right
    cases hT : T.at' a with
    | none => rw [hT] at h; cases h
    | some p =>
      rw [hT] at h
      simp only [Option.map_some] at h
      split at h
      · rename_i hl
        refine ⟨q, p, rfl, ?_, by simpa using h, hl, ?_, ?_⟩
        · unfold Rm.lv; rw [hT]; simp only; rw [if_pos hl]
        · unfold Rm.at' at hT
          split at hT
          · exact hT
          · cases hT
        · unfold Rm.at' at hT
          split at hT
          · rename_i hh; exact hh.1
          · cases hT
      · cases h

theorem rel_acc (r : Rel S T) (a i : Int) (may : Bool) (f : BitVec 64 → BitVec 64) : (S.acc a i may f).1 = (T.acc a i may f).1 ∧ Rel (S.acc a i may f).2 (T.acc a i may f).2 := by
  have bad : Rel { S.cnt with bads := wr (S.bads + 1) } T.cnt.badly :=
    ⟨r.made, r.regs, r.room, by show wr (S.count + 1) = wr (T.did + 1); rw [r.cnt], by show wr (S.bads + 1) = wr (T.odds + 1); rw [r.bads], r.wroom⟩
  rcases rel_both r a with ⟨h1, h2⟩ | ⟨q, p, h1, h2, h3, h4, h5, h6⟩
  · have e1 : S.acc a i may f = ((0, false), { S.cnt with bads := wr (S.bads + 1) }) := by unfold Sm.acc; rw [h1]
    have e2 : T.acc a i may f = ((0, false), T.cnt.badly) := by unfold Rm.acc; rw [h2]
    rw [e1, e2]; exact ⟨rfl, bad⟩
  · by_cases hc : may = true ∧ 0 ≤ i ∧ i < q.ws.length
    · have e1 : S.acc a i may f = ((q.ws.getD i.toNat 0, true), S.cnt.upd a i.toNat (f (q.ws.getD i.toNat 0))) := by unfold Sm.acc; rw [h1]; simp only; rw [if_pos hc]
      have e2 : T.acc a i may f = ((p.ws.getD i.toNat 0, true), T.cnt.upd (a - 1).toNat p i.toNat (f (p.ws.getD i.toNat 0))) := by unfold Rm.acc; rw [h2]; simp only; rw [if_pos (by rw [← h3]; exact hc)]
      rw [e1, e2, h3]
      refine ⟨rfl, ⟨?_, ?_, r.room, by show wr (S.count + 1) = wr (T.did + 1); rw [r.cnt], r.bads, r.wroom⟩⟩
      · show S.made = _
        rw [r.made]; simp [Rm.upd, Rm.cnt]
      · have e := lvs_set (l := T.regs) (k := 1) (i := i.toNat) (w := f (p.ws.getD i.toNat 0)) h5 h4
        show List.map _ (S.regs.map _) = lvs 1 (T.regs.set _ _)
        rw [e, ← r.regs, List.map_map, List.map_map]
        refine List.map_congr_left fun x _ => ?_
        have ea : (1 : Int) + ((a - 1).toNat : Int) = a := by omega
        simp only [Function.comp, ea]
        by_cases hx : x.h = a
        · rw [if_pos hx, if_pos hx]
        · rw [if_neg hx, if_neg hx]
    · have e1 : S.acc a i may f = ((0, false), { S.cnt with bads := wr (S.bads + 1) }) := by unfold Sm.acc; rw [h1]; simp only; rw [if_neg hc]
      have e2 : T.acc a i may f = ((0, false), T.cnt.badly) := by unfold Rm.acc; rw [h2]; simp only; rw [if_neg (by rw [← h3]; exact hc)]
      rw [e1, e2]; exact ⟨rfl, bad⟩

theorem rel_size (r : Rel S T) (a : Int) : S.size a = T.size a := by
  unfold Sm.size Rm.size
  rcases rel_both r a with ⟨h1, h2⟩ | ⟨q, p, h1, h2, h3, _, _, _⟩
  · rw [h1, h2]
  · rw [h1, h2]; simp only; rw [h3]

theorem rel_live (r : Rel S T) : (S.regs.length : Int) = nLive T.regs := by
  rw [← lvs_len (k := 1), ← r.regs, List.length_map]

theorem rel_free (r : Rel S T) (a : Int) : (S.free a).1 = (T.free a).1 ∧ Rel (S.free a).2 (T.free a).2 := by
  have key : ∀ b : Int, (S.regs.filter fun q => q.h != b).map (fun q => (q.h, q.ws)) = (lvs 1 T.regs).filter fun p => p.1 != b := fun b => by
    rw [← r.regs, List.filter_map]; rfl
  rcases rel_both r a with ⟨h1, h2⟩ | ⟨q, p, h1, h2, h3, h4, h5, h6⟩
  · have e2 : T.free a = (false, T) := by unfold Rm.free; rw [h2]
    have hs : S.size a = 0 := by unfold Sm.size; rw [h1]
    have hf : (S.regs.filter fun q => q.h != a) = S.regs := List.filter_eq_self.2 fun x hx => by
      have := List.find?_eq_none.1 h1 x hx
      simpa [bne] using this
    rw [e2]
    refine ⟨by unfold Sm.free; rw [h1]; rfl, ⟨r.made, ?_, ?_, r.cnt, r.bads, wr_wr _⟩⟩
    · show List.map _ (S.regs.filter _) = _
      rw [hf]; exact r.regs
    · show wr (S.room + (S.size a : Int)) = T.left
      rw [hs]; simp only [Int.natCast_zero, Int.add_zero]; rw [r.wroom, r.room]
  · have e2 : T.free a = (true, { T with left := wr (T.left + p.ws.length), regs := T.regs.set (a - 1).toNat { p with live := false } }) := by unfold Rm.free; rw [h2]
    have hs : S.size a = p.ws.length := by unfold Sm.size; rw [h1]; simp only; rw [h3]
    rw [e2]
    refine ⟨by unfold Sm.free; rw [h1]; rfl, ⟨?_, ?_, ?_, r.cnt, r.bads, wr_wr _⟩⟩
    · show S.made = _
      rw [r.made]; simp
    · show List.map _ (S.regs.filter _) = lvs 1 (T.regs.set _ _)
      have ea : (1 : Int) + ((a - 1).toNat : Int) = a := by omega
      rw [lvs_dead h5, ea]; exact key a
    · show wr (S.room + (S.size a : Int)) = wr (T.left + p.ws.length)
      rw [hs, r.room]

theorem rel_make (r : Rel S T) (hl : T.regs.length ≤ 300) (b q b' : Nat) (n : Int) : (S.make b n).1 = (T.make q b' n).1 ∧ Rel (S.make b n).2 (T.make q b' n).2 := by
  unfold Sm.make Rm.make
  by_cases h1 : n < 1 ∨ 65536 < n
  · rw [if_pos h1, if_pos h1]; exact ⟨rfl, r⟩
  · rw [if_neg h1, if_neg h1, r.room]
    by_cases h2 : T.left < n
    · rw [if_pos h2, if_pos h2]; exact ⟨rfl, r⟩
    · rw [if_neg h2, if_neg h2]
      have w1 : wr (S.made + 1) = (T.regs.length : Int) + 1 := by rw [r.made]; exact wr_self (by omega)
      have en : ((n.toNat : Nat) : Int) = n := by omega
      refine ⟨by rw [w1], ⟨?_, ?_, ?_, r.cnt, r.bads, wr_wr _⟩⟩
      · show wr (S.made + 1) = _
        rw [w1]; simp
      · show List.map _ (S.regs ++ [_]) = lvs 1 (T.regs ++ [_])
        rw [lvs_append rfl, List.map_append, r.regs]
        simp only [List.map_cons, List.map_nil, w1]
        rw [Int.add_comm]
      · show wr (S.room - (n.toNat : Int)) = wr (T.left - n)
        rw [r.room, en]

theorem rel_act (r : Rel S T) (hl : T.regs.length ≤ 300) (b q b' : Nat) (x : Act) : (S.act b x).1 = (T.act q b' x).1 ∧ Rel (S.act b x).2 (T.act q b' x).2 := by
  have hm := rel_make r hl b q b' x.i
  have hf := rel_free r x.h
  have ha := fun may f => rel_acc r x.h x.i may f
  unfold Sm.act Rm.act
  repeat' split
  · exact ⟨by rw [hm.1], hm.2⟩
  · exact ⟨by rw [hf.1], hf.2⟩
  · exact ⟨by rw [(ha true id).1], (ha true id).2⟩
  · exact ⟨by rw [(ha true fun _ => x.v).1], (ha true fun _ => x.v).2⟩
  · exact ⟨by rw [(ha true fun w => under w x.mask x.v).1], (ha true fun w => under w x.mask x.v).2⟩
  · exact ⟨by rw [(ha (isAtomic x.op) (fetchF x.op x.mask x.v)).1], (ha (isAtomic x.op) (fetchF x.op x.mask x.v)).2⟩
  · exact ⟨by rw [(ha true fun w => under w x.mask x.v).1], (ha true fun w => under w x.mask x.v).2⟩
  · exact ⟨by rw [(ha true (casF x.mask x.old x.v)).1], (ha true (casF x.mask x.old x.v)).2⟩

theorem ok_act {n : Nat} (ok : T.ok) (hn : T.regs.length ≤ n) (hl : n ≤ 300) (q b : Nat) (x : Act) : (T.act q b x).2.ok ∧ (T.act q b x).2.regs.length ≤ n + 1 := by
  have acc : ∀ may f, (T.acc x.h x.i may f).2.ok ∧ (T.acc x.h x.i may f).2.regs.length ≤ n + 1 := by
    intro may f
    unfold Rm.acc
    split
    · split
      · refine ⟨⟨fun h => ?_, ?_⟩, ?_⟩
        · have := ok.1 h
          simp [Rm.upd, Rm.cnt, this]
        · simp only [Rm.upd, Rm.cnt, List.length_set]; omega
        · simp only [Rm.upd, Rm.cnt, List.length_set]; omega
      · exact ⟨ok, by show T.regs.length ≤ _; omega⟩
    · exact ⟨ok, by show T.regs.length ≤ _; omega⟩
  have fr : (T.free x.h).2.ok ∧ (T.free x.h).2.regs.length ≤ n + 1 := by
    unfold Rm.free
    split
    · refine ⟨⟨fun h => ?_, ?_⟩, ?_⟩
      · have := ok.1 h
        simp [this]
      · simp only [List.length_set]; omega
      · simp only [List.length_set]; omega
    · exact ⟨ok, by show T.regs.length ≤ _; omega⟩
  have mk : (T.make q b x.i).2.ok ∧ (T.make q b x.i).2.regs.length ≤ n + 1 := by
    unfold Rm.make
    split
    · exact ⟨ok, by show T.regs.length ≤ _; omega⟩
    · split
      · exact ⟨ok, by show T.regs.length ≤ _; omega⟩
      · refine ⟨⟨(fun h => by cases h), ?_⟩, ?_⟩
        · simp only [List.length_append, List.length_cons, List.length_nil]; omega
        · simp only [List.length_append, List.length_cons, List.length_nil]; omega
  unfold Rm.act
  repeat' split
  · exact mk
  · exact fr
  all_goals exact acc _ _

theorem RNew_ok (h : Sep H L) {room : Int} (hR : ∀ H' r, Sep H' (rmem r ⟨none, [], clampRoom room, 0, 0⟩ :: L) → R (P r) H') : CA en F.crossbarref08_New [I room] H R := by
  apply vc_crossbarref08_New
  refine Sep.nw h fun i H2 h2 => hR H2 i ?_
  refine Sep.many_iff.2 ?_
  exact h2

theorem same_act (x : Act) : sameN 8 x.val x.val = true := by simp [sameN, sameN.sameL]

theorem SmemPlays_ok {room : Int} {a : Option Addr} {n : Nat} {l : List Act} {M : List Asr} (ha : Arg a n (l.map Act.cells) M) (h : Sep H M) : CA en F.crossbarlaw08_SmemPlays [I room, .slice a n 0] H fun r _ => r = .bool true := by
  have hn : n = l.length := by rw [ha.len, List.length_map]
  subst hn
  apply vc_crossbarlaw08_SmemPlays
  refine new_s h fun H2 m mp h2 => ⟨_, rfl, ?_⟩
  refine cond_no rfl (cond_of (fun hl => cond_yes rfl (CA_truth (by kernel_rfl) ⟨_, rfl, rfl⟩)) fun hl => ?_)
  simp only [decide_eq_false_iff_not] at hl
  refine RNew_ok h2 fun H11 r h11 => ⟨_, rfl, ?_⟩
  have r0 : Rel (newSm mp room) ⟨none, [], clampRoom room, 0, 0⟩ := ⟨rfl, rfl, rfl, rfl, rfl, by show wr (clampRoom room) = clampRoom room; rw [clampRoom_eq]; exact wr_self (by omega)⟩
  refine use_crossbarlaw08_SmemPlays_0 (fun k _ t H => ∃ (j : Nat) (S : Sm) (T : Rm), j ≤ l.length ∧ k = l.length - j ∧ t = (j : Int) ∧ Rel S T ∧ T.ok ∧ T.regs.length ≤ j ∧ Sep H (mem m S :: rmem r T :: M)) l.length ⟨0, _, _, by omega, rfl, rfl, r0, ⟨fun _ => rfl, Nat.zero_le _⟩, Nat.zero_le _, Sep.up1 h11⟩ ?_
  clear h2 h11 r0
  rintro k t4 t ys H ⟨j, S, T, hj, rfl, rfl, rel, ok, hT, h⟩
  refine cond_of (fun h1 => ?_) fun h1 => ?_
  · simp only [decide_eq_true_eq] at h1
    have hj' : j < l.length := by omega
    have hjm : j < (l.map Act.cells).length := by simpa using hj'
    have hb : inB (j : Int) l.length := by unfold inB; omega
    have hx : (l.map Act.cells)[j] = (l[j]).cells := by simp
    generalize l[j] = x at hx
    have hB := h.bump 58
    obtain ⟨p, rfl, hq, hc⟩ := ha.row hB (fun A hA => List.mem_cons_of_mem _ (List.mem_cons_of_mem _ hA)) (act_cells l) hjm
    rw [hx] at hq hc
    have hfind : S.find (wr (S.made + 1)) = none := by
      rcases rel_both rel (wr (S.made + 1)) with ⟨h1, _⟩ | ⟨q, p, h1, h2, h3, h4, h5, h6⟩
      · exact h1
      · exfalso
        have hlt := (List.getElem?_eq_some_iff.1 h5).1
        have : wr (S.made + 1) = (T.regs.length : Int) + 1 := by rw [rel.made]; exact wr_self (by omega)
        rw [this] at hlt; omega
    refine ⟨hb, asRow_in ⟨_, _, _, _, _, _, _, hq, does_ok hB x hfind fun H11 b h11 => ⟨_, _, _, _, rfl, hb, ?_⟩⟩⟩
    obtain ⟨p2, ep, hq2, _⟩ := ha.row h11 (fun A hA => List.mem_cons_of_mem _ (List.mem_cons_of_mem _ hA)) (act_cells l) hjm
    rw [hx] at hq2
    cases ep
    refine asRow_in ⟨_, _, _, _, _, _, _, hq2, should_ok (Sep.up1 h11) x ok (by omega) fun H26 q b' h26 => ⟨_, _, _, _, rfl, ?_⟩⟩
    obtain ⟨e1, rel'⟩ := rel_act rel (by omega) b q b' x
    obtain ⟨ok', hT'⟩ := ok_act ok hT (by omega) q b' x
    rw [← e1]
    generalize hSS : (S.act b x).2 = S' at *
    generalize hTT : (T.act q b' x).2 = T' at *
    refine cond_no (by simp) ?_
    have h26' := Sep.up1 h26
    refine room_s h26' ⟨_, rfl, rroom_s h26 ⟨_, rfl, cond_no (by rw [bne_eq_false_iff_eq]; exact rel'.room) ?_⟩⟩
    refine live_s h26' ⟨_, rfl, rnlive_s h26 ok' ⟨_, rfl, cond_no (by rw [bne_eq_false_iff_eq]; exact rel_live rel') ?_⟩⟩
    refine count_s h26' ⟨_, rfl, rcount_s h26 ⟨_, rfl, cond_no (by rw [bne_eq_false_iff_eq]; exact rel'.cnt) ?_⟩⟩
    refine bad_s h26' ⟨_, rfl, rbad_s h26 ⟨_, rfl, cond_no (by rw [bne_eq_false_iff_eq]; exact rel'.bads) ?_⟩⟩
    obtain ⟨p3, ep3, _, hc3⟩ := ha.row h26 (fun A hA => List.mem_cons_of_mem _ (List.mem_cons_of_mem _ hA)) (act_cells l) hjm
    rw [hx] at hc3
    cases ep3
    have hh : H26.cell p (0 + j * 7 + 1) = some (I x.h) := (hc3 1 (by decide)).trans rfl
    refine ⟨hb, asRow_in ⟨_, hh, size_s h26' ⟨_, rfl, hb, asRow_in ⟨_, hh, rsize_s h26 ok' ⟨_, rfl, ?_, ?_, ?_, trivial⟩⟩⟩⟩⟩
    · refine cond_no (by rw [bne_eq_false_iff_eq, rel_size rel']) ⟨l.length - (j + 1), by omega, j + 1, S', T', by omega, rfl, by rw [wrap_i64 (by omega)]; omega, rel', ok', hT', h26'⟩
    · exact ⟨⟨_, hh, rfl⟩, ⟨_, hh, rfl⟩, trivial⟩
    · exact ⟨⟨_, _, _, _, _, _, _, hq, same_act x⟩, ⟨_, _, _, _, _, _, _, hq2, same_act x⟩, trivial⟩
  · exact asBool_in (CA_truth (by kernel_rfl) ⟨_, rfl, rfl⟩)

theorem acts_arg {H : Heap} {v : Value} (hA : [v] = [.slice none 0 0] ∨ ∃ (i : Nat) (cs : List (List Value)), [v] = [.slice (some ⟨i, 0, none⟩) cs.length 0] ∧ i < H.next ∧ H.get i = some (AS.Obj.cells false 0 cs.flatten) ∧ ∀ c ∈ cs, ∃ x : Act, c = x.cells) :
    ∃ (a : Option Addr) (n : Nat) (l : List Act) (M : List Asr), v = .slice a n 0 ∧ Arg a n (l.map Act.cells) M ∧ Sep H M := by
  obtain ⟨a, n2, css, M, rfl, ha, hs, hc⟩ := Arg.of (P := fun c => ∃ x : Act, c = x.cells) (H := H) (v := v) (by
    rcases hA with hA | ⟨i, cs, hA, hi, hg, hc⟩
    · exact .inl (List.cons.inj hA).1
    · exact .inr ⟨i, cs, (List.cons.inj hA).1, hi, hg, hc⟩)
  obtain ⟨l, rfl⟩ := acts_of css hc
  exact ⟨_, _, l, M, rfl, ha, hs⟩

theorem act_of {c : List Value} (h : ∃ (a55 b56 : List Value), c = a55 ++ b56 ∧ (∃ n : Int, a55 = [.int .i64 n] ∧ (Lit.int .i64 n).wf = true) ∧ (∃ (a57 b58 : List Value), b56 = a57 ++ b58 ∧ (∃ n : Int, a57 = [.int .i64 n] ∧ (Lit.int .i64 n).wf = true) ∧ (∃ (a59 b60 : List Value), b58 = a59 ++ b60 ∧ (∃ n : Int, a59 = [.int .i64 n] ∧ (Lit.int .i64 n).wf = true) ∧ (∃ (a61 b62 : List Value), b60 = a61 ++ b62 ∧ (∃ n : Int, a61 = [.int .i64 n] ∧ (Lit.int .i64 n).wf = true) ∧ (∃ (a63 b64 : List Value), b62 = a63 ++ b64 ∧ (∃ n : Int, a63 = [.int .u64 n] ∧ (Lit.int .u64 n).wf = true) ∧ (∃ (a65 b66 : List Value), b64 = a65 ++ b66 ∧ (∃ n : Int, a65 = [.int .u64 n] ∧ (Lit.int .u64 n).wf = true) ∧ (∃ (a67 b68 : List Value), b66 = a67 ++ b68 ∧ (∃ n : Int, a67 = [.int .u64 n] ∧ (Lit.int .u64 n).wf = true) ∧ b68 = []))))))) : ∃ x : Act, c = x.cells := by
  obtain ⟨_, _, rfl, ⟨n1, rfl, w1⟩, _, _, rfl, ⟨n2, rfl, w2⟩, _, _, rfl, ⟨n3, rfl, w3⟩, _, _, rfl, ⟨n4, rfl, w4⟩, _, _, rfl, ⟨n5, rfl, w5⟩, _, _, rfl, ⟨n6, rfl, w6⟩, _, _, rfl, ⟨n7, rfl, w7⟩, rfl⟩ := h
  obtain ⟨m1, rfl⟩ := word_of w5
  obtain ⟨m2, rfl⟩ := word_of w6
  obtain ⟨m3, rfl⟩ := word_of w7
  exact ⟨⟨n1, n2, n3, n4, m1, m2, m3⟩, rfl⟩

theorem SmemPlays_law (H : Heap) (us : List Value) (h : shpVs en H 7 Go.Proofs.Ytdkbgjhlpoibdaa.T.SmemPlays us) : CA en F.crossbarlaw08_SmemPlays us H fun v _ => v = .bool true := by
  obtain ⟨v, u, rfl, ⟨n, hn, wn⟩, v2, u2, rfl, hA, rfl⟩ := args_SmemPlays h
  obtain rfl := (List.cons.inj hn).1
  clear h hn
  obtain ⟨a, n2, l, M, rfl, ha, hs⟩ := acts_arg (H := H) (v := v2) (hA.imp_right fun ⟨i, cs, e, hi, hg, hc⟩ => ⟨i, cs, e, hi, hg, fun c hm => act_of (hc c hm)⟩)
  exact SmemPlays_ok ha hs
end Go.Proofs.Ytdkbgjhlpoibdaa
