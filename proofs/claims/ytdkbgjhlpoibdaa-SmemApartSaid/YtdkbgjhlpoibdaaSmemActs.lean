/-
  Any call of a memory: what it answers, and the memory then.
-/
import Derived.Test.YtdkbgjhlpoibdaaSmemSep
import Derived.Test.YtdkbgjhlpoibdaaAs42
import Derived.Test.YtdkbgjhlpoibdaaKit
import Derived.Test.YtdkbgjhlpoibdaaVc8
namespace Go.Proofs.Ytdkbgjhlpoibdaa
open Go Go.AS Go.RowKit
set_option linter.unusedVariables false
variable {H H' : Heap} {m : Nat} {S S' : Sm} {R : Value → Heap → Prop} {L : List Asr}

structure Act where
  kind : Int
  h : Int
  i : Int
  op : Int
  mask : BitVec 64
  old : BitVec 64
  v : BitVec 64

def Act.cells (x : Act) : List Value := [I x.kind, I x.h, I x.i, I x.op, W x.mask, W x.old, W x.v]
abbrev Act.val (x : Act) : Value := .agg #[I x.kind, I x.h, I x.i, I x.op, W x.mask, W x.old, W x.v]

/-- w, is, h, e -/
structure Said where
  w : BitVec 64
  is : Bool
  h : Int
  e : Int
  deriving DecidableEq
abbrev Said.val (a : Said) : Value := .agg #[W a.w, .bool a.is, I a.h, I a.e]

def Sm.act (S : Sm) (b : Nat) (x : Act) : Said × Sm :=
  if x.kind % 8 = 0 then (⟨0, false, (S.make b x.i).1.1, (S.make b x.i).1.2⟩, (S.make b x.i).2)
  else if x.kind % 8 = 1 then (⟨0, (S.free x.h).1, 0, 0⟩, (S.free x.h).2)
  else if x.kind % 8 = 2 then (⟨(S.acc x.h x.i true id).1.1, (S.acc x.h x.i true id).1.2, 0, 0⟩, (S.acc x.h x.i true id).2)
  else if x.kind % 8 = 3 then (⟨0, (S.acc x.h x.i true fun _ => x.v).1.2, 0, 0⟩, (S.acc x.h x.i true fun _ => x.v).2)
  else if x.kind % 8 = 4 then (⟨0, (S.acc x.h x.i true fun w => under w x.mask x.v).1.2, 0, 0⟩, (S.acc x.h x.i true fun w => under w x.mask x.v).2)
  else if x.kind % 8 = 5 then (⟨(S.acc x.h x.i (isAtomic x.op) (fetchF x.op x.mask x.v)).1.1, (S.acc x.h x.i (isAtomic x.op) (fetchF x.op x.mask x.v)).1.2, 0, 0⟩, (S.acc x.h x.i (isAtomic x.op) (fetchF x.op x.mask x.v)).2)
  else if x.kind % 8 = 6 then (⟨(S.acc x.h x.i true fun w => under w x.mask x.v).1.1, (S.acc x.h x.i true fun w => under w x.mask x.v).1.2, 0, 0⟩, (S.acc x.h x.i true fun w => under w x.mask x.v).2)
  else (⟨(S.acc x.h x.i true (casF x.mask x.old x.v)).1.1, (S.acc x.h x.i true (casF x.mask x.old x.v)).1.2, 0, 0⟩, (S.acc x.h x.i true (casF x.mask x.old x.v)).2)

set_option maxHeartbeats 4000000 in
theorem does_ok (h : Sep H (mem m S :: L)) (x : Act) (hf : S.find (wr (S.made + 1)) = none) (hR : ∀ H' b, Sep H' (mem m (S.act b x).2 :: L) → R (S.act b x).1.val H') : CA en F.crossbarlaw08_does [P m, x.val] H R := by
  have h0 : x.kind % 8 = 0 → ∀ H' b, Sep H' (mem m (S.make b x.i).2 :: L) → R (.agg #[.int .u64 0, .bool false, I (S.make b x.i).1.1, I (S.make b x.i).1.2]) H' := fun e H' b h => by have := hR H' b; unfold Sm.act at this; rw [e] at this; exact this h
  have h1 : x.kind % 8 = 1 → ∀ H', Sep H' (mem m (S.free x.h).2 :: L) → R (.agg #[.int .u64 0, .bool (S.free x.h).1, I 0, I 0]) H' := fun e H' h => by have := hR H' 0; unfold Sm.act at this; rw [e] at this; exact this h
  have h2 : x.kind % 8 = 2 → ∀ H', Sep H' (mem m (S.acc x.h x.i true id).2 :: L) → R (.agg #[W (S.acc x.h x.i true id).1.1, .bool (S.acc x.h x.i true id).1.2, I 0, I 0]) H' := fun e H' h => by have := hR H' 0; unfold Sm.act at this; rw [e] at this; exact this h
  have h3 : x.kind % 8 = 3 → ∀ H', Sep H' (mem m (S.acc x.h x.i true fun _ => x.v).2 :: L) → R (.agg #[.int .u64 0, .bool (S.acc x.h x.i true fun _ => x.v).1.2, I 0, I 0]) H' := fun e H' h => by have := hR H' 0; unfold Sm.act at this; rw [e] at this; exact this h
  have h4 : x.kind % 8 = 4 → ∀ H', Sep H' (mem m (S.acc x.h x.i true fun w => under w x.mask x.v).2 :: L) → R (.agg #[.int .u64 0, .bool (S.acc x.h x.i true fun w => under w x.mask x.v).1.2, I 0, I 0]) H' := fun e H' h => by have := hR H' 0; unfold Sm.act at this; rw [e] at this; exact this h
  have h5 : x.kind % 8 = 5 → ∀ H', Sep H' (mem m (S.acc x.h x.i (isAtomic x.op) (fetchF x.op x.mask x.v)).2 :: L) → R (.agg #[W (S.acc x.h x.i (isAtomic x.op) (fetchF x.op x.mask x.v)).1.1, .bool (S.acc x.h x.i (isAtomic x.op) (fetchF x.op x.mask x.v)).1.2, I 0, I 0]) H' := fun e H' h => by have := hR H' 0; unfold Sm.act at this; rw [e] at this; exact this h
  have h6 : x.kind % 8 = 6 → ∀ H', Sep H' (mem m (S.acc x.h x.i true fun w => under w x.mask x.v).2 :: L) → R (.agg #[W (S.acc x.h x.i true fun w => under w x.mask x.v).1.1, .bool (S.acc x.h x.i true fun w => under w x.mask x.v).1.2, I 0, I 0]) H' := fun e H' h => by have := hR H' 0; unfold Sm.act at this; rw [e] at this; exact this h
  have h7 : x.kind % 8 = 7 → ∀ H', Sep H' (mem m (S.acc x.h x.i true (casF x.mask x.old x.v)).2 :: L) → R (.agg #[W (S.acc x.h x.i true (casF x.mask x.old x.v)).1.1, .bool (S.acc x.h x.i true (casF x.mask x.old x.v)).1.2, I 0, I 0]) H' := fun e H' h => by have := hR H' 0; unfold Sm.act at this; rw [e] at this; exact this h
  clear hR
  have kb : 0 ≤ x.kind % 8 ∧ x.kind % 8 < 8 := by omega
  apply vc_crossbarlaw08_does
  repeat' first
    | (refine Sep.nw (by assumption) fun _ _ _ => ?_)
    | (refine asRow_in ?_)
    | (refine asAddr_in ?_)
    | (refine ⟨_, rfl, ?_⟩)
    | (refine ⟨_, _, rfl, ?_⟩)
    | (refine ⟨_, _, _, rfl, ?_⟩)
    | (refine ⟨_, _, _, _, rfl, ?_⟩)
    | (refine ⟨_, _, _, _, _, rfl, ?_⟩)
    | (refine ⟨_, _, _, _, _, _, rfl, ?_⟩)
    | (refine ⟨_, _, _, _, _, _, _, rfl, ?_⟩)
    | (refine ⟨_, _, _, _, _, _, _, _, rfl, ?_⟩)
    | (refine ⟨_, _, _, _, _, _, _, _, _, rfl, ?_⟩)
    | (refine ⟨_, _, _, _, _, _, _, _, _, _, rfl, ?_⟩)
    | (refine ⟨_, (by first | exact Sep.ld0 (by assumption) (by rfl) | exact Sep.ld1 (by assumption) (by rfl) | exact Sep.ld2 (by assumption) (by rfl) | exact Sep.ld3 (by assumption) (by rfl) | exact Sep.ld4 (by assumption) (by rfl) | exact Sep.ld5 (by assumption) (by rfl) | exact Sep.ld6 (by assumption) (by rfl) | exact Sep.ld7 (by assumption) (by rfl) | exact Sep.ld8 (by assumption) (by rfl) | exact Sep.ld9 (by assumption) (by rfl) | exact Sep.lds0 (by assumption) (by rfl) | exact Sep.lds1 (by assumption) (by rfl) | exact Sep.lds2 (by assumption) (by rfl) | exact Sep.lds3 (by assumption) (by rfl) | exact Sep.lds4 (by assumption) (by rfl) | exact Sep.lds5 (by assumption) (by rfl) | exact Sep.lds6 (by assumption) (by rfl) | exact Sep.lds7 (by assumption) (by rfl) | exact Sep.lds8 (by assumption) (by rfl) | exact Sep.lds9 (by assumption) (by rfl)), ?_⟩)
    | (refine ⟨_, _, (by first | exact Sep.lds0 (by assumption) (by rfl) | exact Sep.lds1 (by assumption) (by rfl) | exact Sep.lds2 (by assumption) (by rfl) | exact Sep.lds3 (by assumption) (by rfl) | exact Sep.lds4 (by assumption) (by rfl) | exact Sep.lds5 (by assumption) (by rfl) | exact Sep.lds6 (by assumption) (by rfl) | exact Sep.lds7 (by assumption) (by rfl) | exact Sep.lds8 (by assumption) (by rfl) | exact Sep.lds9 (by assumption) (by rfl)), ?_⟩)
    | (refine ⟨_, _, _, (by first | exact Sep.lds0 (by assumption) (by rfl) | exact Sep.lds1 (by assumption) (by rfl) | exact Sep.lds2 (by assumption) (by rfl) | exact Sep.lds3 (by assumption) (by rfl) | exact Sep.lds4 (by assumption) (by rfl) | exact Sep.lds5 (by assumption) (by rfl) | exact Sep.lds6 (by assumption) (by rfl) | exact Sep.lds7 (by assumption) (by rfl) | exact Sep.lds8 (by assumption) (by rfl) | exact Sep.lds9 (by assumption) (by rfl)), ?_⟩)
    | (refine ⟨_, _, _, _, (by first | exact Sep.lds0 (by assumption) (by rfl) | exact Sep.lds1 (by assumption) (by rfl) | exact Sep.lds2 (by assumption) (by rfl) | exact Sep.lds3 (by assumption) (by rfl) | exact Sep.lds4 (by assumption) (by rfl) | exact Sep.lds5 (by assumption) (by rfl) | exact Sep.lds6 (by assumption) (by rfl) | exact Sep.lds7 (by assumption) (by rfl) | exact Sep.lds8 (by assumption) (by rfl) | exact Sep.lds9 (by assumption) (by rfl)), ?_⟩)
    | (refine ⟨_, _, _, _, _, (by first | exact Sep.lds0 (by assumption) (by rfl) | exact Sep.lds1 (by assumption) (by rfl) | exact Sep.lds2 (by assumption) (by rfl) | exact Sep.lds3 (by assumption) (by rfl) | exact Sep.lds4 (by assumption) (by rfl) | exact Sep.lds5 (by assumption) (by rfl) | exact Sep.lds6 (by assumption) (by rfl) | exact Sep.lds7 (by assumption) (by rfl) | exact Sep.lds8 (by assumption) (by rfl) | exact Sep.lds9 (by assumption) (by rfl)), ?_⟩)
    | (refine ⟨_, _, _, _, _, _, (by first | exact Sep.lds0 (by assumption) (by rfl) | exact Sep.lds1 (by assumption) (by rfl) | exact Sep.lds2 (by assumption) (by rfl) | exact Sep.lds3 (by assumption) (by rfl) | exact Sep.lds4 (by assumption) (by rfl) | exact Sep.lds5 (by assumption) (by rfl) | exact Sep.lds6 (by assumption) (by rfl) | exact Sep.lds7 (by assumption) (by rfl) | exact Sep.lds8 (by assumption) (by rfl) | exact Sep.lds9 (by assumption) (by rfl)), ?_⟩)
    | (refine ⟨_, _, _, _, _, _, _, (by first | exact Sep.lds0 (by assumption) (by rfl) | exact Sep.lds1 (by assumption) (by rfl) | exact Sep.lds2 (by assumption) (by rfl) | exact Sep.lds3 (by assumption) (by rfl) | exact Sep.lds4 (by assumption) (by rfl) | exact Sep.lds5 (by assumption) (by rfl) | exact Sep.lds6 (by assumption) (by rfl) | exact Sep.lds7 (by assumption) (by rfl) | exact Sep.lds8 (by assumption) (by rfl) | exact Sep.lds9 (by assumption) (by rfl)), ?_⟩)
    | (refine ⟨_, _, _, _, _, _, _, _, (by first | exact Sep.lds0 (by assumption) (by rfl) | exact Sep.lds1 (by assumption) (by rfl) | exact Sep.lds2 (by assumption) (by rfl) | exact Sep.lds3 (by assumption) (by rfl) | exact Sep.lds4 (by assumption) (by rfl) | exact Sep.lds5 (by assumption) (by rfl) | exact Sep.lds6 (by assumption) (by rfl) | exact Sep.lds7 (by assumption) (by rfl) | exact Sep.lds8 (by assumption) (by rfl) | exact Sep.lds9 (by assumption) (by rfl)), ?_⟩)
    | (refine ⟨_, _, _, _, _, _, _, _, _, (by first | exact Sep.lds0 (by assumption) (by rfl) | exact Sep.lds1 (by assumption) (by rfl) | exact Sep.lds2 (by assumption) (by rfl) | exact Sep.lds3 (by assumption) (by rfl) | exact Sep.lds4 (by assumption) (by rfl) | exact Sep.lds5 (by assumption) (by rfl) | exact Sep.lds6 (by assumption) (by rfl) | exact Sep.lds7 (by assumption) (by rfl) | exact Sep.lds8 (by assumption) (by rfl) | exact Sep.lds9 (by assumption) (by rfl)), ?_⟩)
    | (refine ⟨_, _, _, _, _, _, _, _, _, _, (by first | exact Sep.lds0 (by assumption) (by rfl) | exact Sep.lds1 (by assumption) (by rfl) | exact Sep.lds2 (by assumption) (by rfl) | exact Sep.lds3 (by assumption) (by rfl) | exact Sep.lds4 (by assumption) (by rfl) | exact Sep.lds5 (by assumption) (by rfl) | exact Sep.lds6 (by assumption) (by rfl) | exact Sep.lds7 (by assumption) (by rfl) | exact Sep.lds8 (by assumption) (by rfl) | exact Sep.lds9 (by assumption) (by rfl)), ?_⟩)
    | (refine ⟨_, _, _, _, _, _, _, _, _, _, _, (by first | exact Sep.lds0 (by assumption) (by rfl) | exact Sep.lds1 (by assumption) (by rfl) | exact Sep.lds2 (by assumption) (by rfl) | exact Sep.lds3 (by assumption) (by rfl) | exact Sep.lds4 (by assumption) (by rfl) | exact Sep.lds5 (by assumption) (by rfl) | exact Sep.lds6 (by assumption) (by rfl) | exact Sep.lds7 (by assumption) (by rfl) | exact Sep.lds8 (by assumption) (by rfl) | exact Sep.lds9 (by assumption) (by rfl)), ?_⟩)
    | (refine ⟨_, _, _, _, _, _, _, _, _, _, _, _, (by first | exact Sep.lds0 (by assumption) (by rfl) | exact Sep.lds1 (by assumption) (by rfl) | exact Sep.lds2 (by assumption) (by rfl) | exact Sep.lds3 (by assumption) (by rfl) | exact Sep.lds4 (by assumption) (by rfl) | exact Sep.lds5 (by assumption) (by rfl) | exact Sep.lds6 (by assumption) (by rfl) | exact Sep.lds7 (by assumption) (by rfl) | exact Sep.lds8 (by assumption) (by rfl) | exact Sep.lds9 (by assumption) (by rfl)), ?_⟩)
    | (first | refine Sep.st0 (by assumption) (Nat.le_of_ble_eq_true (by rfl)) fun _ _ => ?_ | refine Sep.st1 (by assumption) (Nat.le_of_ble_eq_true (by rfl)) fun _ _ => ?_ | refine Sep.st2 (by assumption) (Nat.le_of_ble_eq_true (by rfl)) fun _ _ => ?_ | refine Sep.st3 (by assumption) (Nat.le_of_ble_eq_true (by rfl)) fun _ _ => ?_ | refine Sep.st4 (by assumption) (Nat.le_of_ble_eq_true (by rfl)) fun _ _ => ?_ | refine Sep.st5 (by assumption) (Nat.le_of_ble_eq_true (by rfl)) fun _ _ => ?_ | refine Sep.st6 (by assumption) (Nat.le_of_ble_eq_true (by rfl)) fun _ _ => ?_ | refine Sep.st7 (by assumption) (Nat.le_of_ble_eq_true (by rfl)) fun _ _ => ?_ | refine Sep.st8 (by assumption) (Nat.le_of_ble_eq_true (by rfl)) fun _ _ => ?_ | refine Sep.st9 (by assumption) (Nat.le_of_ble_eq_true (by rfl)) fun _ _ => ?_)
    | fail
  refine Pick_ok (by decide) (by decide) ⟨_, rfl, ?_⟩
  generalize hk : x.kind % 8 = k at *
  repeat' first
    | (refine Sep.nw (by assumption) fun _ _ _ => ?_)
    | (refine asRow_in ?_)
    | (refine asAddr_in ?_)
    | (refine ⟨_, rfl, ?_⟩)
    | (refine ⟨_, _, rfl, ?_⟩)
    | (refine ⟨_, _, _, rfl, ?_⟩)
    | (refine ⟨_, _, _, _, rfl, ?_⟩)
    | (refine ⟨_, _, _, _, _, rfl, ?_⟩)
    | (refine ⟨_, _, _, _, _, _, rfl, ?_⟩)
    | (refine ⟨_, _, _, _, _, _, _, rfl, ?_⟩)
    | (refine ⟨_, _, _, _, _, _, _, _, rfl, ?_⟩)
    | (refine ⟨_, _, _, _, _, _, _, _, _, rfl, ?_⟩)
    | (refine ⟨_, _, _, _, _, _, _, _, _, _, rfl, ?_⟩)
    | (refine ⟨_, (by first | exact Sep.ld0 (by assumption) (by rfl) | exact Sep.ld1 (by assumption) (by rfl) | exact Sep.ld2 (by assumption) (by rfl) | exact Sep.ld3 (by assumption) (by rfl) | exact Sep.ld4 (by assumption) (by rfl) | exact Sep.ld5 (by assumption) (by rfl) | exact Sep.ld6 (by assumption) (by rfl) | exact Sep.ld7 (by assumption) (by rfl) | exact Sep.ld8 (by assumption) (by rfl) | exact Sep.ld9 (by assumption) (by rfl) | exact Sep.lds0 (by assumption) (by rfl) | exact Sep.lds1 (by assumption) (by rfl) | exact Sep.lds2 (by assumption) (by rfl) | exact Sep.lds3 (by assumption) (by rfl) | exact Sep.lds4 (by assumption) (by rfl) | exact Sep.lds5 (by assumption) (by rfl) | exact Sep.lds6 (by assumption) (by rfl) | exact Sep.lds7 (by assumption) (by rfl) | exact Sep.lds8 (by assumption) (by rfl) | exact Sep.lds9 (by assumption) (by rfl)), ?_⟩)
    | (refine ⟨_, _, (by first | exact Sep.lds0 (by assumption) (by rfl) | exact Sep.lds1 (by assumption) (by rfl) | exact Sep.lds2 (by assumption) (by rfl) | exact Sep.lds3 (by assumption) (by rfl) | exact Sep.lds4 (by assumption) (by rfl) | exact Sep.lds5 (by assumption) (by rfl) | exact Sep.lds6 (by assumption) (by rfl) | exact Sep.lds7 (by assumption) (by rfl) | exact Sep.lds8 (by assumption) (by rfl) | exact Sep.lds9 (by assumption) (by rfl)), ?_⟩)
    | (refine ⟨_, _, _, (by first | exact Sep.lds0 (by assumption) (by rfl) | exact Sep.lds1 (by assumption) (by rfl) | exact Sep.lds2 (by assumption) (by rfl) | exact Sep.lds3 (by assumption) (by rfl) | exact Sep.lds4 (by assumption) (by rfl) | exact Sep.lds5 (by assumption) (by rfl) | exact Sep.lds6 (by assumption) (by rfl) | exact Sep.lds7 (by assumption) (by rfl) | exact Sep.lds8 (by assumption) (by rfl) | exact Sep.lds9 (by assumption) (by rfl)), ?_⟩)
    | (refine ⟨_, _, _, _, (by first | exact Sep.lds0 (by assumption) (by rfl) | exact Sep.lds1 (by assumption) (by rfl) | exact Sep.lds2 (by assumption) (by rfl) | exact Sep.lds3 (by assumption) (by rfl) | exact Sep.lds4 (by assumption) (by rfl) | exact Sep.lds5 (by assumption) (by rfl) | exact Sep.lds6 (by assumption) (by rfl) | exact Sep.lds7 (by assumption) (by rfl) | exact Sep.lds8 (by assumption) (by rfl) | exact Sep.lds9 (by assumption) (by rfl)), ?_⟩)
    | (refine ⟨_, _, _, _, _, (by first | exact Sep.lds0 (by assumption) (by rfl) | exact Sep.lds1 (by assumption) (by rfl) | exact Sep.lds2 (by assumption) (by rfl) | exact Sep.lds3 (by assumption) (by rfl) | exact Sep.lds4 (by assumption) (by rfl) | exact Sep.lds5 (by assumption) (by rfl) | exact Sep.lds6 (by assumption) (by rfl) | exact Sep.lds7 (by assumption) (by rfl) | exact Sep.lds8 (by assumption) (by rfl) | exact Sep.lds9 (by assumption) (by rfl)), ?_⟩)
    | (refine ⟨_, _, _, _, _, _, (by first | exact Sep.lds0 (by assumption) (by rfl) | exact Sep.lds1 (by assumption) (by rfl) | exact Sep.lds2 (by assumption) (by rfl) | exact Sep.lds3 (by assumption) (by rfl) | exact Sep.lds4 (by assumption) (by rfl) | exact Sep.lds5 (by assumption) (by rfl) | exact Sep.lds6 (by assumption) (by rfl) | exact Sep.lds7 (by assumption) (by rfl) | exact Sep.lds8 (by assumption) (by rfl) | exact Sep.lds9 (by assumption) (by rfl)), ?_⟩)
    | (refine ⟨_, _, _, _, _, _, _, (by first | exact Sep.lds0 (by assumption) (by rfl) | exact Sep.lds1 (by assumption) (by rfl) | exact Sep.lds2 (by assumption) (by rfl) | exact Sep.lds3 (by assumption) (by rfl) | exact Sep.lds4 (by assumption) (by rfl) | exact Sep.lds5 (by assumption) (by rfl) | exact Sep.lds6 (by assumption) (by rfl) | exact Sep.lds7 (by assumption) (by rfl) | exact Sep.lds8 (by assumption) (by rfl) | exact Sep.lds9 (by assumption) (by rfl)), ?_⟩)
    | (refine ⟨_, _, _, _, _, _, _, _, (by first | exact Sep.lds0 (by assumption) (by rfl) | exact Sep.lds1 (by assumption) (by rfl) | exact Sep.lds2 (by assumption) (by rfl) | exact Sep.lds3 (by assumption) (by rfl) | exact Sep.lds4 (by assumption) (by rfl) | exact Sep.lds5 (by assumption) (by rfl) | exact Sep.lds6 (by assumption) (by rfl) | exact Sep.lds7 (by assumption) (by rfl) | exact Sep.lds8 (by assumption) (by rfl) | exact Sep.lds9 (by assumption) (by rfl)), ?_⟩)
    | (refine ⟨_, _, _, _, _, _, _, _, _, (by first | exact Sep.lds0 (by assumption) (by rfl) | exact Sep.lds1 (by assumption) (by rfl) | exact Sep.lds2 (by assumption) (by rfl) | exact Sep.lds3 (by assumption) (by rfl) | exact Sep.lds4 (by assumption) (by rfl) | exact Sep.lds5 (by assumption) (by rfl) | exact Sep.lds6 (by assumption) (by rfl) | exact Sep.lds7 (by assumption) (by rfl) | exact Sep.lds8 (by assumption) (by rfl) | exact Sep.lds9 (by assumption) (by rfl)), ?_⟩)
    | (refine ⟨_, _, _, _, _, _, _, _, _, _, (by first | exact Sep.lds0 (by assumption) (by rfl) | exact Sep.lds1 (by assumption) (by rfl) | exact Sep.lds2 (by assumption) (by rfl) | exact Sep.lds3 (by assumption) (by rfl) | exact Sep.lds4 (by assumption) (by rfl) | exact Sep.lds5 (by assumption) (by rfl) | exact Sep.lds6 (by assumption) (by rfl) | exact Sep.lds7 (by assumption) (by rfl) | exact Sep.lds8 (by assumption) (by rfl) | exact Sep.lds9 (by assumption) (by rfl)), ?_⟩)
    | (refine ⟨_, _, _, _, _, _, _, _, _, _, _, (by first | exact Sep.lds0 (by assumption) (by rfl) | exact Sep.lds1 (by assumption) (by rfl) | exact Sep.lds2 (by assumption) (by rfl) | exact Sep.lds3 (by assumption) (by rfl) | exact Sep.lds4 (by assumption) (by rfl) | exact Sep.lds5 (by assumption) (by rfl) | exact Sep.lds6 (by assumption) (by rfl) | exact Sep.lds7 (by assumption) (by rfl) | exact Sep.lds8 (by assumption) (by rfl) | exact Sep.lds9 (by assumption) (by rfl)), ?_⟩)
    | (refine ⟨_, _, _, _, _, _, _, _, _, _, _, _, (by first | exact Sep.lds0 (by assumption) (by rfl) | exact Sep.lds1 (by assumption) (by rfl) | exact Sep.lds2 (by assumption) (by rfl) | exact Sep.lds3 (by assumption) (by rfl) | exact Sep.lds4 (by assumption) (by rfl) | exact Sep.lds5 (by assumption) (by rfl) | exact Sep.lds6 (by assumption) (by rfl) | exact Sep.lds7 (by assumption) (by rfl) | exact Sep.lds8 (by assumption) (by rfl) | exact Sep.lds9 (by assumption) (by rfl)), ?_⟩)
    | (first | refine Sep.st0 (by assumption) (Nat.le_of_ble_eq_true (by rfl)) fun _ _ => ?_ | refine Sep.st1 (by assumption) (Nat.le_of_ble_eq_true (by rfl)) fun _ _ => ?_ | refine Sep.st2 (by assumption) (Nat.le_of_ble_eq_true (by rfl)) fun _ _ => ?_ | refine Sep.st3 (by assumption) (Nat.le_of_ble_eq_true (by rfl)) fun _ _ => ?_ | refine Sep.st4 (by assumption) (Nat.le_of_ble_eq_true (by rfl)) fun _ _ => ?_ | refine Sep.st5 (by assumption) (Nat.le_of_ble_eq_true (by rfl)) fun _ _ => ?_ | refine Sep.st6 (by assumption) (Nat.le_of_ble_eq_true (by rfl)) fun _ _ => ?_ | refine Sep.st7 (by assumption) (Nat.le_of_ble_eq_true (by rfl)) fun _ _ => ?_ | refine Sep.st8 (by assumption) (Nat.le_of_ble_eq_true (by rfl)) fun _ _ => ?_ | refine Sep.st9 (by assumption) (Nat.le_of_ble_eq_true (by rfl)) fun _ _ => ?_)
    | (refine make_s (by assumption) (fun _ _ _ => hf) fun _ _ _ => ?_)
    | (refine make_s (Sep.up1 (by assumption)) (fun _ _ _ => hf) fun _ _ _ => ?_)
    | (refine make_s (Sep.up2 (by assumption)) (fun _ _ _ => hf) fun _ _ _ => ?_)
    | (refine make_s (Sep.up3 (by assumption)) (fun _ _ _ => hf) fun _ _ _ => ?_)
    | (refine make_s (Sep.up4 (by assumption)) (fun _ _ _ => hf) fun _ _ _ => ?_)
    | (refine make_s (Sep.up5 (by assumption)) (fun _ _ _ => hf) fun _ _ _ => ?_)
    | (refine make_s (Sep.up6 (by assumption)) (fun _ _ _ => hf) fun _ _ _ => ?_)
    | (refine make_s (Sep.up7 (by assumption)) (fun _ _ _ => hf) fun _ _ _ => ?_)
    | (refine make_s (Sep.up8 (by assumption)) (fun _ _ _ => hf) fun _ _ _ => ?_)
    | (refine make_s (Sep.up9 (by assumption)) (fun _ _ _ => hf) fun _ _ _ => ?_)
    | (refine free_s (by assumption) fun _ _ => ?_)
    | (refine free_s (Sep.up1 (by assumption)) fun _ _ => ?_)
    | (refine free_s (Sep.up2 (by assumption)) fun _ _ => ?_)
    | (refine free_s (Sep.up3 (by assumption)) fun _ _ => ?_)
    | (refine free_s (Sep.up4 (by assumption)) fun _ _ => ?_)
    | (refine free_s (Sep.up5 (by assumption)) fun _ _ => ?_)
    | (refine free_s (Sep.up6 (by assumption)) fun _ _ => ?_)
    | (refine free_s (Sep.up7 (by assumption)) fun _ _ => ?_)
    | (refine free_s (Sep.up8 (by assumption)) fun _ _ => ?_)
    | (refine free_s (Sep.up9 (by assumption)) fun _ _ => ?_)
    | (refine load_s (by assumption) fun _ _ => ?_)
    | (refine load_s (Sep.up1 (by assumption)) fun _ _ => ?_)
    | (refine load_s (Sep.up2 (by assumption)) fun _ _ => ?_)
    | (refine load_s (Sep.up3 (by assumption)) fun _ _ => ?_)
    | (refine load_s (Sep.up4 (by assumption)) fun _ _ => ?_)
    | (refine load_s (Sep.up5 (by assumption)) fun _ _ => ?_)
    | (refine load_s (Sep.up6 (by assumption)) fun _ _ => ?_)
    | (refine load_s (Sep.up7 (by assumption)) fun _ _ => ?_)
    | (refine load_s (Sep.up8 (by assumption)) fun _ _ => ?_)
    | (refine load_s (Sep.up9 (by assumption)) fun _ _ => ?_)
    | (refine store_s (by assumption) fun _ _ => ?_)
    | (refine store_s (Sep.up1 (by assumption)) fun _ _ => ?_)
    | (refine store_s (Sep.up2 (by assumption)) fun _ _ => ?_)
    | (refine store_s (Sep.up3 (by assumption)) fun _ _ => ?_)
    | (refine store_s (Sep.up4 (by assumption)) fun _ _ => ?_)
    | (refine store_s (Sep.up5 (by assumption)) fun _ _ => ?_)
    | (refine store_s (Sep.up6 (by assumption)) fun _ _ => ?_)
    | (refine store_s (Sep.up7 (by assumption)) fun _ _ => ?_)
    | (refine store_s (Sep.up8 (by assumption)) fun _ _ => ?_)
    | (refine store_s (Sep.up9 (by assumption)) fun _ _ => ?_)
    | (refine mask_s (by assumption) fun _ _ => ?_)
    | (refine mask_s (Sep.up1 (by assumption)) fun _ _ => ?_)
    | (refine mask_s (Sep.up2 (by assumption)) fun _ _ => ?_)
    | (refine mask_s (Sep.up3 (by assumption)) fun _ _ => ?_)
    | (refine mask_s (Sep.up4 (by assumption)) fun _ _ => ?_)
    | (refine mask_s (Sep.up5 (by assumption)) fun _ _ => ?_)
    | (refine mask_s (Sep.up6 (by assumption)) fun _ _ => ?_)
    | (refine mask_s (Sep.up7 (by assumption)) fun _ _ => ?_)
    | (refine mask_s (Sep.up8 (by assumption)) fun _ _ => ?_)
    | (refine mask_s (Sep.up9 (by assumption)) fun _ _ => ?_)
    | (refine fetch_s (by assumption) fun _ _ => ?_)
    | (refine fetch_s (Sep.up1 (by assumption)) fun _ _ => ?_)
    | (refine fetch_s (Sep.up2 (by assumption)) fun _ _ => ?_)
    | (refine fetch_s (Sep.up3 (by assumption)) fun _ _ => ?_)
    | (refine fetch_s (Sep.up4 (by assumption)) fun _ _ => ?_)
    | (refine fetch_s (Sep.up5 (by assumption)) fun _ _ => ?_)
    | (refine fetch_s (Sep.up6 (by assumption)) fun _ _ => ?_)
    | (refine fetch_s (Sep.up7 (by assumption)) fun _ _ => ?_)
    | (refine fetch_s (Sep.up8 (by assumption)) fun _ _ => ?_)
    | (refine fetch_s (Sep.up9 (by assumption)) fun _ _ => ?_)
    | (refine swap_s (by assumption) fun _ _ => ?_)
    | (refine swap_s (Sep.up1 (by assumption)) fun _ _ => ?_)
    | (refine swap_s (Sep.up2 (by assumption)) fun _ _ => ?_)
    | (refine swap_s (Sep.up3 (by assumption)) fun _ _ => ?_)
    | (refine swap_s (Sep.up4 (by assumption)) fun _ _ => ?_)
    | (refine swap_s (Sep.up5 (by assumption)) fun _ _ => ?_)
    | (refine swap_s (Sep.up6 (by assumption)) fun _ _ => ?_)
    | (refine swap_s (Sep.up7 (by assumption)) fun _ _ => ?_)
    | (refine swap_s (Sep.up8 (by assumption)) fun _ _ => ?_)
    | (refine swap_s (Sep.up9 (by assumption)) fun _ _ => ?_)
    | (refine cas_s (by assumption) fun _ _ => ?_)
    | (refine cas_s (Sep.up1 (by assumption)) fun _ _ => ?_)
    | (refine cas_s (Sep.up2 (by assumption)) fun _ _ => ?_)
    | (refine cas_s (Sep.up3 (by assumption)) fun _ _ => ?_)
    | (refine cas_s (Sep.up4 (by assumption)) fun _ _ => ?_)
    | (refine cas_s (Sep.up5 (by assumption)) fun _ _ => ?_)
    | (refine cas_s (Sep.up6 (by assumption)) fun _ _ => ?_)
    | (refine cas_s (Sep.up7 (by assumption)) fun _ _ => ?_)
    | (refine cas_s (Sep.up8 (by assumption)) fun _ _ => ?_)
    | (refine cas_s (Sep.up9 (by assumption)) fun _ _ => ?_)
    | (refine cond_of (fun _ => ?_) fun _ => ?_)
    | fail
  · exact h0 (by simpa using ‹(k == 0) = true›) _ _ (Sep.thin3 (by assumption))
  · exact h1 (by simpa using ‹(k == 1) = true›) _ (Sep.thin3 (by assumption))
  · exact h2 (by simpa using ‹(k == 2) = true›) _ (Sep.thin3 (by assumption))
  · exact h3 (by simpa using ‹(k == 3) = true›) _ (Sep.thin3 (by assumption))
  · exact h4 (by simpa using ‹(k == 4) = true›) _ (Sep.thin3 (by assumption))
  · exact h5 (by simpa using ‹(k == 5) = true›) _ (Sep.thin3 (by assumption))
  · exact h6 (by simpa using ‹(k == 6) = true›) _ (Sep.thin3 (by assumption))
  · exact h7 (by simpa using ‹(k == 7) = true›) _ (Sep.thin3 (by assumption))
  · exfalso
    simp only [beq_eq_false_iff_ne, ne_eq] at *
    omega
end Go.Proofs.Ytdkbgjhlpoibdaa
