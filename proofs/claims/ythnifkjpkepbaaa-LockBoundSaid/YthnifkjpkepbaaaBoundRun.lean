/-
  What LockBound's agents do, without the program: every run of them, by the kernel.
-/
import Derived.Test.YthnifkjpkepbaaaAs40
namespace Go.Proofs.Ythnifkjpkepbaaa.LB
open Go Go.AS Go.RowKit
set_option linter.unusedVariables false

/-- An agent: 0 idle, 1 waits, 2 holds; its turn; how often it waited, and got it; how long it holds it. -/
structure PA where
  ph : Nat
  turn : Nat
  waits : Nat
  got : Nat
  held : Nat

structure PS where
  dr : Nat
  sv : Nat
  as : List PA

/-- A step of an agent; none: it has waited too long. -/
def stepW (most work dr sv : Nat) (x : PA) : Option (Nat × Nat × PA) :=
  match x.ph with
  | 0 => some (dr + 1, sv, ⟨1, dr, 1, x.got, 0⟩)
  | 1 => bif Nat.ble (x.waits + 1) most then some (bif Nat.beq sv x.turn then (dr, sv, ⟨2, x.turn, x.waits + 1, x.got + 1, 0⟩) else (dr, sv, ⟨1, x.turn, x.waits + 1, x.got, 0⟩)) else none
  | _ + 2 => some (bif Nat.ble (x.held + 1) work then (dr, sv, ⟨2, x.turn, x.waits, x.got, x.held + 1⟩) else (dr, sv + 1, ⟨0, x.turn, x.waits, x.got, x.held⟩))

def step (n work a : Nat) (s : PS) : Option PS :=
  match s.as[a]? with
  | none => none
  | some x => match stepW (n * (work + 4) + 4) work s.dr s.sv x with
    | none => none
    | some (dr, sv, y) => some ⟨dr, sv, s.as.set a y⟩

def simIn (n work turn r : Nat) (K : PS → Bool) : Nat → Nat → PS → Bool
  | 0, _, s => K s
  | l + 1, k, s => match step n work ((k + r * turn) % n) s with
    | none => false
    | some s' => simIn n work turn r K l (k + 1) s'

def fair (g0 g : Nat) : Bool := !Nat.beq g 0 && Nat.ble g0 (g + 2) && Nat.ble g (g0 + 2)
def final (s : PS) : Bool := match s.as with
  | [] => false
  | x :: as => (x :: as).all fun y => fair x.got y.got

def simOut (n work turn : Nat) : Nat → Nat → PS → Bool
  | 0, _, s => final s
  | l + 1, r, s => simIn n work turn r (simOut n work turn l (r + 1)) n 0 s

def init (n : Nat) : PS := ⟨0, 0, List.replicate n ⟨0, 0, 0, 0, 0⟩⟩

def allOf (n : Nat) : Bool := (List.range 6).all fun work => (List.range n).all fun turn => simOut n work turn 200 0 (init n)

theorem all1 : allOf 1 = true := by kernel_rfl
theorem all2 : allOf 2 = true := by kernel_rfl
theorem all3 : allOf 3 = true := by kernel_rfl
theorem all4 : allOf 4 = true := by kernel_rfl
theorem all5 : allOf 5 = true := by kernel_rfl
theorem all6 : allOf 6 = true := by kernel_rfl
end Go.Proofs.Ythnifkjpkepbaaa.LB
