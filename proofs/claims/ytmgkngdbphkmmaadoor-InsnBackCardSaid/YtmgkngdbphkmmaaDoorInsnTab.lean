/-
  The table of opcodes, without the program: the code's rows, the document's rows; what is wrong with an instruction.
-/
import Derived.Test.YtmgkngdbphkmmaaDoorInsnPure
namespace Go.Proofs.YtmgkngdbphkmmaaDoor
set_option linter.unusedVariables false

/-- A row: the fields that it names, from where to where Imm is, whether Dst is written, what else must be (0: nothing, 1: turns, 2: wide, 3: atomic). -/
structure Rw where
  d : Bool
  s : Bool
  o : Bool
  i : Bool
  low : Int
  high : Int
  wr : Bool
  only : Nat
 deriving DecidableEq

abbrev RT := List (Int × Rw)
def rput : RT → Int → Rw → RT
  | [], k, r => [(k, r)]
  | (a, u) :: l, k, r => if a = k then (k, r) :: l else (a, u) :: rput l k r
def rget : RT → Int → Option Rw
  | [], _ => none
  | (a, u) :: l, k => if a = k then some u else rget l k
def rputs (l : RT) (r : Rw) (ops : List Int) : RT := ops.foldl (fun l k => rput l k r) l

def h31 : Int := 2147483648
def rNeg : Rw := ⟨true, false, false, false, -2147483648, 2147483647, true, 0⟩
def rImm : Rw := ⟨true, false, false, true, -2147483648, 2147483647, true, 0⟩
def rSrc : Rw := ⟨true, true, false, false, -2147483648, 2147483647, true, 0⟩
def rShf (most : Int) : Rw := ⟨true, false, false, true, 0, most, true, 0⟩

/-- One operation of a class. -/
def aluOne (l : RT) (cls : Int) (j : Nat) : RT :=
  let op : Int := 16 * j
  if op = 128 then rputs l rNeg [op + cls]
  else rputs (rputs l (if op = 96 ∨ op = 112 ∨ op = 192 then rShf (if cls = 7 then 63 else 31) else rImm) [op + cls]) rSrc [op + 8 + cls]
def aluN (l : RT) (cls : Int) : Nat → RT
  | 0 => l
  | j + 1 => aluOne (aluN l cls j) cls j
def rTurn : Rw := ⟨true, false, false, true, -2147483648, 2147483647, true, 1⟩
def alusT (l : RT) : RT := rputs (aluN (aluN l 4 13) 7 13) rTurn [212, 220]

def rJmpI : Rw := ⟨true, false, true, true, -2147483648, 2147483647, false, 0⟩
def rJmpS : Rw := ⟨true, true, true, false, -2147483648, 2147483647, false, 0⟩
def jmps : List Int := [16, 32, 48, 64, 80, 96, 112, 160, 176, 192, 208]
def jmpN (l : RT) : List Int → RT
  | [] => l
  | op :: ops => jmpN (rputs (rputs l rJmpI [op + 5, op + 6]) rJmpS [op + 8 + 5, op + 8 + 6]) ops
def rMem (op : Int) (l : RT) : RT :=
  rputs (rputs (rputs l ⟨true, true, true, false, -2147483648, 2147483647, true, 0⟩ [96 + op + 1]) ⟨true, false, true, true, -2147483648, 2147483647, false, 0⟩ [96 + op + 2]) ⟨true, true, true, false, -2147483648, 2147483647, false, 0⟩ [96 + op + 3]
def memN (l : RT) : List Int → RT
  | [] => l
  | op :: ops => memN (rMem op l) ops
def half4 (l : RT) : RT :=
  rputs (rputs (rputs (rputs l ⟨false, false, true, false, -2147483648, 2147483647, false, 0⟩ [5]) ⟨false, false, false, true, -2147483648, 2147483647, false, 0⟩ [133]) ⟨false, false, false, false, -2147483648, 2147483647, false, 0⟩ [149])
    ⟨true, true, false, true, -9223372036854775808, 9223372036854775807, true, 2⟩ [24]
def rAtom : Rw := ⟨true, true, true, true, -2147483648, 2147483647, false, 3⟩
def tab : RT := rputs (memN (half4 (jmpN (alusT []) jmps)) [0, 8, 16, 24]) rAtom [195, 219]

/-- The document's row. -/
def refRow (op : Int) : Option Rw :=
  let code := op / 16
  let by8 := op / 8 % 2
  let mode := op / 32
  let c := op % 8
  if op < 0 ∨ op > 255 then none
  else if c = 4 ∨ c = 7 then
    (if code = 13 then (if c = 4 then some rTurn else none)
     else if code > 12 then none
     else if code = 8 then (if by8 = 1 then none else some rNeg)
     else if by8 = 1 then some rSrc
     else if code = 6 ∨ code = 7 ∨ code = 12 then some (rShf (if c = 7 then 63 else 31))
     else some rImm)
  else if c = 5 ∨ c = 6 then
    (if op = 5 then some ⟨false, false, true, false, -2147483648, 2147483647, false, 0⟩
     else if op = 133 then some ⟨false, false, false, true, -2147483648, 2147483647, false, 0⟩
     else if op = 149 then some ⟨false, false, false, false, -2147483648, 2147483647, false, 0⟩
     else if 1 ≤ code ∧ code ≤ 7 ∨ 10 ≤ code ∧ code ≤ 13 then some (if by8 = 1 then rJmpS else rJmpI) else none)
  else if c = 0 then (if op = 24 then some ⟨true, true, false, true, -9223372036854775808, 9223372036854775807, true, 2⟩ else none)
  else if c = 1 then (if mode = 3 then some ⟨true, true, true, false, -2147483648, 2147483647, true, 0⟩ else none)
  else if c = 2 then (if mode = 3 then some ⟨true, false, true, true, -2147483648, 2147483647, false, 0⟩ else none)
  else (if mode = 3 then some ⟨true, true, true, false, -2147483648, 2147483647, false, 0⟩ else if op = 195 ∨ op = 219 then some rAtom else none)

theorem rget_none : ∀ (l : RT) (k : Int), (∀ p ∈ l, p.1 ≠ k) → rget l k = none
  | [], _, _ => rfl
  | (a, u) :: l, k, h => by
    rw [rget, if_neg (h (a, u) (by simp))]
    exact rget_none l k fun p hp => h p (List.mem_cons_of_mem _ hp)

theorem tab_keys : (tab.all fun p => decide (0 ≤ p.1 ∧ p.1 ≤ 255)) = true := by decide +kernel
theorem tab_row (op : Int) : rget tab op = refRow op := by
  by_cases h : op < 0 ∨ op > 255
  · have e : refRow op = none := by unfold refRow; simp only; rw [if_pos h]
    rw [e]
    refine rget_none _ _ fun p hp hk => ?_
    have := List.all_eq_true.1 tab_keys p hp
    simp only [decide_eq_true_eq] at this
    omega
  · have all : ∀ j : Fin 256, rget tab ((j : Nat) : Int) = refRow ((j : Nat) : Int) := by decide +kernel
    obtain ⟨n, rfl⟩ := Int.eq_ofNat_of_zero_le (show 0 ≤ op by omega)
    exact all ⟨n, by omega⟩

def isAtom (imm : Int) : Bool := imm = 0 ∨ imm = 64 ∨ imm = 80 ∨ imm = 160 ∨ imm = 1 ∨ imm = 65 ∨ imm = 81 ∨ imm = 161 ∨ imm = 225 ∨ imm = 241
def fetches (imm : Int) : Bool := imm = 1 ∨ imm = 65 ∨ imm = 81 ∨ imm = 161 ∨ imm = 225 ∨ imm = 241
def onlyI (n : Nat) (x : Ins) : Bool :=
  if n = 0 then true else if n = 1 then x.imm = 16 ∨ x.imm = 32 ∨ x.imm = 64 else if n = 2 then x.src = 0 ∨ 0 ≤ x.imm ∧ x.imm ≤ 2147483647 else isAtom x.imm

/-- What is wrong with an instruction. -/
def chkI (x : Ins) : Int :=
  match refRow x.op with
  | none => 7
  | some r =>
    if ¬ (0 ≤ x.dst ∧ x.dst ≤ 10 ∧ 0 ≤ x.src ∧ x.src ≤ 10 ∧ ¬ (r.wr = true ∧ x.dst = 10) ∧ ¬ ((x.op = 195 ∨ x.op = 219) ∧ fetches x.imm = true ∧ x.src = 10)) then 8
    else if (r.d = false ∧ x.dst ≠ 0) ∨ (r.s = false ∧ x.src ≠ 0) ∨ (r.o = false ∧ x.off ≠ 0) ∨ (r.i = false ∧ x.imm ≠ 0) ∨ (x.op = 24 ∧ x.src > 1) then 9
    else if x.off < -32768 ∨ x.off > 32767 ∨ x.imm < r.low ∨ x.imm > r.high ∨ onlyI r.only x = false then 10
    else 0

theorem row_bd {op : Int} {r : Rw} (h : refRow op = some r) : 0 ≤ op ∧ op ≤ 255 ∧ (op ≠ 24 → -2147483648 ≤ r.low ∧ r.high ≤ 2147483647) ∧ -9223372036854775808 ≤ r.low ∧ r.high ≤ 9223372036854775807 := by
  by_cases hb : op < 0 ∨ op > 255
  · unfold refRow at h; simp only at h; rw [if_pos hb] at h; cases h
  · have all : ∀ j : Fin 256, (match refRow ((j : Nat) : Int) with | none => true | some r => decide ((((j : Nat) : Int) ≠ 24 → -2147483648 ≤ r.low ∧ r.high ≤ 2147483647) ∧ -9223372036854775808 ≤ r.low ∧ r.high ≤ 9223372036854775807)) = true := by decide +kernel
    obtain ⟨n, rfl⟩ := Int.eq_ofNat_of_zero_le (show 0 ≤ op by omega)
    have := all ⟨n, by omega⟩
    simp only [h, decide_eq_true_eq] at this
    exact ⟨by omega, by omega, this⟩

theorem chk_bnd (x : Ins) (h : chkI x = 0) : Bnd x := by
  unfold chkI at h
  cases hr : refRow x.op with
  | none => rw [hr] at h; cases h
  | some r =>
    rw [hr] at h
    simp only at h
    obtain ⟨b1, b2, b3, b4⟩ := row_bd hr
    split at h
    · cases h
    · rename_i h1
      simp only [Classical.not_not] at h1
      split at h
      · cases h
      · split at h
        · cases h
        · rename_i h3
          refine ⟨⟨b1, b2⟩, by omega, by omega, by omega, fun h => ?_, by omega⟩
          have := b3 h; omega
end Go.Proofs.YtmgkngdbphkmmaaDoor
