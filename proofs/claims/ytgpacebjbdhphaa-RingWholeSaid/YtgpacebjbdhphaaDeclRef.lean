/-
  What the document answers about maps: what its functions do.
-/
import Derived.Test.YtgpacebjbdhphaaDeclBits
namespace Go.Proofs.Ytgpacebjbdhphaa
open Go Go.AS Go.RowKit
set_option linter.unusedVariables false
variable {H : Heap} {R : Value → Heap → Prop}

/-! ### What the document answers -/
theorem bucketed_iff (k : Int) : (kindD k).bucketed = (k == 4 || k == 10) := by
  by_cases h : 1 ≤ k ∧ k ≤ 10
  · have hx : k = 1 ∨ k = 2 ∨ k = 3 ∨ k = 4 ∨ k = 5 ∨ k = 6 ∨ k = 7 ∨ k = 8 ∨ k = 9 ∨ k = 10 := by omega
    rcases hx with rfl | rfl | rfl | rfl | rfl | rfl | rfl | rfl | rfl | rfl <;> rfl
  · have e : kindOf k = none := by
      unfold kindOf
      repeat rw [if_neg (by omega)]
    have e2 : (k == 4 || k == 10) = false := by simp; omega
    rw [e2]; unfold kindD; rw [e]; rfl

theorem bkt_zero (k : BitVec 64) : bkt k 0 = 0 := rfl

/-! bits -/
def acc (k : BitVec 64) : Nat → BitVec 64
  | 0 => 0#64
  | j + 1 => if hit k j then acc k j + BitVec.twoPow 64 j else acc k j

theorem acc_bit (k : BitVec 64) : ∀ j, j ≤ 64 → ∀ i, i < 64 → (acc k j).getLsbD i = (decide (i < j) && hit k i)
  | 0, _, i, _ => by simp [acc]
  | j + 1, hj, i, hi => by
    have ih := acc_bit k j (by omega)
    unfold acc
    by_cases h : hit k j = true
    · rw [if_pos h, BitVec.add_eq_or_of_and_eq_zero, BitVec.getLsbD_or, ih i hi, BitVec.getLsbD_twoPow]
      · by_cases e : i = j
        · subst e; simp [h, hi]
        · have : decide (i < j + 1) = decide (i < j) := by rw [Bool.eq_iff_iff]; simp; omega
          rw [this]; simp [Ne.symm e]
      · apply BitVec.eq_of_getLsbD_eq
        intro m hm
        rw [BitVec.getLsbD_and, ih m hm, BitVec.getLsbD_twoPow]
        by_cases e : j = m
        · subst e; simp
        · simp [e]
    · rw [if_neg h, ih i hi]
      by_cases e : i = j
      · subst e; simp [h]
      · have : decide (i < j + 1) = decide (i < j) := by rw [Bool.eq_iff_iff]; simp; omega
        rw [this]

theorem acc_all (k : BitVec 64) : acc k 64 = bitsOf k := by
  apply BitVec.eq_of_getLsbD_eq
  intro i hi
  rw [acc_bit k 64 (Nat.le_refl _) i hi]
  have p := pos_lt k
  unfold bitsOf hit
  have c : ∀ a b : Nat, decide (a = b) = decide (b = a) := fun a b => decide_eq_decide.2 eq_comm
  simp [BitVec.getLsbD_or, BitVec.getLsbD_twoPow, p.1, p.2.1, p.2.2, hi]
  rw [c (pos1 k), c (pos2 k), c (pos3 k)]

theorem acc_wrap (a b : BitVec 64) : IntKind.u64.wrap ((a.toNat : Int) + (b.toNat : Int)) = (((a + b).toNat : Nat) : Int) := by
  rw [wrap_u64, BitVec.ofInt_add, ofInt_bv, ofInt_bv]

theorem rem_pos2 (k : BitVec 64) : (((blm k).toNat : Int).fdiv 4503599627370496).tmod 64 = (pos2 k : Int) := by
  unfold pos2
  generalize (blm k).toNat = a
  rw [Int.fdiv_eq_ediv_of_nonneg _ (by decide), Int.tmod_eq_emod_of_nonneg (by omega)]
  omega
theorem rem_pos3 (k : BitVec 64) : (((blm k).toNat : Int).fdiv 70368744177664).tmod 64 = (pos3 k : Int) := by
  unfold pos3
  generalize (blm k).toNat = a
  rw [Int.fdiv_eq_ediv_of_nonneg _ (by decide), Int.tmod_eq_emod_of_nonneg (by omega)]
  omega

end Go.Proofs.Ytgpacebjbdhphaa
