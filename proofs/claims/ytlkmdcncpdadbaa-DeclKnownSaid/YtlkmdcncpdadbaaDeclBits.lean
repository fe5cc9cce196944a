/-
  'crossbarlaw07.DeclBits' returns true: a key has from one to three bits.
-/
import Derived.Test.YtlkmdcncpdadbaaDecl
namespace Go.Proofs.Ytlkmdcncpdadbaa
open Go Go.AS Go.RowKit
set_option linter.unusedVariables false
variable {H : Heap} {R : Value → Heap → Prop}

def blm (k : BitVec 64) : BitVec 64 := k * 14029467366897019727#64
def pos1 (k : BitVec 64) : Nat := (blm k).toNat / 288230376151711744
def pos2 (k : BitVec 64) : Nat := (blm k).toNat / 4503599627370496 % 64
def pos3 (k : BitVec 64) : Nat := (blm k).toNat / 70368744177664 % 64
def bitsOf (k : BitVec 64) : BitVec 64 := BitVec.twoPow 64 (pos1 k) ||| BitVec.twoPow 64 (pos2 k) ||| BitVec.twoPow 64 (pos3 k)

theorem pos_lt (k : BitVec 64) : pos1 k < 64 ∧ pos2 k < 64 ∧ pos3 k < 64 := by
  have := (blm k).isLt
  unfold pos1 pos2 pos3
  omega

theorem shl_pow {p : Nat} (hp : p < 64) : IntKind.u64.wrap (1 * 2 ^ min p 64) = ((BitVec.twoPow 64 p).toNat : Int) := by
  rw [Nat.min_eq_left (by omega), Int.one_mul, wrap_u64]
  congr 2
  apply BitVec.eq_of_toNat_eq
  rw [BitVec.toNat_twoPow]
  have : ((2:Int) ^ p) = ((2 ^ p : Nat) : Int) := by simp
  rw [this, BitVec.ofInt_natCast, BitVec.toNat_ofNat]

theorem and63 (a : Nat) (h : a < 18446744073709551616) : (BitVec.ofInt 64 (a : Int) &&& BitVec.ofInt 64 63).toNat = a % 64 := by
  have e1 : BitVec.ofInt 64 (a : Int) = BitVec.ofNat 64 a := BitVec.ofInt_natCast ..
  have e2 : BitVec.ofInt 64 63 = BitVec.ofNat 64 63 := rfl
  rw [e1, e2, BitVec.toNat_and, BitVec.toNat_ofNat, BitVec.toNat_ofNat, Nat.mod_eq_of_lt (by omega)]
  exact Nat.and_two_pow_sub_one_eq_mod a 6

theorem blm_wrap (k : BitVec 64) : IntKind.u64.wrap ((k.toNat : Int) * 14029467366897019727) = ((blm k).toNat : Int) := by
  have e := mul_wrap k 14029467366897019727 (by decide)
  rw [show ((k.toNat : Int) * 14029467366897019727) = ((k.toNat : Int) * ((14029467366897019727 : Nat) : Int)) from rfl, e]
  rfl
theorem blm_pos1 (k : BitVec 64) : ((blm k).toNat : Int).fdiv 288230376151711744 = (pos1 k : Int) := by
  rw [Int.fdiv_eq_ediv_of_nonneg _ (by decide)]
  unfold pos1
  generalize (blm k).toNat = a
  omega
theorem blm_pos (a : Nat) (ha : a < 18446744073709551616) (d : Nat) : IntKind.u64.wrap (((BitVec.ofInt 64 ((a : Int).fdiv (d : Int)) &&& BitVec.ofInt 64 63).toNat : Nat) : Int) = ((a / d % 64 : Nat) : Int) := by
  rw [Int.fdiv_eq_ediv_of_nonneg _ (by omega), ← Int.natCast_ediv]
  have := Nat.div_le_self a d
  rw [and63 _ (by omega)]
  have := Nat.mod_lt (a / d) (show 64 > 0 by decide)
  rw [u64_self (by omega) (by omega)]
theorem blm_pos2 (k : BitVec 64) : IntKind.u64.wrap (((BitVec.ofInt 64 (((blm k).toNat : Int).fdiv 4503599627370496) &&& BitVec.ofInt 64 63).toNat : Nat) : Int) = (pos2 k : Int) :=
  blm_pos _ (blm k).isLt 4503599627370496
theorem blm_pos3 (k : BitVec 64) : IntKind.u64.wrap (((BitVec.ofInt 64 (((blm k).toNat : Int).fdiv 70368744177664) &&& BitVec.ofInt 64 63).toNat : Nat) : Int) = (pos3 k : Int) :=
  blm_pos _ (blm k).isLt 70368744177664

theorem Bloom_ok {k : BitVec 64} {n : Int} (hn : n < 9223372036854775808) (hR : R (.tuple #[I (bkt k n), W (bitsOf k)]) H) : CA en F.decl_Bloom [W k, I n] H R := by
  apply vc_decl_Bloom
  refine Bucket_ok hn ⟨_, rfl, ?_⟩
  rw [blm_wrap, blm_pos1, blm_pos2, blm_pos3]
  have p := pos_lt k
  unfold bitsOf at hR
  revert hR p
  generalize pos1 k = p1
  generalize pos2 k = p2
  generalize pos3 k = p3
  intro hR p
  refine ⟨by unfold nn; decide, by unfold nn; omega, by unfold nn; decide, by unfold nn; omega, by unfold nn; decide, by unfold nn; omega, ?_⟩
  rw [Int.toNat_natCast, Int.toNat_natCast, Int.toNat_natCast]
  rw [shl_pow p.1, shl_pow p.2.1, shl_pow p.2.2]
  simp only [ofInt_bv, wrap_bv]
  exact hR

/-! ### How many -/
def hit (k : BitVec 64) (j : Nat) : Bool := decide (pos1 k = j) || decide (pos2 k = j) || decide (pos3 k = j)
def cnt (k : BitVec 64) : Nat → Nat
  | 0 => 0
  | i + 1 => cnt k i + if hit k i then 1 else 0

theorem cnt_le (k : BitVec 64) : ∀ i, cnt k i ≤ (if pos1 k < i then 1 else 0) + (if pos2 k < i then 1 else 0) + (if pos3 k < i then 1 else 0)
  | 0 => by simp [cnt]
  | i + 1 => by
    have ih := cnt_le k i
    unfold cnt
    by_cases h : hit k i = true
    · rw [if_pos h]
      simp only [hit, Bool.or_eq_true, decide_eq_true_eq] at h
      rcases h with (h | h) | h <;> (repeat' split at ih) <;> (repeat' split) <;> omega
    · rw [if_neg h]
      (repeat' split at ih) <;> (repeat' split) <;> omega
theorem cnt_pos (k : BitVec 64) : ∀ i, pos1 k < i → 1 ≤ cnt k i
  | 0, h => by omega
  | i + 1, h => by
    unfold cnt
    by_cases e : pos1 k = i
    · have : hit k i = true := by simp [hit, e]
      rw [if_pos this]; omega
    · have := cnt_pos k i (by omega)
      omega

theorem bit_at (k : BitVec 64) {i : Nat} (hi : i < 64) : ((((bitsOf k).toNat : Int).fdiv (2 ^ min i 64)).tmod 2 == 1) = hit k i := by
  have e1 : ((bitsOf k).toNat : Int).fdiv (2 ^ min i 64) = (((bitsOf k).toNat / 2 ^ i : Nat) : Int) := by
    rw [Nat.min_eq_left (by omega), Int.fdiv_eq_ediv_of_nonneg _ (Int.pow_nonneg (by decide))]
    simp
  rw [e1, Int.tmod_eq_emod_of_nonneg (Int.natCast_nonneg _)]
  have e2 : (bitsOf k).getLsbD i = hit k i := by
    have p := pos_lt k
    unfold bitsOf hit
    simp [BitVec.getLsbD_or, BitVec.getLsbD_twoPow, p.1, p.2.1, p.2.2]
  rw [← e2]
  unfold BitVec.getLsbD
  rw [Nat.testBit_eq_decide_div_mod_eq, Bool.eq_iff_iff]
  simp only [beq_iff_eq, decide_eq_true_eq]
  omega

theorem DeclBits_ok (k : BitVec 64) (n : Int) (hn : n < 9223372036854775808) (H : Heap) : CA en F.crossbarlaw07_DeclBits [W k, I n] H fun r _ => r = .bool true := by
  apply vc_crossbarlaw07_DeclBits
  refine Bloom_ok hn ⟨_, _, rfl, ?_⟩
  refine use_crossbarlaw07_DeclBits_0 (fun m c i _ => ∃ j : Nat, j ≤ 64 ∧ m = 64 - j ∧ i = (j : Int) ∧ c = (cnt k j : Int)) 64 ⟨0, by omega, rfl, rfl, rfl⟩ ?_
  rintro m c i ys H' ⟨j, hj, rfl, rfl, rfl⟩
  have hc := cnt_le k j
  have hc3 : cnt k j ≤ 3 := by (repeat' split at hc) <;> omega
  refine cond_of (fun h => ?_) fun h => ?_
  · simp only [decide_eq_true_eq] at h
    have hj' : j < 64 := by omega
    rw [u64_self (n := (j : Int)) (by omega) (by omega)]
    refine ⟨by unfold nn; omega, by unfold nz; decide, ?_⟩
    simp only [Int.toNat_natCast]
    rw [bit_at k hj', wrap_i64 (n := (j : Int) + 1) (by omega), wrap_i64 (n := (cnt k j : Int) + 1) (by omega)]
    refine cond_of (fun hh => ⟨64 - (j + 1), by omega, j + 1, by omega, rfl, by omega, ?_⟩) fun hh => ⟨64 - (j + 1), by omega, j + 1, by omega, rfl, by omega, ?_⟩
    · simp [cnt, hh]
    · simp [cnt, hh]
  · simp only [decide_eq_false_iff_not] at h
    obtain rfl : j = 64 := by omega
    have hp := cnt_pos k 64 (pos_lt k).1
    simp only [List.getD_cons_succ, List.getD_cons_zero, asInt_int]
    have works_true : ∀ {H : Heap}, CA en F.crossbarlaw07_works [] H fun v H' => ∃ b, v = .bool b ∧ Value.bool b = Value.bool true := CA_truth (by kernel_rfl) ⟨_, rfl, rfl⟩
    refine cond_yes (by simp; omega) (cond_yes (by simp; omega) ?_)
    by_cases h1 : n < 1
    · have e : bkt k n = 0 := by unfold bkt; rw [if_pos h1]
      rw [e]
      exact cond_yes rfl (cond_no (by simp; omega) (cond_yes (by simpa using h1) (cond_yes rfl works_true)))
    · have hb : 0 ≤ bkt k n ∧ bkt k n < n := by
        unfold bkt
        rw [if_neg h1]
        exact ⟨Int.emod_nonneg _ (by omega), Int.emod_lt_of_pos _ (by omega)⟩
      exact cond_yes (by simp; omega) (cond_yes (by simp; omega) works_true)
end Go.Proofs.Ytlkmdcncpdadbaa
