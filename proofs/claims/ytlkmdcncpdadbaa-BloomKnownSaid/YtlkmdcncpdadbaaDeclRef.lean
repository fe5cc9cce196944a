/-
  What the document answers about maps: what its functions do.
-/
import Derived.Test.YtlkmdcncpdadbaaDeclBits
namespace Go.Proofs.Ytlkmdcncpdadbaa
open Go Go.AS Go.RowKit
set_option linter.unusedVariables false
variable {H : Heap} {R : Value → Heap → Prop}

/-! ### What the document answers -/
theorem RBucket_ok {k : BitVec 64} {n : Int} (hn : n < 9223372036854775808) (hR : R (I (bkt k n)) H) : CA en F.crossbarref07_Bucket [W k, I n] H R := by
  apply vc_crossbarref07_Bucket
  by_cases h : n < 1
  · refine cond_yes (by simpa using h) ?_
    have : bkt k n = 0 := by unfold bkt; rw [if_pos h]
    rw [this] at hR
    exact hR
  · refine cond_no (by simpa using h) ⟨by unfold nz; decide, ?_, ?_⟩
    · rw [u64_self (by omega) (by omega)]; unfold nz; omega
    · rw [u64_self (n := n) (by omega) (by omega)]
      have e := mul_wrap k 11400714819323198485 (by decide)
      rw [show ((k.toNat : Int) * 11400714819323198485) = ((k.toNat : Int) * ((11400714819323198485 : Nat) : Int)) from rfl, e]
      have e2 : ((((k * BitVec.ofNat 64 11400714819323198485).toNat : Nat) : Int).tdiv 4294967296) = (hsh k : Int) := by
        unfold hsh
        rw [Int.tdiv_eq_ediv_of_nonneg (Int.natCast_nonneg _)]
        rfl
      have hb := hsh_lt k
      rw [e2, u64_self (n := (hsh k : Int)) (by omega) (by omega), Int.tmod_eq_emod_of_nonneg (by omega)]
      have e3 : (hsh k : Int) % n = ((hsh k % n.toNat : Nat) : Int) := by rw [Int.natCast_emod, Int.toNat_of_nonneg (by omega)]
      have e4 := Nat.mod_le (hsh k) n.toNat
      have h1 : (hsh k : Int) % n < 4294967296 := by omega
      have h2 : 0 ≤ (hsh k : Int) % n := Int.emod_nonneg _ (by omega)
      rw [wrap_i64 (by omega)]
      have : bkt k n = (hsh k : Int) % n := by unfold bkt; rw [if_neg h]
      rw [this] at hR
      exact hR

theorem bucketed_iff (k : Int) : (kindD k).bucketed = (k == 4 || k == 10) := by
  by_cases h : 1 ≤ k ∧ k ≤ 10
  · have hx : k = 1 ∨ k = 2 ∨ k = 3 ∨ k = 4 ∨ k = 5 ∨ k = 6 ∨ k = 7 ∨ k = 8 ∨ k = 9 ∨ k = 10 := by omega
    rcases hx with rfl | rfl | rfl | rfl | rfl | rfl | rfl | rfl | rfl | rfl <;> rfl
  · have e : kindOf k = none := by
      unfold kindOf
      repeat rw [if_neg (by omega)]
    have e2 : (k == 4 || k == 10) = false := by simp; omega
    rw [e2]; unfold kindD; rw [e]; rfl

theorem bkt_zero (k : BitVec 64) : bkt k 0 = 0 := rfl

theorem RAhead_ok {d : Dc} {a b : BitVec 64} (hn : d.buckets < 9223372036854775808) (hR : ∀ H', Frm [] H H' → R (.bool (ahd d.kind d.buckets a b)) H') : CA en F.crossbarref07_Ahead [d.val, W a, W b] H R := by
  apply vc_crossbarref07_Ahead
  refine nwH_in fun i1 H2 e1 h2 => ?_
  have g2 : H2.get i1 = some (.cells true 0 d.cells) := by subst e1 h2; exact get_new_self _ _
  have f2 : Frm [] H H2 := by subst h2; exact (Frm.refl _ _).new _
  clear e1 h2
  have this := hR H2 f2
  unfold ahd at this
  rw [bucketed_iff] at this
  have fin : (d.kind == 4 || d.kind == 10) = true → cond (bkt a d.buckets != bkt b d.buckets) (R (.bool (decide (bkt a d.buckets < bkt b d.buckets))) H2) (R (.bool (decide ((a.toNat : Int) < (b.toNat : Int)))) H2) := by
    intro hk
    rw [hk] at this
    simp only [if_true] at this
    refine cond_of (fun h => ?_) fun h => ?_
    · rw [bne_iff_ne] at h
      rw [if_pos h] at this
      exact this
    · rw [bne_eq_false_iff_eq] at h
      rw [if_neg (by simpa using h)] at this
      exact this
  refine ⟨d.kind, by rw [cell_of g2]; rfl, cond_of (fun h => ?_) fun h => ?_⟩
  · exact ⟨d.buckets, by rw [cell_of g2]; rfl, RBucket_ok hn ⟨_, rfl, d.buckets, by rw [cell_of g2]; rfl, RBucket_ok hn ⟨_, rfl, fin (by rw [h]; rfl)⟩⟩⟩
  · refine ⟨d.kind, by rw [cell_of g2]; rfl, cond_of (fun h' => ?_) fun h' => ?_⟩
    · exact ⟨d.buckets, by rw [cell_of g2]; rfl, RBucket_ok hn ⟨_, rfl, d.buckets, by rw [cell_of g2]; rfl, RBucket_ok hn ⟨_, rfl, fin (by rw [h']; simp)⟩⟩⟩
    · rw [h, h'] at this
      simpa [bkt_zero] using this

/-! bits -/
def acc (k : BitVec 64) : Nat → BitVec 64
  | 0 => 0#64
  | j + 1 => if hit k j then acc k j + BitVec.twoPow 64 j else acc k j

theorem acc_bit (k : BitVec 64) : ∀ j, j ≤ 64 → ∀ i, i < 64 → (acc k j).getLsbD i = (decide (i < j) && hit k i)
  | 0, _, i, _ => by simp [acc]
  | j + 1, hj, i, hi => by
    have ih := acc_bit k j (by omega)
    unfold acc
    by_cases h : hit k j = true
    · rw [if_pos h, BitVec.add_eq_or_of_and_eq_zero, BitVec.getLsbD_or, ih i hi, BitVec.getLsbD_twoPow]
      · by_cases e : i = j
        · subst e; simp [h, hi]
        · have : decide (i < j + 1) = decide (i < j) := by rw [Bool.eq_iff_iff]; simp; omega
          rw [this]; simp [Ne.symm e]
      · apply BitVec.eq_of_getLsbD_eq
        intro m hm
        rw [BitVec.getLsbD_and, ih m hm, BitVec.getLsbD_twoPow]
        by_cases e : j = m
        · subst e; simp
        · simp [e]
    · rw [if_neg h, ih i hi]
      by_cases e : i = j
      · subst e; simp [h]
      · have : decide (i < j + 1) = decide (i < j) := by rw [Bool.eq_iff_iff]; simp; omega
        rw [this]

theorem acc_all (k : BitVec 64) : acc k 64 = bitsOf k := by
  apply BitVec.eq_of_getLsbD_eq
  intro i hi
  rw [acc_bit k 64 (Nat.le_refl _) i hi]
  have p := pos_lt k
  unfold bitsOf hit
  have c : ∀ a b : Nat, decide (a = b) = decide (b = a) := fun a b => decide_eq_decide.2 eq_comm
  simp [BitVec.getLsbD_or, BitVec.getLsbD_twoPow, p.1, p.2.1, p.2.2, hi]
  rw [c (pos1 k), c (pos2 k), c (pos3 k)]

theorem acc_wrap (a b : BitVec 64) : IntKind.u64.wrap ((a.toNat : Int) + (b.toNat : Int)) = (((a + b).toNat : Nat) : Int) := by
  rw [wrap_u64, BitVec.ofInt_add, ofInt_bv, ofInt_bv]

theorem rem_pos2 (k : BitVec 64) : (((blm k).toNat : Int).fdiv 4503599627370496).tmod 64 = (pos2 k : Int) := by
  unfold pos2
  generalize (blm k).toNat = a
  rw [Int.fdiv_eq_ediv_of_nonneg _ (by decide), Int.tmod_eq_emod_of_nonneg (by omega)]
  omega
theorem rem_pos3 (k : BitVec 64) : (((blm k).toNat : Int).fdiv 70368744177664).tmod 64 = (pos3 k : Int) := by
  unfold pos3
  generalize (blm k).toNat = a
  rw [Int.fdiv_eq_ediv_of_nonneg _ (by decide), Int.tmod_eq_emod_of_nonneg (by omega)]
  omega

theorem RBloom_ok {k : BitVec 64} {n : Int} (hn : n < 9223372036854775808) (hR : R (.tuple #[I (bkt k n), W (bitsOf k)]) H) : CA en F.crossbarref07_Bloom [W k, I n] H R := by
  apply vc_crossbarref07_Bloom
  rw [blm_wrap]
  refine use_crossbarref07_Bloom_0 (fun m b i H' => ∃ j : Nat, j ≤ 64 ∧ m = 64 - j ∧ i = (j : Int) ∧ b = ((acc k j).toNat : Int) ∧ H' = H) 64 ⟨0, by omega, rfl, rfl, rfl, rfl⟩ ?_
  rintro m b i ys H' ⟨j, hj, rfl, rfl, rfl, rfl⟩
  refine cond_of (fun h => ?_) fun h => ?_
  · simp only [decide_eq_true_eq] at h
    have hj' : j < 64 := by omega
    rw [u64_self (n := (j : Int)) (by omega) (by omega), wrap_i64 (n := (j : Int) + 1) (by omega), blm_pos1, rem_pos2, rem_pos3]
    rw [Int.toNat_natCast, shl_pow hj', acc_wrap]
    have yes : hit k j = true → ∃ i1, i1 < 64 - j ∧ ∃ j' : Nat, j' ≤ 64 ∧ i1 = 64 - j' ∧ (j : Int) + 1 = (j' : Int) ∧ (((acc k j + BitVec.twoPow 64 j).toNat : Nat) : Int) = ((acc k j').toNat : Int) ∧ H' = H' :=
      fun hh => ⟨64 - (j + 1), by omega, j + 1, by omega, rfl, by omega, by simp [acc, hh], rfl⟩
    have no : hit k j = false → ∃ i1, i1 < 64 - j ∧ ∃ j' : Nat, j' ≤ 64 ∧ i1 = 64 - j' ∧ (j : Int) + 1 = (j' : Int) ∧ (((acc k j).toNat : Nat) : Int) = ((acc k j').toNat : Int) ∧ H' = H' :=
      fun hh => ⟨64 - (j + 1), by omega, j + 1, by omega, rfl, by omega, by simp [acc, hh], rfl⟩
    have hnn : nn (j : Int) := by unfold nn; omega
    refine ⟨by unfold nn; decide, cond_of (fun h1 => ⟨hnn, yes ?_⟩) fun h1 => ⟨by unfold nn; decide, by unfold nz; decide, cond_of (fun h2 => ⟨hnn, yes ?_⟩) fun h2 => ⟨by unfold nn; decide, by unfold nz; decide, cond_of (fun h3 => ⟨hnn, yes ?_⟩) fun h3 => no ?_⟩⟩⟩
    · simp only [beq_iff_eq] at h1
      simp [hit, show pos1 k = j by omega]
    · simp only [beq_iff_eq] at h2
      simp [hit, show pos2 k = j by omega]
    · simp only [beq_iff_eq] at h3
      simp [hit, show pos3 k = j by omega]
    · simp only [beq_eq_false_iff_ne, ne_eq] at h1 h2 h3
      simp [hit, show pos1 k ≠ j by omega, show pos2 k ≠ j by omega, show pos3 k ≠ j by omega]
  · simp only [decide_eq_false_iff_not] at h
    obtain rfl : j = 64 := by omega
    simp only [List.getD_cons_succ, List.getD_cons_zero, asInt_int]
    rw [acc_all]
    exact RBucket_ok hn ⟨_, rfl, hR⟩
end Go.Proofs.Ytlkmdcncpdadbaa
