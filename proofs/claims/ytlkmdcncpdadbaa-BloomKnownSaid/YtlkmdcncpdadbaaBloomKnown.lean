/-
  'crossbarlaw18.BloomKnown' returns true.
-/
import Derived.Test.YtlkmdcncpdadbaaBloomFinds
namespace Go.Proofs.Ytlkmdcncpdadbaa
open Go Go.AS Go.RowKit
set_option linter.unusedVariables false
variable {H H' : Heap} {m : Nat} {S S' : Sm} {R : Value → Heap → Prop} {L : List Asr} {ws : List (BitVec 64)} {c : Int}

theorem bits_pos (k : BitVec 64) : (bitsOf k).getLsbD (pos1 k) = true := by
  have p := pos_lt k
  unfold bitsOf
  rw [BitVec.getLsbD_or, BitVec.getLsbD_or, BitVec.getLsbD_twoPow]
  simp [p.1]

theorem zero_has (N : Nat) (k : BitVec 64) : has (List.replicate N 0) k = false := by
  rw [Bool.eq_false_iff]
  intro h
  have := (has_iff _ _).1 h (pos1 k) (pos_lt k).1 (bits_pos k)
  rw [List.getD_eq_getElem?_getD, List.getElem?_replicate] at this
  split at this <;> simp at this

/-- How many of the first are missed. -/
def missed (ws : List (BitVec 64)) : Nat → Nat
  | 0 => 0
  | j + 1 => missed ws j + (if has ws (BitVec.ofNat 64 j) then 0 else 1)
theorem missed_le (ws : List (BitVec 64)) : ∀ j, missed ws j ≤ j
  | 0 => Nat.le_refl _
  | j + 1 => by have := missed_le ws j; unfold missed; split <;> omega

theorem missed_all : decide (50 < missed (push (List.replicate 32 0) 1000) 100) = true := by kernel_rfl

theorem word_nat {n : Nat} (h : n < 18446744073709551616) : Value.int .u64 (n : Int) = W (BitVec.ofNat 64 n) := by
  show _ = Value.int .u64 ((n % 2 ^ 64 : Nat) : Int)
  rw [Nat.mod_eq_of_lt (by omega)]

set_option maxRecDepth 10000 in
theorem BloomKnown_ok (H : Heap) : CA en F.crossbarlaw18_BloomKnown [] H fun r _ => r = .bool true := by
  apply vc_crossbarlaw18_BloomKnown
  refine bmade_s (H := H) (L := []) Sep.nil (by decide) fun H2 m x S o h2 => ⟨_, _, rfl, cond_no rfl (cond_no rfl ?_)⟩
  replace o : One S (List.replicate 32 0) 0 := o
  refine use_crossbarlaw18_BloomKnown_0 (fun k _ t3 H => ∃ (j : Nat) (S : Sm) (c : Int), j ≤ 200 ∧ k = 200 - j ∧ t3 = (j : Int) ∧ c ≤ j ∧ One S (List.replicate 32 0) c ∧ Sep H (bm m x ⟨8, 1, 1, 32, 0⟩ 1 :: mem m S :: []))
    200 ⟨0, S, 0, by omega, rfl, rfl, by omega, o, h2⟩ ?_
  clear h2 o S
  intro k0 t0 t3 ys H1 hI
  obtain ⟨j, S, c, hj, hk0, ht3, hc, o, hs⟩ := hI
  subst hk0 ht3
  refine cond_of (fun h1 => ?_) fun h1 => ?_
  · simp only [decide_eq_true_eq] at h1
    rw [wrap_u64]
    refine once_s hs o (by omega) (by simp) (by simp) fun H5 S5 o5 h5 => ⟨_, _, rfl, cond_no (by rw [gives_peek, zero_has]; rfl) (cond_no rfl ?_)⟩
    rw [done_peek] at o5
    refine ⟨200 - (j + 1), by omega, j + 1, S5, _, by omega, rfl, ?_, by omega, o5, h5⟩
    rw [u64_self (by omega) (by omega)]; omega
  · refine asBool_in ?_
    have e1000 : Value.int .u64 1000 = W 1000 := rfl
    rw [e1000]
    have : j ≤ 200 := hj
    refine once_s hs o (by omega) (by simp) (by simp) fun H5 S5 o5 h5 => ⟨_, _, rfl, ?_⟩
    rw [done_push] at o5
    refine use_crossbarlaw18_BloomKnown_1 (fun k t6 t7 H => ∃ (p : Nat) (S : Sm) (c : Int), p ≤ 100 ∧ k = 100 - p ∧ t7 = (p : Int) ∧ t6 = (missed (push (List.replicate 32 0) 1000) p : Int) ∧ c ≤ 300 + p ∧ One S (push (List.replicate 32 0) 1000) c ∧ Sep H (bm m x ⟨8, 1, 1, 32, 0⟩ 1 :: mem m S :: []))
      100 ⟨0, S5, _, by omega, rfl, rfl, rfl, by omega, o5, h5⟩ ?_
    clear h5 o5 S5 hs o S hc
    intro k1 t6 t7 ys1 H2 hI
    obtain ⟨p, S, c, hp, hk1, ht7, ht6, hc, o, hs⟩ := hI
    subst hk1 ht7 ht6
    refine cond_of (fun h2 => ?_) fun h2 => ?_
    · simp only [decide_eq_true_eq] at h2
      have hm := missed_le (push (List.replicate 32 0) 1000) p
      have hp2 : IntKind.u64.wrap ((p : Int) + 1) = ((p + 1 : Nat) : Int) := by rw [u64_self (by omega) (by omega)]; omega
      rw [word_nat (by omega), hp2]
      refine once_s hs o (by omega) (by rw [push_len]; simp) (by rw [push_len]; simp) fun H5 S5 o5 h5 => ⟨_, _, rfl, ?_⟩
      rw [done_peek] at o5
      rw [gives_peek]
      refine cond_of (fun hh => ?_) fun hh => ?_
      · refine ⟨100 - (p + 1), by omega, p + 1, S5, _, by omega, rfl, rfl, ?_, by omega, o5, h5⟩
        have : has (push (List.replicate 32 0) 1000) (BitVec.ofNat 64 p) = false := by
          cases hx : has (push (List.replicate 32 0) 1000) (BitVec.ofNat 64 p)
          · rfl
          · rw [hx] at hh; cases hh
        rw [wrap_i64 (by omega)]
        show _ = ((missed _ p + (if has _ _ = true then 0 else 1) : Nat) : Int)
        rw [this]; simp
      · refine ⟨100 - (p + 1), by omega, p + 1, S5, _, by omega, rfl, rfl, ?_, by omega, o5, h5⟩
        have : has (push (List.replicate 32 0) 1000) (BitVec.ofNat 64 p) = true := by
          cases hx : has (push (List.replicate 32 0) 1000) (BitVec.ofNat 64 p)
          · rw [hx] at hh; cases hh
          · rfl
        show _ = ((missed _ p + (if has _ _ = true then 0 else 1) : Nat) : Int)
        rw [this]; simp
    · simp only [decide_eq_false_iff_not] at h2
      obtain rfl : p = 100 := by omega
      have hm := of_decide_eq_true missed_all
      refine asInt_in (new_s hs fun H3 m1 mp1 h3 => ⟨_, rfl, ?_⟩)
      refine bnew_s (d := ⟨1, 1, 1, 0, 0⟩) h3 (fun _ H4 h4 => ?_) (fun _ hk => by cases hk) (fun _ hk => by cases hk)
      refine ⟨_, _, rfl, new_s h4 fun H5 m2 mp2 h5 => ⟨_, rfl, ?_⟩⟩
      refine bnew_s (d := ⟨8, 1, 1, 4, 0⟩) h5 (fun hk => ?_) (fun _ _ _ H6 h6 => ?_) (fun _ _ hk => ?_)
      · rcases hk with hk | hk
        · exact (hk rfl).elim
        · exact (hk rfl).elim
      · refine ⟨_, _, rfl, new_s h6 fun H7 m3 mp3 h7 => ⟨_, rfl, ?_⟩⟩
        refine bnew_s (d := ⟨8, 1, 1, 3, 0⟩) h7 (fun _ H8 h8 => ?_) (fun hk => ?_) (fun hk => ?_)
        · refine ⟨_, _, rfl, cond_yes (by rw [decide_eq_true_eq]; omega) (cond_yes rfl (cond_yes rfl (cond_yes rfl (CA_truth (by kernel_rfl) ⟨_, rfl, rfl⟩))))⟩
        · exact absurd hk (by decide)
        · exact absurd hk (by decide)
      · rw [clampRoom_eq] at hk
        simp only at hk
        omega

theorem BloomKnown_law (H : Heap) (us : List Value) (h : us = []) : CA en F.crossbarlaw18_BloomKnown us H fun v _ => v = .bool true := by
  subst h
  exact BloomKnown_ok H
end Go.Proofs.Ytlkmdcncpdadbaa
