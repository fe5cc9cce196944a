/-
  'crossbarlaw07.DeclOrder' returns true: keys have one order.
-/
import Derived.Test.YtlkmdcncpdadbaaDecl
import Derived.Test.YtlkmdcncpdadbaaArgs
namespace Go.Proofs.Ytlkmdcncpdadbaa
open Go Go.AS Go.RowKit
set_option linter.unusedVariables false
variable {H : Heap} {R : Value → Heap → Prop}

theorem bkt_bd (a : BitVec 64) {n : Int} (h : 1 ≤ n) : 0 ≤ bkt a n ∧ bkt a n < n := by
  unfold bkt
  rw [if_neg (by omega)]
  exact ⟨Int.emod_nonneg _ (by omega), Int.emod_lt_of_pos _ (by omega)⟩

theorem key_eq {a b : BitVec 64} : (a.toNat : Int) = b.toNat ↔ a = b := bv_eq

theorem ahd_asym (k n : Int) (a b : BitVec 64) : ahd k n a b = true → ahd k n b a = false := by
  unfold ahd
  simp only
  generalize hm : (if (kindD k).bucketed = true then n else 0) = m
  intro h
  by_cases e : bkt a m = bkt b m
  · simp only [e, ne_eq, not_true_eq_false, if_false, decide_eq_true_eq, decide_eq_false_iff_not] at h ⊢; omega
  · simp only [e, Ne.symm e, ne_eq, not_false_eq_true, if_true, decide_eq_true_eq, decide_eq_false_iff_not] at h ⊢; omega
theorem ahd_total (k n : Int) (a b : BitVec 64) : (ahd k n a b = true ∨ ahd k n b a = true) ↔ (a.toNat : Int) ≠ b.toNat := by
  unfold ahd
  simp only
  generalize hm : (if (kindD k).bucketed = true then n else 0) = m
  constructor
  · rintro (h | h) e
    · have := key_eq.1 e; subst this; simp at h
    · have := key_eq.1 e; subst this; simp at h
  · intro h
    by_cases e : bkt a m = bkt b m
    · simp only [e, ne_eq, not_true_eq_false, if_false, decide_eq_true_eq]; omega
    · simp only [e, Ne.symm e, ne_eq, not_false_eq_true, if_true, decide_eq_true_eq]; omega
theorem ahd_trans (k n : Int) (a b c : BitVec 64) : ahd k n a b = true → ahd k n b c = true → ahd k n a c = true := by
  unfold ahd
  simp only
  generalize hm : (if (kindD k).bucketed = true then n else 0) = m
  split <;> split <;> split <;> simp <;> intros <;> omega
theorem ahd_hash {n : Int} (a b : BitVec 64) : ahd 4 n a b = if bkt a n ≠ bkt b n then decide (bkt a n < bkt b n) else decide ((a.toNat : Int) < (b.toNat : Int)) := rfl

theorem works_ok (hR : R (.bool true) H) : CA en F.crossbarlaw07_works [] H fun v H' => ∃ b, v = .bool b ∧ R (.bool b) H' :=
  CA_truth (by kernel_rfl) ⟨_, rfl, hR⟩

theorem works_true {H : Heap} : CA en F.crossbarlaw07_works [] H fun v H' => ∃ b, v = .bool b ∧ Value.bool b = Value.bool true :=
  CA_truth (by kernel_rfl) ⟨_, rfl, rfl⟩

theorem DeclOrder_ok (d : Dc) (hn : d.buckets < 9223372036854775808) (a b c : BitVec 64) (H : Heap) : CA en F.crossbarlaw07_DeclOrder [d.val, W a, W b, W c] H fun r _ => r = .bool true := by
  apply vc_crossbarlaw07_DeclOrder
  refine nwH_in fun i1 H2 e1 h2 => ?_
  have g2 : H2.get i1 = some (.cells true 0 d.cells) := by subst e1 h2; exact get_new_self _ _
  have l2 : i1 < H2.next := by subst e1 h2; rw [next_new]; omega
  clear e1 h2
  have step : ∀ {H' : Heap}, Frm [] H2 H' → H'.get i1 = some (.cells true 0 d.cells) := fun f => by rw [f.2 _ l2 (by simp)]; exact g2
  refine ⟨_, _, _, _, _, by rw [cellsAt_of g2]; rfl, Ahead_ok (d := d) hn fun H7 f7 => ⟨_, rfl, ?_⟩⟩
  refine ⟨_, _, _, _, _, by rw [cellsAt_of (step f7)]; rfl, Ahead_ok (d := d) hn fun H15 f15 => ⟨_, rfl, ?_⟩⟩
  replace f15 := f7.trans f15 (by simp)
  clear f7
  have asym := ahd_asym d.kind d.buckets a b
  have total := ahd_total d.kind d.buckets a b
  have trans := ahd_trans d.kind d.buckets a b c
  have hash : d.kind = 4 → ahd d.kind d.buckets a b = if bkt a d.buckets ≠ bkt b d.buckets then decide (bkt a d.buckets < bkt b d.buckets) else decide ((a.toNat : Int) < (b.toNat : Int)) := by
    intro e; rw [e]; exact ahd_hash a b
  have ba : 1 ≤ d.buckets → 0 ≤ bkt a d.buckets ∧ bkt a d.buckets < d.buckets := bkt_bd a
  generalize ahd d.kind d.buckets a b = A at asym total trans hash ⊢
  generalize ahd d.kind d.buckets b a = B at asym total trans hash ⊢
  have ne : ((a.toNat : Int) != (b.toNat : Int)) = (A || B) := by
    rw [Bool.eq_iff_iff]; simp only [bne_iff_ne, Bool.or_eq_true]; exact total.symm
  rw [ne]
  cases A <;> cases B <;> simp only [cond_true, cond_false, Bool.not_true, Bool.not_false, Bool.or_true, Bool.or_false, Bool.true_or, beq_self_eq_true]
  case true.true => exact absurd (asym rfl) (by simp)
  case true.false =>
    refine ⟨_, _, _, _, _, by rw [cellsAt_of (step f15)]; rfl, Ahead_ok (d := d) hn fun H25 f25 => ⟨_, rfl, ?_⟩⟩
    replace f25 := f15.trans f25 (by simp)
    generalize hC : ahd d.kind d.buckets b c = C at trans ⊢
    cases C <;> simp only [cond_true, cond_false]
    case true =>
      refine ⟨_, _, _, _, _, by rw [cellsAt_of (step f25)]; rfl, Ahead_ok (d := d) hn fun H f => ⟨_, rfl, ?_⟩⟩
      replace f := f25.trans f (by simp)
      rw [trans rfl rfl]
      simp only [cond_false, Bool.not_true]
      refine ⟨d.kind, by rw [cell_of (step f)]; rfl, cond_of (fun hk => ?_) fun _ => works_true⟩
      refine ⟨d.buckets, by rw [cell_of (step f)]; rfl, cond_of (fun hb => ?_) fun _ => works_true⟩
      refine ⟨d.buckets, by rw [cell_of (step f)]; rfl, Bucket_ok hn ⟨_, rfl, d.buckets, by rw [cell_of (step f)]; rfl, Bucket_ok hn ⟨_, rfl, ?_⟩⟩⟩
      have hk' : d.kind = 4 := by simpa using hk
      have hb' : 1 ≤ d.buckets := by simpa using hb
      have hh := hash hk'
      have bb := ba hb'
      refine cond_no (by simp; omega) ⟨d.buckets, by rw [cell_of (step f)]; rfl, cond_no (by simp; omega) ?_⟩
      repeat' (first | exact works_true | (refine cond_of (fun h => ?_) fun h => ?_))
      all_goals (clear hash trans total asym ne ba step g2; exfalso; (try (have hf := hC; clear hC)); split at hh <;> simp only [decide_eq_true_eq, decide_eq_false_iff_not, beq_iff_eq, beq_eq_false_iff_ne, ne_eq, Bool.not_eq_true, Bool.not_eq_false, Bool.not_eq_true', Bool.not_eq_false', eq_comm (a := true), eq_comm (a := false), Bool.not_true, Bool.not_false, Bool.true_eq, Bool.false_eq, Bool.beq_eq_decide_eq] at * <;> omega)
    case false =>
      have f := f25
      refine ⟨d.kind, by rw [cell_of (step f)]; rfl, cond_of (fun hk => ?_) fun _ => works_true⟩
      refine ⟨d.buckets, by rw [cell_of (step f)]; rfl, cond_of (fun hb => ?_) fun _ => works_true⟩
      refine ⟨d.buckets, by rw [cell_of (step f)]; rfl, Bucket_ok hn ⟨_, rfl, d.buckets, by rw [cell_of (step f)]; rfl, Bucket_ok hn ⟨_, rfl, ?_⟩⟩⟩
      have hk' : d.kind = 4 := by simpa using hk
      have hb' : 1 ≤ d.buckets := by simpa using hb
      have hh := hash hk'
      have bb := ba hb'
      refine cond_no (by simp; omega) ⟨d.buckets, by rw [cell_of (step f)]; rfl, cond_no (by simp; omega) ?_⟩
      repeat' (first | exact works_true | (refine cond_of (fun h => ?_) fun h => ?_))
      all_goals (clear hash trans total asym ne ba step g2; exfalso; (try (have hf := hC; clear hC)); split at hh <;> simp only [decide_eq_true_eq, decide_eq_false_iff_not, beq_iff_eq, beq_eq_false_iff_ne, ne_eq, Bool.not_eq_true, Bool.not_eq_false, Bool.not_eq_true', Bool.not_eq_false', eq_comm (a := true), eq_comm (a := false), Bool.not_true, Bool.not_false, Bool.true_eq, Bool.false_eq, Bool.beq_eq_decide_eq] at * <;> omega)
  case false.true =>
    have f := f15
    refine ⟨d.kind, by rw [cell_of (step f)]; rfl, cond_of (fun hk => ?_) fun _ => works_true⟩
    refine ⟨d.buckets, by rw [cell_of (step f)]; rfl, cond_of (fun hb => ?_) fun _ => works_true⟩
    refine ⟨d.buckets, by rw [cell_of (step f)]; rfl, Bucket_ok hn ⟨_, rfl, d.buckets, by rw [cell_of (step f)]; rfl, Bucket_ok hn ⟨_, rfl, ?_⟩⟩⟩
    have hk' : d.kind = 4 := by simpa using hk
    have hb' : 1 ≤ d.buckets := by simpa using hb
    have hh := hash hk'
    have bb := ba hb'
    refine cond_no (by simp; omega) ⟨d.buckets, by rw [cell_of (step f)]; rfl, cond_no (by simp; omega) ?_⟩
    repeat' (first | exact works_true | (refine cond_of (fun h => ?_) fun h => ?_))
    all_goals (clear hash trans total asym ne ba step g2; exfalso; (try (have hf := hC; clear hC)); split at hh <;> simp only [decide_eq_true_eq, decide_eq_false_iff_not, beq_iff_eq, beq_eq_false_iff_ne, ne_eq, Bool.not_eq_true, Bool.not_eq_false, Bool.not_eq_true', Bool.not_eq_false', eq_comm (a := true), eq_comm (a := false), Bool.not_true, Bool.not_false, Bool.true_eq, Bool.false_eq, Bool.beq_eq_decide_eq] at * <;> omega)
  case false.false =>
    have f := f15
    refine ⟨d.kind, by rw [cell_of (step f)]; rfl, cond_of (fun hk => ?_) fun _ => works_true⟩
    refine ⟨d.buckets, by rw [cell_of (step f)]; rfl, cond_of (fun hb => ?_) fun _ => works_true⟩
    refine ⟨d.buckets, by rw [cell_of (step f)]; rfl, Bucket_ok hn ⟨_, rfl, d.buckets, by rw [cell_of (step f)]; rfl, Bucket_ok hn ⟨_, rfl, ?_⟩⟩⟩
    have hk' : d.kind = 4 := by simpa using hk
    have hb' : 1 ≤ d.buckets := by simpa using hb
    have hh := hash hk'
    have bb := ba hb'
    refine cond_no (by simp; omega) ⟨d.buckets, by rw [cell_of (step f)]; rfl, cond_no (by simp; omega) ?_⟩
    repeat' (first | exact works_true | (refine cond_of (fun h => ?_) fun h => ?_))
    all_goals (clear hash trans total asym ne ba step g2; exfalso; (try (have hf := hC; clear hC)); split at hh <;> simp only [decide_eq_true_eq, decide_eq_false_iff_not, beq_iff_eq, beq_eq_false_iff_ne, ne_eq, Bool.not_eq_true, Bool.not_eq_false, Bool.not_eq_true', Bool.not_eq_false', eq_comm (a := true), eq_comm (a := false), Bool.not_true, Bool.not_false, Bool.true_eq, Bool.false_eq, Bool.beq_eq_decide_eq] at * <;> omega)

theorem DeclOrder_law (H : Heap) (us : List Value) (h : shpVs en H 7 T.DeclOrder us) : CA en F.crossbarlaw07_DeclOrder us H fun v _ => v = .bool true := by
  obtain ⟨v, u, rfl, ⟨l, rfl, a1, b1, rfl, ⟨n1, rfl, w1⟩, a2, b2, rfl, ⟨n2, rfl, w2⟩, a3, b3, rfl, ⟨n3, rfl, w3⟩, a4, b4, rfl, ⟨n4, rfl, w4⟩, a5, b5, rfl, ⟨n5, rfl, w5⟩, rfl⟩, v2, u2, rfl, ⟨k1, e1, y1⟩, v3, u3, rfl, ⟨k2, e2, y2⟩, v4, u4, rfl, ⟨k3, e3, y3⟩, rfl⟩ := args_DeclOrder h
  cases e1; cases e2; cases e3
  obtain ⟨a, rfl⟩ := word_of y1
  obtain ⟨b, rfl⟩ := word_of y2
  obtain ⟨c, rfl⟩ := word_of y3
  exact DeclOrder_ok ⟨n1, n2, n3, n4, n5⟩ (i64_bd w4).2 a b c H
end Go.Proofs.Ytlkmdcncpdadbaa
