/-
  Small helpers of the statements: what they do.
-/
import Derived.Test.YthnifkjpkepbaaaVcK
import Derived.Test.YthnifkjpkepbaaaAs43
import Derived.Test.YthnifkjpkepbaaaAs24
namespace Go.Proofs.Ythnifkjpkepbaaa
open Go Go.AS Go.RowKit
set_option linter.unusedVariables false
abbrev P (i : Nat) : Value := .pointer (some ⟨i, 0, none⟩)
abbrev I (n : Int) : Value := .int .i64 n
variable {H H' : Heap} {R : Value → Heap → Prop} {L : List Asr}

theorem Pick_ok {v n : Int} (hn : 1 ≤ n) (hl : n ≤ 4611686018427387904) (hR : R (I (v % n)) H) : CA en F.crossbarkit_Pick [I v, I n] H R := by
  apply vc_crossbarkit_Pick
  refine cond_no (by simp; omega) ⟨by unfold nz; omega, ?_⟩
  have hb : (v.tmod n).natAbs < n.natAbs := by
    rw [Int.natAbs_tmod]; exact Nat.mod_lt _ (by omega)
  have h1 : v % n = if v.tmod n < 0 then v.tmod n + n else v.tmod n := by
    have e1 := Int.tmod_add_mul_tdiv v n
    split
    · rename_i h
      have : v % n = (v.tmod n + n) % n := by
        conv => lhs; rw [← e1]
        rw [Int.add_mul_emod_self_left, Int.add_emod_right]
      rw [this]; exact Int.emod_eq_of_lt (by omega) (by omega)
    · rename_i h
      have : v % n = (v.tmod n) % n := by
        conv => lhs; rw [← e1]
        rw [Int.add_mul_emod_self_left]
      rw [this]; exact Int.emod_eq_of_lt (by omega) (by omega)
  rw [h1] at hR
  refine cond_of (fun h => ?_) fun h => ?_
  · simp only [decide_eq_true_eq] at h
    rw [if_pos h] at hR
    rw [wrap_i64 (by omega)]; exact hR
  · simp only [decide_eq_false_iff_not] at h
    rw [if_neg h] at hR; exact hR

end Go.Proofs.Ythnifkjpkepbaaa
