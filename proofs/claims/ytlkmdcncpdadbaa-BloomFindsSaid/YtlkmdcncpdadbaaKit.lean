/-
  Small helpers of the statements: what they do.
-/
import Derived.Test.YtlkmdcncpdadbaaVcK
import Derived.Test.YtlkmdcncpdadbaaAs43
import Derived.Test.YtlkmdcncpdadbaaAs24
namespace Go.Proofs.Ytlkmdcncpdadbaa
open Go Go.AS Go.RowKit
set_option linter.unusedVariables false
abbrev P (i : Nat) : Value := .pointer (some ⟨i, 0, none⟩)
abbrev I (n : Int) : Value := .int .i64 n
variable {H H' : Heap} {R : Value → Heap → Prop} {L : List Asr}

theorem Pick_ok {v n : Int} (hn : 1 ≤ n) (hl : n ≤ 4611686018427387904) (hR : R (I (v % n)) H) : CA en F.crossbarkit_Pick [I v, I n] H R := by
  apply vc_crossbarkit_Pick
  refine cond_no (by simp; omega) ⟨by unfold nz; omega, ?_⟩
  have hb : (v.tmod n).natAbs < n.natAbs := by
    rw [Int.natAbs_tmod]; exact Nat.mod_lt _ (by omega)
  have h1 : v % n = if v.tmod n < 0 then v.tmod n + n else v.tmod n := by
    have e1 := Int.tmod_add_mul_tdiv v n
    split
    · rename_i h
      have : v % n = (v.tmod n + n) % n := by
        conv => lhs; rw [← e1]
        rw [Int.add_mul_emod_self_left, Int.add_emod_right]
      rw [this]; exact Int.emod_eq_of_lt (by omega) (by omega)
    · rename_i h
      have : v % n = (v.tmod n) % n := by
        conv => lhs; rw [← e1]
        rw [Int.add_mul_emod_self_left]
      rw [this]; exact Int.emod_eq_of_lt (by omega) (by omega)
  rw [h1] at hR
  refine cond_of (fun h => ?_) fun h => ?_
  · simp only [decide_eq_true_eq] at h
    rw [if_pos h] at hR
    rw [wrap_i64 (by omega)]; exact hR
  · simp only [decide_eq_false_iff_not] at h
    rw [if_neg h] at hR; exact hR

/-! ### Rows of words -/
/-- A row of words that is there. -/
def WRow (H : Heap) (a : Option Addr) (ws : List (BitVec 64)) : Prop := ws = [] ∨ ∃ b w z, a = some ⟨b, 0, none⟩ ∧ b < H.next ∧ H.get b = some (AS.Obj.cells w z (ws.map W))

theorem WRow.frm {a : Option Addr} {ws : List (BitVec 64)} (h : WRow H a ws) (f : Frm [] H H') : WRow H' a ws :=
  h.imp_right fun ⟨b, w, z, h1, h2, h3⟩ => ⟨b, w, z, h1, Nat.lt_of_lt_of_le h2 f.1, by rw [f.2 b h2 (by simp)]; exact h3⟩

theorem WRow.at' {a : Option Addr} {ws : List (BitVec 64)} (h : WRow H a ws) {j : Nat} (hj : j < ws.length) : ∃ b, a = some ⟨b, 0, none⟩ ∧ H.cell b (0 + j * 1) = some (W (ws.getD j 0)) := by
  rcases h with rfl | ⟨b, w, z, rfl, _, hg⟩
  · simp at hj
  · refine ⟨b, rfl, ?_⟩
    rw [cell_of hg, Nat.zero_add, Nat.mul_one, List.getElem?_map, List.getElem?_eq_getElem hj, List.getD_eq_getElem?_getD, List.getElem?_eq_getElem hj]
    rfl

theorem SameWords_ok {a1 a2 : Option Addr} {w1 w2 : List (BitVec 64)} (h1 : WRow H a1 w1) (h2 : WRow H a2 w2) (hb : w1.length < 9223372036854775807) (hR : ∀ H', Frm [] H H' → R (.bool (decide (w1 = w2))) H') :
    CA en F.crossbarkit_SameWords [.slice a1 w1.length 0, .slice a2 w2.length 0] H R := by
  apply vc_crossbarkit_SameWords
  refine cond_of (fun h => ?_) fun h => ?_
  · have hne : ¬ w1 = w2 := by rintro rfl; simp at h
    have := hR H (Frm.refl _ _)
    rw [decide_eq_false hne] at this; exact this
  have hlen : w1.length = w2.length := by
    by_cases e : w1.length = w2.length
    · exact e
    · exfalso; revert h; simp; omega
  refine use_crossbarkit_SameWords_0 (fun k _ t H' => ∃ j : Nat, j ≤ w1.length ∧ k = w1.length - j ∧ t = (j : Int) ∧ Frm [] H H' ∧ w1.take j = w2.take j) w1.length ⟨0, by omega, rfl, rfl, Frm.refl _ _, rfl⟩ ?_
  rintro k t4 t ys H' ⟨j, hj, rfl, rfl, f, he⟩
  refine cond_of (fun hc => ?_) fun hc => ?_
  · simp only [decide_eq_true_eq] at hc
    have hj1 : j < w1.length := by omega
    have hj2 : j < w2.length := by omega
    obtain ⟨b1, rfl, e1⟩ := (h1.frm f).at' hj1
    obtain ⟨b2, rfl, e2⟩ := (h2.frm f).at' hj2
    refine ⟨by unfold inB; omega, asRow_in ⟨_, e1, by unfold inB; omega, asRow_in ⟨_, e2, ?_, trivial⟩⟩⟩
    rw [bv_bne]
    have g1 : w1.getD j 0 = w1[j] := by rw [List.getD_eq_getElem?_getD, List.getElem?_eq_getElem hj1]; rfl
    have g2 : w2.getD j 0 = w2[j] := by rw [List.getD_eq_getElem?_getD, List.getElem?_eq_getElem hj2]; rfl
    refine cond_of (fun hn => ?_) fun hn => ⟨w1.length - (j + 1), by omega, j + 1, by omega, rfl, by rw [wrap_i64 (by omega)]; omega, f.bump _, ?_⟩
    · have hne : ¬ w1 = w2 := by
        rintro rfl
        simp at hn
      have := hR _ (f.bump 9)
      rw [decide_eq_false hne] at this
      exact asBool_in this
    · rw [List.take_succ_eq_append_getElem hj1, List.take_succ_eq_append_getElem hj2, he]
      have : w1.getD j 0 = w2.getD j 0 := by simpa using hn
      rw [g1, g2] at this
      rw [this]
  · simp only [decide_eq_false_iff_not] at hc
    obtain rfl : j = w1.length := by omega
    rw [List.take_length, hlen, List.take_length] at he
    have := hR _ f
    rw [decide_eq_true he] at this
    exact asBool_in this
end Go.Proofs.Ytlkmdcncpdadbaa
