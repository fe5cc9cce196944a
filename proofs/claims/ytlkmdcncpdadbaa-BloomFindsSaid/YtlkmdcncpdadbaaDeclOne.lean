/-
  What is wrong with a map: the document's answer (UNDER WAY).
-/
import Derived.Test.YtlkmdcncpdadbaaDeclChecks
namespace Go.Proofs.Ytlkmdcncpdadbaa
open Go Go.AS Go.RowKit
set_option linter.unusedVariables false
variable {H : Heap} {R : Value → Heap → Prop}

theorem some_eq (k : Int) : (kindOf k).isSome = decide (1 ≤ k ∧ k ≤ 10) := by
  by_cases h : 1 ≤ k ∧ k ≤ 10
  · have hx : k = 1 ∨ k = 2 ∨ k = 3 ∨ k = 4 ∨ k = 5 ∨ k = 6 ∨ k = 7 ∨ k = 8 ∨ k = 9 ∨ k = 10 := by omega
    rcases hx with rfl | rfl | rfl | rfl | rfl | rfl | rfl | rfl | rfl | rfl <;> rfl
  · have e : kindOf k = none := by
      unfold kindOf
      repeat rw [if_neg (by omega)]
    rw [e, decide_eq_false h]; rfl

theorem buckets_eq (k : Int) : (kindD k).buckets = decide (k = 4 ∨ k = 8 ∨ k = 10) := by
  by_cases h : 1 ≤ k ∧ k ≤ 10
  · have hx : k = 1 ∨ k = 2 ∨ k = 3 ∨ k = 4 ∨ k = 5 ∨ k = 6 ∨ k = 7 ∨ k = 8 ∨ k = 9 ∨ k = 10 := by omega
    rcases hx with rfl | rfl | rfl | rfl | rfl | rfl | rfl | rfl | rfl | rfl <;> rfl
  · have e : kindOf k = none := by
      unfold kindOf
      repeat rw [if_neg (by omega)]
    unfold kindD; rw [e, decide_eq_false (by omega)]; rfl

theorem nested_eq (k : Int) : (kindD k).nested = decide (k = 9 ∨ k = 10) := by
  by_cases h : 1 ≤ k ∧ k ≤ 10
  · have hx : k = 1 ∨ k = 2 ∨ k = 3 ∨ k = 4 ∨ k = 5 ∨ k = 6 ∨ k = 7 ∨ k = 8 ∨ k = 9 ∨ k = 10 := by omega
    rcases hx with rfl | rfl | rfl | rfl | rfl | rfl | rfl | rfl | rfl | rfl <;> rfl
  · have e : kindOf k = none := by
      unfold kindOf
      repeat rw [if_neg (by omega)]
    unfold kindD; rw [e, decide_eq_false (by omega)]; rfl

theorem words_eq (k : Int) : (kindD k).words = if k = 3 ∨ k = 6 ∨ k = 7 then 4 else if 1 ≤ k ∧ k ≤ 10 then 1 else 0 := by
  by_cases h : 1 ≤ k ∧ k ≤ 10
  · have hx : k = 1 ∨ k = 2 ∨ k = 3 ∨ k = 4 ∨ k = 5 ∨ k = 6 ∨ k = 7 ∨ k = 8 ∨ k = 9 ∨ k = 10 := by omega
    rcases hx with rfl | rfl | rfl | rfl | rfl | rfl | rfl | rfl | rfl | rfl <;> rfl
  · have e : kindOf k = none := by
      unfold kindOf
      repeat rw [if_neg (by omega)]
    unfold kindD; rw [e, if_neg (by omega), if_neg h]; rfl

theorem RBuck_ok {x : Int} (hR : R (.bool (kindD x).buckets) H) : CA en F.crossbarref07_bucketed [I x] H R := by
  apply vc_crossbarref07_bucketed
  rw [buckets_eq] at hR
  have e : decide (x = 4 ∨ x = 8 ∨ x = 10) = (x == 4 || (x == 8 || x == 10)) := by rw [Bool.eq_iff_iff]; simp
  rw [e] at hR
  exact cond_of (fun h => by rw [h] at hR; exact hR) fun h => cond_of (fun h' => by rw [h, h'] at hR; exact hR) fun h' => by rw [h, h'] at hR; exact hR

theorem RNest_ok {x : Int} (hR : R (.bool (kindD x).nested) H) : CA en F.crossbarref07_Nested [I x] H R := by
  apply Nested_ok
  rw [nested_eq] at hR
  have e : decide (x = 9 ∨ x = 10) = (x == 9 || x == 10) := by rw [Bool.eq_iff_iff]; simp
  rw [e] at hR; exact hR

theorem RPow_ok {x : Int} (hR : R (.bool (decide (x = 1 ∨ x = 2 ∨ x = 4 ∨ x = 8 ∨ x = 16 ∨ x = 32))) H) : CA en F.crossbarref07_power [I x] H R := by
  apply vc_crossbarref07_power
  have e : decide (x = 1 ∨ x = 2 ∨ x = 4 ∨ x = 8 ∨ x = 16 ∨ x = 32) = (x == 1 || (x == 2 || (x == 4 || (x == 8 || (x == 16 || x == 32))))) := by rw [Bool.eq_iff_iff, decide_eq_true_iff]; simp
  rw [e] at hR
  repeat' (refine cond_of (fun h => ?_) fun h => ?_)
  all_goals simp_all

set_option maxHeartbeats 4000000 in
theorem one_ok {a : Option Addr} {n : Nat} {l : List Dc} {d : Dc} (hr : Rows H a n l) (hl : l.length < 9223372036854775808) (hR : ∀ H', Frm [] H H' → R (I (chk l d)) H') : CA en F.crossbarref07_one [.slice a n 0, d.val] H R := by
  obtain ⟨rfl, hr⟩ := hr
  apply vc_crossbarref07_one
  refine nwH_in fun i1 H2 e1 h2 => ?_
  have g1 : H2.get i1 = some (.cells true 0 d.cells) := by subst e1 h2; exact get_new_self _ _
  have f2 : Frm [] H H2 := by subst h2; exact (Frm.refl _ _).new _
  clear e1 h2
  have g1' : (H2.bump 18).get i1 = some (.cells true 0 d.cells) := g1
  have f3 : Frm [] H (H2.bump 18) := f2.bump _
  have hr15 : l = [] ∨ ∃ (i : Nat) (w : Bool) (z : Nat), a = some ⟨i, 0, none⟩ ∧ i < H.next ∧ (H2.bump 18).get i = some (AS.Obj.cells w z (flat l)) :=
    hr.imp_right fun ⟨i, w, z, h1, h2, h3⟩ => ⟨i, w, z, h1, h2, by rw [f3.2 i h2 (by simp)]; exact h3⟩
  have nested : (1 ≤ d.inner ∧ d.inner ≤ (l.length : Int)) → chk l d = (if (kindD (l.getD (d.inner - 1).toNat dc0).kind).nested = true then 14 else 0) →
      ∃ n44, (H2.bump 18).cell i1 4 = some (I n44) ∧ inB (IntKind.i64.wrap (n44 - 1)) l.length ∧ asRow a fun i45 i46 =>
        ∃ n47, (H2.bump 18).cell i45 (i46 + (IntKind.i64.wrap (n44 - 1)).toNat * 5) = some (I n47) ∧ CA en F.crossbarref07_Nested [I n47] (H2.bump 18) fun v48 H49 =>
          ∃ b50, v48 = .bool b50 ∧ cond b50 (R (I 14) H49) (R (I 0) H49) := by
    intro hin hc
    have := hR _ f3
    refine ⟨d.inner, by rw [cell_of g1']; rfl, ?_⟩
    rw [wrap_i64 (by omega)]
    refine ⟨by unfold inB; omega, ?_⟩
    rcases hr15 with rfl | ⟨i, w, z, rfl, hb, hg⟩
    · simp only [List.length_nil] at hin; omega
    · rw [asRow_some]
      refine ⟨(l.getD (d.inner - 1).toNat dc0).kind, by rw [cell_of hg, Nat.zero_add]; exact flat_kind l _ (by omega), ?_⟩
      refine RNest_ok ⟨_, rfl, ?_⟩
      rw [hc] at this
      refine cond_of (fun h => ?_) fun h => ?_
      · rw [if_pos h] at this; exact this
      · rw [if_neg (by rw [h]; decide)] at this; exact this
  have leaf2 : ∀ c, chk l d = c → R (I c) H2 := fun c e => by have := hR _ f2; rw [e] at this; exact this
  have leaf3 : ∀ c, chk l d = c → R (I c) (H2.bump 18) := fun c e => by have := hR _ f3; rw [e] at this; exact this
  clear hR hr15 hr f2 f3
  have hb := (buckets_eq d.kind).symm
  have hn := (nested_eq d.kind).symm
  cases hkb : (kindD d.kind).buckets <;> cases hkn : (kindD d.kind).nested <;> rw [hkb] at hb <;> rw [hkn] at hn
  all_goals
    repeat' first
      | refine leaf2 _ ?_
      | refine leaf3 _ ?_
      | refine RBuck_ok ⟨_, rfl, ?_⟩
      | refine RNest_ok ⟨_, rfl, ?_⟩
      | refine RPow_ok ⟨_, rfl, ?_⟩
      | refine nested ?_ ?_
      | refine ⟨_, by rw [cell_of g1]; rfl, ?_⟩
      | refine ⟨_, by rw [cell_of g1']; rfl, ?_⟩
      | refine cond_of (fun h => ?_) fun h => ?_
      | refine ⟨?_, ⟨rfl, rfl, trivial⟩, ⟨⟨_, by rw [cell_of g1']; rfl, rfl⟩, ⟨_, by rw [cell_of g1']; rfl, rfl⟩, trivial⟩, trivial⟩
      | fail
  all_goals
    clear leaf2 leaf3 nested g1 g1'
    try unfold chk
    try rw [some_eq, words_eq]
    try unfold pow at *
    simp only [hkb, hkn, beq_iff_eq, beq_eq_false_iff_ne, Bool.true_beq, Bool.false_beq, Bool.not_eq_true', Bool.not_eq_false', Bool.not_eq_true, Bool.not_eq_false, decide_eq_true_eq, decide_eq_false_iff_not, bne_iff_ne, bne_eq_false_iff_eq, Bool.not_true, Bool.not_false, Bool.true_eq_false, Bool.false_eq_true, if_true, if_false, true_and, false_and, or_false, false_or, ne_eq, reduceCtorEq] at *
    try ((repeat' split) <;> omega)
end Go.Proofs.Ytlkmdcncpdadbaa
