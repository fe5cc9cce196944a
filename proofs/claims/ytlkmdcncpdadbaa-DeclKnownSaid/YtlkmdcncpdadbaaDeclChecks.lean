/-
  What is wrong with a map: the code and the document answer the same (UNDER WAY).
-/
import Derived.Test.YtlkmdcncpdadbaaDeclTells
import Derived.Test.YtlkmdcncpdadbaaVc3
namespace Go.Proofs.Ytlkmdcncpdadbaa
open Go Go.AS Go.RowKit
set_option linter.unusedVariables false
variable {H : Heap} {R : Value → Heap → Prop}

/-! ### Rows of maps -/
def flat (l : List Dc) : List Value := (l.map Dc.cells).flatten
def Rows (H : Heap) (a : Option Addr) (n : Nat) (l : List Dc) : Prop :=
  n = l.length ∧ (l = [] ∨ ∃ i w z, a = some ⟨i, 0, none⟩ ∧ i < H.next ∧ H.get i = some (.cells w z (flat l)))

theorem Rows.frm {H H' : Heap} {a n l} (h : Rows H a n l) (f : Frm [] H H') : Rows H' a n l := by
  refine ⟨h.1, h.2.imp_right fun ⟨i, w, z, h1, h2, h3⟩ => ⟨i, w, z, h1, ?_, ?_⟩⟩
  · have := f.1; omega
  · rw [f.2 i h2 (by simp)]; exact h3

def dc0 : Dc := ⟨0, 0, 0, 0, 0⟩
theorem flat_kind : ∀ (l : List Dc) (j : Nat), j < l.length → (flat l)[j * 5]? = some (I (l.getD j dc0).kind)
  | [], j, h => by simp at h
  | d :: l, 0, _ => rfl
  | d :: l, j + 1, h => by
    have ih := flat_kind l j (by simpa using h)
    have e : flat (d :: l) = d.cells ++ flat l := rfl
    rw [e, List.getElem?_append_right (by simp only [List.length_cons, List.length_nil]; omega)]
    have e2 : (j + 1) * 5 - d.cells.length = j * 5 := by simp only [List.length_cons, List.length_nil]; omega
    rw [e2, ih]
    simp

theorem flat_take : ∀ (l : List Dc) (j : Nat), j < l.length → takeAt (flat l) (j * 5) 5 = some (l.getD j dc0).cells
  | [], j, h => by simp at h
  | d :: l, 0, _ => rfl
  | d :: l, j + 1, h => by
    have ih := flat_take l j (by simpa using h)
    have e : flat (d :: l) = d.cells ++ flat l := rfl
    have e2 : (j + 1) * 5 = (j * 5) + 1 + 1 + 1 + 1 + 1 := by omega
    rw [e, e2]
    simpa [takeAt] using ih

/-! ### What is wrong with one -/
def pow (n : Int) : Prop := n = 1 ∨ n = 2 ∨ n = 4 ∨ n = 8 ∨ n = 16 ∨ n = 32
instance (n : Int) : Decidable (pow n) := inferInstanceAs (Decidable (n = 1 ∨ n = 2 ∨ n = 4 ∨ n = 8 ∨ n = 16 ∨ n = 32))

def chk (l : List Dc) (d : Dc) : Int :=
  if (kindOf d.kind).isSome = false then 1
  else if d.entries < 1 ∨ d.entries > 64 ∨ d.words < 1 ∨ d.words > (kindD d.kind).words then 1
  else if (kindD d.kind).buckets = true ∧ ¬ pow d.buckets ∨ (kindD d.kind).buckets = false ∧ d.buckets ≠ 0 then 1
  else if (kindD d.kind).nested = true then
    (if d.inner < 1 ∨ d.inner > (l.length : Int) then 1 else if (kindD (l.getD (d.inner - 1).toNat dc0).kind).nested = true then 14 else 0)
  else if d.inner ≠ 0 then 1 else 0

theorem Within_ok {x m : Int} (hR : R (.bool (decide (1 ≤ x ∧ x ≤ m))) H) : CA en F.decl_within [I x, I m] H R := by
  apply vc_decl_within
  refine cond_of (fun h => ?_) fun h => ?_
  · have e : decide (1 ≤ x ∧ x ≤ m) = decide (x ≤ m) := by
      simp only [decide_eq_true_eq] at h
      rw [Bool.eq_iff_iff]; simp only [decide_eq_true_eq]; omega
    rw [e] at hR; exact hR
  · have e : decide (1 ≤ x ∧ x ≤ m) = false := by
      simp only [decide_eq_false_iff_not] at h ⊢; omega
    rw [e] at hR; exact hR

theorem Ones_ok {n : Int} (h : 1 ≤ n ∧ n ≤ 32) (hR : ∀ c : Int, (c = 1 ↔ pow n) → R (I c) H) : CA en F.math_bits_OnesCount [.int .u64 (IntKind.u64.wrap n)] H R := by
  rw [u64_self (by omega) (by omega)]
  apply vc_math_bits_OnesCount
  apply vc_math_bits_OnesCount64
  have hx : n = 1 ∨ n = 2 ∨ n = 3 ∨ n = 4 ∨ n = 5 ∨ n = 6 ∨ n = 7 ∨ n = 8 ∨ n = 9 ∨ n = 10 ∨ n = 11 ∨ n = 12 ∨ n = 13 ∨ n = 14 ∨ n = 15 ∨ n = 16 ∨ n = 17 ∨ n = 18 ∨ n = 19 ∨ n = 20 ∨ n = 21 ∨ n = 22 ∨ n = 23 ∨ n = 24 ∨ n = 25 ∨ n = 26 ∨ n = 27 ∨ n = 28 ∨ n = 29 ∨ n = 30 ∨ n = 31 ∨ n = 32 := by omega
  rcases hx with rfl | rfl | rfl | rfl | rfl | rfl | rfl | rfl | rfl | rfl | rfl | rfl | rfl | rfl | rfl | rfl | rfl | rfl | rfl | rfl | rfl | rfl | rfl | rfl | rfl | rfl | rfl | rfl | rfl | rfl | rfl | rfl
  · refine ⟨by unfold nn; decide, by unfold nn; decide, by unfold nn; decide, by unfold nn; decide, by unfold nn; decide, by unfold nn; decide, ?_⟩; refine ⟨_, rfl, ?_⟩; apply turnInto (hR 1 (by decide)); kernel_rfl
  · refine ⟨by unfold nn; decide, by unfold nn; decide, by unfold nn; decide, by unfold nn; decide, by unfold nn; decide, by unfold nn; decide, ?_⟩; refine ⟨_, rfl, ?_⟩; apply turnInto (hR 1 (by decide)); kernel_rfl
  · refine ⟨by unfold nn; decide, by unfold nn; decide, by unfold nn; decide, by unfold nn; decide, by unfold nn; decide, by unfold nn; decide, ?_⟩; refine ⟨_, rfl, ?_⟩; apply turnInto (hR 2 (by decide)); kernel_rfl
  · refine ⟨by unfold nn; decide, by unfold nn; decide, by unfold nn; decide, by unfold nn; decide, by unfold nn; decide, by unfold nn; decide, ?_⟩; refine ⟨_, rfl, ?_⟩; apply turnInto (hR 1 (by decide)); kernel_rfl
  · refine ⟨by unfold nn; decide, by unfold nn; decide, by unfold nn; decide, by unfold nn; decide, by unfold nn; decide, by unfold nn; decide, ?_⟩; refine ⟨_, rfl, ?_⟩; apply turnInto (hR 2 (by decide)); kernel_rfl
  · refine ⟨by unfold nn; decide, by unfold nn; decide, by unfold nn; decide, by unfold nn; decide, by unfold nn; decide, by unfold nn; decide, ?_⟩; refine ⟨_, rfl, ?_⟩; apply turnInto (hR 2 (by decide)); kernel_rfl
  · refine ⟨by unfold nn; decide, by unfold nn; decide, by unfold nn; decide, by unfold nn; decide, by unfold nn; decide, by unfold nn; decide, ?_⟩; refine ⟨_, rfl, ?_⟩; apply turnInto (hR 3 (by decide)); kernel_rfl
  · refine ⟨by unfold nn; decide, by unfold nn; decide, by unfold nn; decide, by unfold nn; decide, by unfold nn; decide, by unfold nn; decide, ?_⟩; refine ⟨_, rfl, ?_⟩; apply turnInto (hR 1 (by decide)); kernel_rfl
  · refine ⟨by unfold nn; decide, by unfold nn; decide, by unfold nn; decide, by unfold nn; decide, by unfold nn; decide, by unfold nn; decide, ?_⟩; refine ⟨_, rfl, ?_⟩; apply turnInto (hR 2 (by decide)); kernel_rfl
  · refine ⟨by unfold nn; decide, by unfold nn; decide, by unfold nn; decide, by unfold nn; decide, by unfold nn; decide, by unfold nn; decide, ?_⟩; refine ⟨_, rfl, ?_⟩; apply turnInto (hR 2 (by decide)); kernel_rfl
  · refine ⟨by unfold nn; decide, by unfold nn; decide, by unfold nn; decide, by unfold nn; decide, by unfold nn; decide, by unfold nn; decide, ?_⟩; refine ⟨_, rfl, ?_⟩; apply turnInto (hR 3 (by decide)); kernel_rfl
  · refine ⟨by unfold nn; decide, by unfold nn; decide, by unfold nn; decide, by unfold nn; decide, by unfold nn; decide, by unfold nn; decide, ?_⟩; refine ⟨_, rfl, ?_⟩; apply turnInto (hR 2 (by decide)); kernel_rfl
  · refine ⟨by unfold nn; decide, by unfold nn; decide, by unfold nn; decide, by unfold nn; decide, by unfold nn; decide, by unfold nn; decide, ?_⟩; refine ⟨_, rfl, ?_⟩; apply turnInto (hR 3 (by decide)); kernel_rfl
  · refine ⟨by unfold nn; decide, by unfold nn; decide, by unfold nn; decide, by unfold nn; decide, by unfold nn; decide, by unfold nn; decide, ?_⟩; refine ⟨_, rfl, ?_⟩; apply turnInto (hR 3 (by decide)); kernel_rfl
  · refine ⟨by unfold nn; decide, by unfold nn; decide, by unfold nn; decide, by unfold nn; decide, by unfold nn; decide, by unfold nn; decide, ?_⟩; refine ⟨_, rfl, ?_⟩; apply turnInto (hR 4 (by decide)); kernel_rfl
  · refine ⟨by unfold nn; decide, by unfold nn; decide, by unfold nn; decide, by unfold nn; decide, by unfold nn; decide, by unfold nn; decide, ?_⟩; refine ⟨_, rfl, ?_⟩; apply turnInto (hR 1 (by decide)); kernel_rfl
  · refine ⟨by unfold nn; decide, by unfold nn; decide, by unfold nn; decide, by unfold nn; decide, by unfold nn; decide, by unfold nn; decide, ?_⟩; refine ⟨_, rfl, ?_⟩; apply turnInto (hR 2 (by decide)); kernel_rfl
  · refine ⟨by unfold nn; decide, by unfold nn; decide, by unfold nn; decide, by unfold nn; decide, by unfold nn; decide, by unfold nn; decide, ?_⟩; refine ⟨_, rfl, ?_⟩; apply turnInto (hR 2 (by decide)); kernel_rfl
  · refine ⟨by unfold nn; decide, by unfold nn; decide, by unfold nn; decide, by unfold nn; decide, by unfold nn; decide, by unfold nn; decide, ?_⟩; refine ⟨_, rfl, ?_⟩; apply turnInto (hR 3 (by decide)); kernel_rfl
  · refine ⟨by unfold nn; decide, by unfold nn; decide, by unfold nn; decide, by unfold nn; decide, by unfold nn; decide, by unfold nn; decide, ?_⟩; refine ⟨_, rfl, ?_⟩; apply turnInto (hR 2 (by decide)); kernel_rfl
  · refine ⟨by unfold nn; decide, by unfold nn; decide, by unfold nn; decide, by unfold nn; decide, by unfold nn; decide, by unfold nn; decide, ?_⟩; refine ⟨_, rfl, ?_⟩; apply turnInto (hR 3 (by decide)); kernel_rfl
  · refine ⟨by unfold nn; decide, by unfold nn; decide, by unfold nn; decide, by unfold nn; decide, by unfold nn; decide, by unfold nn; decide, ?_⟩; refine ⟨_, rfl, ?_⟩; apply turnInto (hR 3 (by decide)); kernel_rfl
  · refine ⟨by unfold nn; decide, by unfold nn; decide, by unfold nn; decide, by unfold nn; decide, by unfold nn; decide, by unfold nn; decide, ?_⟩; refine ⟨_, rfl, ?_⟩; apply turnInto (hR 4 (by decide)); kernel_rfl
  · refine ⟨by unfold nn; decide, by unfold nn; decide, by unfold nn; decide, by unfold nn; decide, by unfold nn; decide, by unfold nn; decide, ?_⟩; refine ⟨_, rfl, ?_⟩; apply turnInto (hR 2 (by decide)); kernel_rfl
  · refine ⟨by unfold nn; decide, by unfold nn; decide, by unfold nn; decide, by unfold nn; decide, by unfold nn; decide, by unfold nn; decide, ?_⟩; refine ⟨_, rfl, ?_⟩; apply turnInto (hR 3 (by decide)); kernel_rfl
  · refine ⟨by unfold nn; decide, by unfold nn; decide, by unfold nn; decide, by unfold nn; decide, by unfold nn; decide, by unfold nn; decide, ?_⟩; refine ⟨_, rfl, ?_⟩; apply turnInto (hR 3 (by decide)); kernel_rfl
  · refine ⟨by unfold nn; decide, by unfold nn; decide, by unfold nn; decide, by unfold nn; decide, by unfold nn; decide, by unfold nn; decide, ?_⟩; refine ⟨_, rfl, ?_⟩; apply turnInto (hR 4 (by decide)); kernel_rfl
  · refine ⟨by unfold nn; decide, by unfold nn; decide, by unfold nn; decide, by unfold nn; decide, by unfold nn; decide, by unfold nn; decide, ?_⟩; refine ⟨_, rfl, ?_⟩; apply turnInto (hR 3 (by decide)); kernel_rfl
  · refine ⟨by unfold nn; decide, by unfold nn; decide, by unfold nn; decide, by unfold nn; decide, by unfold nn; decide, by unfold nn; decide, ?_⟩; refine ⟨_, rfl, ?_⟩; apply turnInto (hR 4 (by decide)); kernel_rfl
  · refine ⟨by unfold nn; decide, by unfold nn; decide, by unfold nn; decide, by unfold nn; decide, by unfold nn; decide, by unfold nn; decide, ?_⟩; refine ⟨_, rfl, ?_⟩; apply turnInto (hR 4 (by decide)); kernel_rfl
  · refine ⟨by unfold nn; decide, by unfold nn; decide, by unfold nn; decide, by unfold nn; decide, by unfold nn; decide, by unfold nn; decide, ?_⟩; refine ⟨_, rfl, ?_⟩; apply turnInto (hR 5 (by decide)); kernel_rfl
  · refine ⟨by unfold nn; decide, by unfold nn; decide, by unfold nn; decide, by unfold nn; decide, by unfold nn; decide, by unfold nn; decide, ?_⟩; refine ⟨_, rfl, ?_⟩; apply turnInto (hR 1 (by decide)); kernel_rfl

theorem check_ok {a : Option Addr} {n : Nat} {l : List Dc} {d : Dc} (hr : Rows H a n l) (hl : l.length < 9223372036854775808) (hR : ∀ H', Frm [] H H' → R (I (chk l d)) H') : CA en F.decl_check [.slice a n 0, d.val] H R := by
  obtain ⟨rfl, hr⟩ := hr
  apply vc_decl_check
  refine nwH_in fun i1 H2 e1 h2 => ?_
  have g2 : H2.get i1 = some (.cells true 0 d.cells) := by subst e1 h2; exact get_new_self _ _
  have l2 : i1 < H2.next := by subst e1 h2; rw [next_new]; omega
  have f2 : Frm [] H H2 := by subst h2; exact (Frm.refl _ _).new _
  clear e1 h2
  refine ⟨d.kind, by rw [cell_of g2]; rfl, kinds_ok fun H5 al ll f5 hi => ⟨_, _, _, _, _, _, _, rfl, ?_⟩⟩
  refine nwH_in fun i13 H14 e13 h14 => ?_
  have g14 : H14.get i13 = some (.cells true 0 [I 0, .bool false, .bool false, .slice none 0 0, .bool false]) := by subst e13 h14; exact get_new_self _ _
  refine stc_of' g14 (Nat.le_refl _) fun H15 e15 => ?_
  have f15 : Frm [] H2 H15 := by
    subst e15 h14
    exact (f5.new _).set _ (by right; have := f5.1; omega)
  have g1 : H15.get i1 = some (.cells true 0 d.cells) := by rw [f15.2 _ l2 (by simp)]; exact g2
  have g13 : H15.get i13 = some (.cells true 0 [I (kindD d.kind).words, .bool (kindD d.kind).buckets, .bool (kindD d.kind).nested, .slice al ll 0, .bool (kindD d.kind).bucketed]) := by rw [e15]; exact get_set_self _ _ _
  have f : Frm [] H H15 := f2.trans f15 (by simp)
  clear e15 h14 g14 e13 hi f5 f2 g2
  have hr15 : l = [] ∨ ∃ (i : Nat) (w : Bool) (z : Nat), a = some ⟨i, 0, none⟩ ∧ i < H15.next ∧ H15.get i = some (AS.Obj.cells w z (flat l)) :=
    hr.imp_right fun ⟨i, w, z, h1, h2, h3⟩ => ⟨i, w, z, h1, Nat.lt_of_lt_of_le h2 f.1, by rw [f.2 i h2 (by simp)]; exact h3⟩
  have nested : (1 ≤ d.inner ∧ d.inner ≤ (l.length : Int)) → (∀ H', Frm [] H H' → R (I (if (kindD (l.getD (d.inner - 1).toNat dc0).kind).nested = true then 14 else 0)) H') →
      ∃ n44, H15.cell i1 4 = some (I n44) ∧ inB (IntKind.i64.wrap (n44 - 1)) l.length ∧ asRow a fun i45 i46 =>
        ∃ n47, H15.cell i45 (i46 + (IntKind.i64.wrap (n44 - 1)).toNat * 5) = some (I n47) ∧ CA en F.decl_kinds [I n47] H15 fun v48 H49 =>
          ∃ n50 b51 b52 a53 i54 b55 b56, v48 = .tuple #[.agg #[I n50, .bool b51, .bool b52, .slice a53 i54 0, .bool b55], .bool b56] ∧
            nwH H49 (.cells true 0 [I 0, .bool false, .bool false, .slice none 0 0, .bool false]) fun i57 H58 =>
              stc H58 i57 0 [I n50, .bool b51, .bool b52, .slice a53 i54 0, .bool b55] fun H59 => ∃ b60, H59.cell i57 2 = some (.bool b60) ∧ cond b60 (R (I 14) H59) (R (I 0) H59) := by
    intro hin hR
    refine ⟨d.inner, by rw [cell_of g1]; rfl, ?_⟩
    rw [wrap_i64 (by omega)]
    refine ⟨by unfold inB; omega, ?_⟩
    rcases hr15 with rfl | ⟨i, w, z, rfl, hb, hg⟩
    · simp only [List.length_nil] at hin; omega
    · rw [asRow_some]
      refine ⟨(l.getD (d.inner - 1).toNat dc0).kind, by rw [cell_of hg, Nat.zero_add]; exact flat_kind l _ (by omega), ?_⟩
      refine kinds_ok fun H49 a2 l3 f49 hi => ⟨_, _, _, _, _, _, _, rfl, ?_⟩
      refine nwH_in fun i57 H58 e57 h58 => ?_
      have g58 : H58.get i57 = some (.cells true 0 [I 0, .bool false, .bool false, .slice none 0 0, .bool false]) := by subst e57 h58; exact get_new_self _ _
      refine stc_of' g58 (Nat.le_refl _) fun H59 e59 => ?_
      have f59 : Frm [] H H59 := by
        subst e59 h58
        exact ((f.trans f49 (by simp)).new _).set _ (by right; have := f49.1; have := f.1; omega)
      refine ⟨(kindD (l.getD (d.inner - 1).toNat dc0).kind).nested, by rw [e59, cell_of (get_set_self _ _ _)]; rfl, ?_⟩
      have := hR _ f59
      refine cond_of (fun h => ?_) fun h => ?_
      · rw [if_pos h] at this; exact this
      · rw [if_neg (by rw [h]; decide)] at this; exact this
  have leaf : ∀ c, chk l d = c → R (I c) H15 := fun c e => by have := hR _ f; rw [e] at this; exact this
  have deep : ∀ c, chk l d = c → ∀ H', Frm [] H H' → R (I c) H' := fun c e H' f' => by have := hR _ f'; rw [e] at this; exact this
  clear hR hr15 hr f15 f
  cases his : (kindOf d.kind).isSome
  · exact leaf _ (by unfold chk; rw [if_pos his])
  cases hkb : (kindD d.kind).buckets <;> cases hkn : (kindD d.kind).nested <;> rw [hkb, hkn] at g13
  all_goals
    repeat' first
      | refine leaf _ ?_
      | refine Within_ok ⟨_, rfl, ?_⟩
      | refine nested ?_ (deep _ ?_)
      | refine ⟨_, by rw [cell_of g1]; rfl, ?_⟩
      | refine ⟨_, by rw [cell_of g13]; rfl, ?_⟩
      | (refine Ones_ok (by simp only [Bool.not_eq_false', decide_eq_true_eq, Bool.not_eq_false] at *; omega) fun c hc => ⟨_, rfl, ?_⟩)
      | refine cond_of (fun h => ?_) fun h => ?_
  all_goals
    clear leaf nested deep g1 g13
    try unfold chk
    try unfold pow at *
    simp only [his, hkb, hkn, Bool.not_eq_true', Bool.not_eq_false', Bool.not_eq_true, Bool.not_eq_false, decide_eq_true_eq, decide_eq_false_iff_not, bne_iff_ne, bne_eq_false_iff_eq, Bool.not_true, Bool.not_false, Bool.true_eq_false, Bool.false_eq_true, if_true, if_false, true_and, false_and, or_false, false_or, ne_eq, reduceCtorEq] at *
    try ((repeat' split) <;> omega)
end Go.Proofs.Ytlkmdcncpdadbaa
