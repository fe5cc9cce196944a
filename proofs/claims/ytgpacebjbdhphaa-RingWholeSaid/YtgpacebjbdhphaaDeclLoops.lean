/-
  What is wrong with maps: the loops; the statement.
-/
import Derived.Test.YtgpacebjbdhphaaDeclOne
import Derived.Test.YtgpacebjbdhphaaAs40
import Derived.Test.YtgpacebjbdhphaaVc3
import Derived.Test.YtgpacebjbdhphaaArgs
namespace Go.Proofs.Ytgpacebjbdhphaa
open Go Go.AS Go.RowKit
set_option linter.unusedVariables false
variable {H : Heap} {R : Value → Heap → Prop}

def firstBad (l : List Dc) : List Dc → Int
  | [] => 0
  | d :: r => if chk l d ≠ 0 then chk l d else firstBad l r

def chks (l : List Dc) : Int := if (l.length : Int) > 10 then 19 else firstBad l l

theorem drop_getD (l : List Dc) (j : Nat) (h : j < l.length) : l.drop j = l.getD j dc0 :: l.drop (j + 1) := by
  rw [List.getD_eq_getElem?_getD, List.getElem?_eq_getElem h, Option.getD_some]
  exact List.drop_eq_getElem_cons h

theorem rows_row {a n l} (hr : Rows H a n l) {j : Nat} (hj : j < l.length) : ∃ i, a = some ⟨i, 0, none⟩ ∧ i < H.next ∧ H.cellsAt i (0 + j * 5) 5 = some (l.getD j dc0).cells := by
  rcases hr.2 with rfl | ⟨i, w, z, rfl, h1, h2⟩
  · simp at hj
  · exact ⟨i, rfl, h1, by rw [cellsAt_of h2, Nat.zero_add]; exact flat_take l j hj⟩

theorem Check_ok {a : Option Addr} {n : Nat} {l : List Dc} (hr : Rows H a n l) (hR : ∀ H', Frm [] H H' → R (I (chks l)) H') : CA en F.decl_Check [.slice a n 0] H R := by
  obtain rfl := hr.1
  apply vc_decl_Check
  refine cond_of (fun h => ?_) fun h => ?_
  · have := hR H (Frm.refl _ _)
    unfold chks at this
    rw [if_pos (by simpa using h)] at this
    exact this
  simp only [decide_eq_false_iff_not] at h
  refine use_decl_Check_0 (fun m _ i H' => ∃ j : Nat, j ≤ l.length ∧ m = l.length - j ∧ i = (j : Int) ∧ Frm [] H H' ∧ chks l = firstBad l (l.drop j)) l.length ⟨0, by omega, rfl, rfl, Frm.refl _ _, by unfold chks; rw [if_neg h]; rfl⟩ ?_
  rintro m t2 i ys H' ⟨j, hj, rfl, rfl, fr, hc⟩
  refine cond_of (fun h => ?_) fun h => ?_
  · simp only [decide_eq_true_eq] at h
    have hj' : j < l.length := by omega
    refine ⟨by unfold inB; omega, ?_⟩
    have hr' := hr.frm fr
    obtain ⟨b, rfl, hb, hg⟩ := rows_row hr' hj'
    rw [asRow_some]
    refine ⟨_, _, _, _, _, by rw [Int.toNat_natCast]; exact hg, ?_⟩
    have h0 : Sep H' [] := Sep.nil
    refine nwH_in fun i8 H9 e8 e9 => ?_
    have g9 : H9.get i8 = some (.cells true 0 [I 0, I 0, I 0, I 0, I 0]) := by subst e8 e9; exact get_new_self _ _
    refine stc_of' g9 (Nat.le_refl _) fun H10 e10 => ?_
    have fr10 : Frm [] H H10 := by subst e8 e9 e10; exact (fr.new _).set _ (by right; exact fr.1)
    refine ⟨_, _, _, _, _, by rw [e10, cellsAt_of (get_set_self _ _ _)]; rfl, ?_⟩
    refine check_ok (d := l.getD j dc0) (hr.frm fr10) (by omega) fun H17 fr17 => ⟨_, rfl, ?_⟩
    have fr' := fr10.trans fr17 (by simp)
    rw [drop_getD l j hj'] at hc
    refine cond_of (fun h1 => ?_) fun h1 => ⟨l.length - (j + 1), by omega, j + 1, by omega, rfl, ?_, fr', ?_⟩
    · simp only [List.getD_cons_succ, List.getD_cons_zero, asInt_int]
      have := hR _ fr'
      rw [hc] at this
      unfold firstBad at this
      rw [if_pos (by simpa using h1)] at this
      exact this
    · rw [wrap_i64 (by omega)]; omega
    · rw [hc]
      show (if chk l (l.getD j dc0) ≠ 0 then chk l (l.getD j dc0) else firstBad l (l.drop (j + 1))) = _
      rw [if_neg (by simpa using h1)]
  · simp only [decide_eq_false_iff_not] at h
    obtain rfl : j = l.length := by omega
    rw [List.drop_length] at hc
    simp only [List.getD_cons_succ, List.getD_cons_zero, asInt_int]
    have := hR _ fr
    rw [hc] at this
    exact this

theorem flat_length : ∀ l : List Dc, (flat l).length = l.length * 5
  | [] => rfl
  | d :: l => by
    have e : flat (d :: l) = d.cells ++ flat l := rfl
    rw [e, List.length_append, flat_length l]; simp only [List.length_cons, List.length_nil]; omega

theorem takeAt_all (c : List Value) : takeAt c 0 c.length = some c := by
  simp [takeAt]

theorem flat_snoc (l : List Dc) (j : Nat) (h : j < l.length) : flat (l.take (j + 1)) = flat (l.take j) ++ (l.getD j dc0).cells := by
  rw [List.take_succ_eq_append_getElem h]
  unfold flat
  rw [List.map_append, List.flatten_append]
  simp only [List.map_cons, List.map_nil, List.flatten_cons, List.flatten_nil, List.append_nil]
  rw [List.getD_eq_getElem?_getD, List.getElem?_eq_getElem h, Option.getD_some]

theorem rows_of : ∀ (cs : List (List Value)), (∀ c ∈ cs, ∃ d : Dc, c = d.cells) → ∃ l : List Dc, cs.flatten = flat l ∧ cs.length = l.length
  | [], _ => ⟨[], rfl, rfl⟩
  | c :: cs, h => by
    obtain ⟨d, rfl⟩ := h c (by simp)
    obtain ⟨l, e1, e2⟩ := rows_of cs fun c hc => h c (List.mem_cons_of_mem _ hc)
    refine ⟨d :: l, ?_, by simp [e2]⟩
    rw [List.flatten_cons, e1]; rfl

end Go.Proofs.Ytgpacebjbdhphaa
