/-
  What is wrong with maps: the loops; the statement.
-/
import Derived.Test.YtlkmdcncpdadbaaDeclOne
import Derived.Test.YtlkmdcncpdadbaaAs40
import Derived.Test.YtlkmdcncpdadbaaVc3
import Derived.Test.YtlkmdcncpdadbaaArgs
namespace Go.Proofs.Ytlkmdcncpdadbaa
open Go Go.AS Go.RowKit
set_option linter.unusedVariables false
variable {H : Heap} {R : Value → Heap → Prop}

def firstBad (l : List Dc) : List Dc → Int
  | [] => 0
  | d :: r => if chk l d ≠ 0 then chk l d else firstBad l r

def chks (l : List Dc) : Int := if (l.length : Int) > 10 then 19 else firstBad l l

theorem drop_getD (l : List Dc) (j : Nat) (h : j < l.length) : l.drop j = l.getD j dc0 :: l.drop (j + 1) := by
  rw [List.getD_eq_getElem?_getD, List.getElem?_eq_getElem h, Option.getD_some]
  exact List.drop_eq_getElem_cons h

theorem rows_row {a n l} (hr : Rows H a n l) {j : Nat} (hj : j < l.length) : ∃ i, a = some ⟨i, 0, none⟩ ∧ i < H.next ∧ H.cellsAt i (0 + j * 5) 5 = some (l.getD j dc0).cells := by
  rcases hr.2 with rfl | ⟨i, w, z, rfl, h1, h2⟩
  · simp at hj
  · exact ⟨i, rfl, h1, by rw [cellsAt_of h2, Nat.zero_add]; exact flat_take l j hj⟩

theorem Check_ok {a : Option Addr} {n : Nat} {l : List Dc} (hr : Rows H a n l) (hR : ∀ H', Frm [] H H' → R (I (chks l)) H') : CA en F.decl_Check [.slice a n 0] H R := by
  obtain rfl := hr.1
  apply vc_decl_Check
  refine cond_of (fun h => ?_) fun h => ?_
  · have := hR H (Frm.refl _ _)
    unfold chks at this
    rw [if_pos (by simpa using h)] at this
    exact this
  simp only [decide_eq_false_iff_not] at h
  refine use_decl_Check_0 (fun m _ i H' => ∃ j : Nat, j ≤ l.length ∧ m = l.length - j ∧ i = (j : Int) ∧ Frm [] H H' ∧ chks l = firstBad l (l.drop j)) l.length ⟨0, by omega, rfl, rfl, Frm.refl _ _, by unfold chks; rw [if_neg h]; rfl⟩ ?_
  rintro m t2 i ys H' ⟨j, hj, rfl, rfl, fr, hc⟩
  refine cond_of (fun h => ?_) fun h => ?_
  · simp only [decide_eq_true_eq] at h
    have hj' : j < l.length := by omega
    refine ⟨by unfold inB; omega, ?_⟩
    have hr' := hr.frm fr
    obtain ⟨b, rfl, hb, hg⟩ := rows_row hr' hj'
    rw [asRow_some]
    refine ⟨_, _, _, _, _, by rw [Int.toNat_natCast]; exact hg, ?_⟩
    have h0 : Sep H' [] := Sep.nil
    refine nwH_in fun i8 H9 e8 e9 => ?_
    have g9 : H9.get i8 = some (.cells true 0 [I 0, I 0, I 0, I 0, I 0]) := by subst e8 e9; exact get_new_self _ _
    refine stc_of' g9 (Nat.le_refl _) fun H10 e10 => ?_
    have fr10 : Frm [] H H10 := by subst e8 e9 e10; exact (fr.new _).set _ (by right; exact fr.1)
    refine ⟨_, _, _, _, _, by rw [e10, cellsAt_of (get_set_self _ _ _)]; rfl, ?_⟩
    refine check_ok (d := l.getD j dc0) (hr.frm fr10) (by omega) fun H17 fr17 => ⟨_, rfl, ?_⟩
    have fr' := fr10.trans fr17 (by simp)
    rw [drop_getD l j hj'] at hc
    refine cond_of (fun h1 => ?_) fun h1 => ⟨l.length - (j + 1), by omega, j + 1, by omega, rfl, ?_, fr', ?_⟩
    · simp only [List.getD_cons_succ, List.getD_cons_zero, asInt_int]
      have := hR _ fr'
      rw [hc] at this
      unfold firstBad at this
      rw [if_pos (by simpa using h1)] at this
      exact this
    · rw [wrap_i64 (by omega)]; omega
    · rw [hc]
      show (if chk l (l.getD j dc0) ≠ 0 then chk l (l.getD j dc0) else firstBad l (l.drop (j + 1))) = _
      rw [if_neg (by simpa using h1)]
  · simp only [decide_eq_false_iff_not] at h
    obtain rfl : j = l.length := by omega
    rw [List.drop_length] at hc
    simp only [List.getD_cons_succ, List.getD_cons_zero, asInt_int]
    have := hR _ fr
    rw [hc] at this
    exact this

theorem RCheck_ok {a : Option Addr} {n : Nat} {l : List Dc} (hr : Rows H a n l) (hR : ∀ H', Frm [] H H' → R (I (chks l)) H') : CA en F.crossbarref07_Check [.slice a n 0] H R := by
  obtain rfl := hr.1
  apply vc_crossbarref07_Check
  refine cond_of (fun h => ?_) fun h => ?_
  · have := hR H (Frm.refl _ _)
    unfold chks at this
    rw [if_pos (by simpa using h)] at this
    exact this
  simp only [decide_eq_false_iff_not] at h
  refine use_crossbarref07_Check_0 (fun m _ i H' => ∃ j : Nat, j ≤ l.length ∧ m = l.length - j ∧ i = (j : Int) ∧ Frm [] H H' ∧ chks l = firstBad l (l.drop j)) l.length ⟨0, by omega, rfl, rfl, Frm.refl _ _, by unfold chks; rw [if_neg h]; rfl⟩ ?_
  rintro m t2 i ys H' ⟨j, hj, rfl, rfl, fr, hc⟩
  refine cond_of (fun h => ?_) fun h => ?_
  · simp only [decide_eq_true_eq] at h
    have hj' : j < l.length := by omega
    refine ⟨by unfold inB; omega, ?_⟩
    have hr' := hr.frm fr
    obtain ⟨b, rfl, hb, hg⟩ := rows_row hr' hj'
    rw [asRow_some]
    refine ⟨_, _, _, _, _, by rw [Int.toNat_natCast]; exact hg, ?_⟩
    refine one_ok (d := l.getD j dc0) hr' (by omega) fun H17 fr17 => ⟨_, rfl, ?_⟩
    have fr' := fr.trans fr17 (by simp)
    rw [drop_getD l j hj'] at hc
    refine cond_of (fun h1 => ?_) fun h1 => ⟨l.length - (j + 1), by omega, j + 1, by omega, rfl, ?_, fr', ?_⟩
    · simp only [List.getD_cons_succ, List.getD_cons_zero, asInt_int]
      have := hR _ fr'
      rw [hc] at this
      unfold firstBad at this
      rw [if_pos (by simpa using h1)] at this
      exact this
    · rw [wrap_i64 (by omega)]; omega
    · rw [hc]
      show (if chk l (l.getD j dc0) ≠ 0 then chk l (l.getD j dc0) else firstBad l (l.drop (j + 1))) = _
      rw [if_neg (by simpa using h1)]
  · simp only [decide_eq_false_iff_not] at h
    obtain rfl : j = l.length := by omega
    rw [List.drop_length] at hc
    simp only [List.getD_cons_succ, List.getD_cons_zero, asInt_int]
    have := hR _ fr
    rw [hc] at this
    exact this

theorem flat_length : ∀ l : List Dc, (flat l).length = l.length * 5
  | [] => rfl
  | d :: l => by
    have e : flat (d :: l) = d.cells ++ flat l := rfl
    rw [e, List.length_append, flat_length l]; simp only [List.length_cons, List.length_nil]; omega

theorem takeAt_all (c : List Value) : takeAt c 0 c.length = some c := by
  simp [takeAt]

theorem flat_snoc (l : List Dc) (j : Nat) (h : j < l.length) : flat (l.take (j + 1)) = flat (l.take j) ++ (l.getD j dc0).cells := by
  rw [List.take_succ_eq_append_getElem h]
  unfold flat
  rw [List.map_append, List.flatten_append]
  simp only [List.map_cons, List.map_nil, List.flatten_cons, List.flatten_nil, List.append_nil]
  rw [List.getD_eq_getElem?_getD, List.getElem?_eq_getElem h, Option.getD_some]

theorem CopyDecls_ok {a : Option Addr} {n : Nat} {l : List Dc} (hr : Rows H a n l) (hl : l.length ≤ 100) (hR : ∀ H' a', Frm [] H H' → Rows H' a' n l → R (.slice a' n 0) H') : CA en F.crossbarkit_CopyDecls [.slice a n 0] H R := by
  obtain rfl := hr.1
  apply vc_crossbarkit_CopyDecls
  refine use_crossbarkit_CopyDecls_0 (fun m b k i H' => ∃ j : Nat, j ≤ l.length ∧ m = l.length - j ∧ i = (j : Int) ∧ k = j ∧ Frm [] H H' ∧ ((j = 0 ∧ b = none) ∨ ∃ q, b = some ⟨q, 0, none⟩ ∧ H.next ≤ q ∧ q < H'.next ∧ H'.get q = some (.cells true 5 (flat (l.take j))))) l.length ⟨0, by omega, rfl, rfl, rfl, Frm.refl _ _, .inl ⟨rfl, rfl⟩⟩ ?_
  rintro m b k i ys H' ⟨j, hj, rfl, rfl, rfl, fr, hq⟩
  refine cond_of (fun h => ?_) fun h => ?_
  · simp only [decide_eq_true_eq] at h
    have hj' : k < l.length := by omega
    refine ⟨by unfold inB; omega, ?_⟩
    have hr' := hr.frm fr
    obtain ⟨b', rfl, hb, hg⟩ := rows_row hr' hj'
    rw [asRow_some]
    refine ⟨_, _, _, _, _, by rw [Int.toNat_natCast]; exact hg, ?_⟩
    refine nwH_in fun i8 H9 e8 e9 => ?_
    have g9 : H9.get i8 = some (.cells true 5 (l.getD k dc0).cells) := by subst e8 e9; exact get_new_self _ _
    have fr9 : Frm [] H H9 := by subst e8 e9; exact fr.new _
    refine ⟨(l.getD k dc0).cells, by simp only [rowOf, firstCellsA, g9]; rfl, ?_⟩
    rcases hq with ⟨rfl, rfl⟩ | ⟨q, rfl, h1, h2, h3⟩
    · refine apd_first (by decide) (by decide) fun q H13 eq e13 => ⟨l.length - 1, by omega, 1, by omega, rfl, by rw [wrap_i64 (by omega)]; rfl, rfl, ?_, .inr ⟨q, rfl, ?_, ?_, ?_⟩⟩
      · subst e13; exact fr9.new _
      · have := fr9.1; omega
      · subst eq e13; rw [next_new]; omega
      · subst eq e13; rw [get_new_self, flat_snoc l 0 hj']; rfl
    · have g3 : H9.get q = some (.cells true 5 (flat (l.take k))) := by subst e8 e9; rw [get_new_lt h2]; exact h3
      have hlen : (flat (l.take k)).length = k * 5 := by rw [flat_length, List.length_take]; omega
      refine apd_grow g3 (by decide) (by rw [hlen]; omega) (by rw [← hlen]; exact takeAt_all _) (by omega) fun p H13 ep e13 => ⟨l.length - (k + 1), by omega, k + 1, by omega, rfl, by rw [wrap_i64 (by omega)]; omega, rfl, ?_, .inr ⟨p, rfl, ?_, ?_, ?_⟩⟩
      · subst e13; exact (fr9.set _ (by right; omega)).new _
      · have := fr9.1; omega
      · subst ep e13; rw [next_new, next_set]; omega
      · subst ep e13
        rw [get_new, next_set, if_pos rfl, flat_snoc l k hj']
  · simp only [decide_eq_false_iff_not] at h
    obtain rfl : k = l.length := by omega
    simp only [List.getD_cons_succ, List.getD_cons_zero, asSl_slice]
    refine hR _ _ fr ⟨rfl, ?_⟩
    rcases hq with ⟨h1, rfl⟩ | ⟨q, rfl, h1, h2, h3⟩
    · left; exact List.length_eq_zero_iff.1 h1
    · rw [List.take_length] at h3
      exact .inr ⟨q, _, _, rfl, h2, h3⟩

theorem SameDecls_ok {a a' : Option Addr} {n : Nat} {l : List Dc} (hr : Rows H a n l) (hr' : Rows H a' n l) (hl : l.length ≤ 100) (hR : ∀ H', Frm [] H H' → R (.bool true) H') : CA en F.crossbarkit_SameDecls [.slice a n 0, .slice a' n 0] H R := by
  obtain rfl := hr.1
  apply vc_crossbarkit_SameDecls
  refine cond_no (by simp) ?_
  refine use_crossbarkit_SameDecls_0 (fun m _ i H' => ∃ j : Nat, j ≤ l.length ∧ m = l.length - j ∧ i = (j : Int) ∧ Frm [] H H') l.length ⟨0, by omega, rfl, rfl, Frm.refl _ _⟩ ?_
  rintro m t4 i ys H' ⟨j, hj, rfl, rfl, fr⟩
  refine cond_of (fun h => ?_) fun h => ?_
  · simp only [decide_eq_true_eq] at h
    have hj' : j < l.length := by omega
    have hi : inB (j : Int) l.length := by unfold inB; omega
    refine ⟨hi, ?_⟩
    obtain ⟨b1, rfl, hb1, hg1⟩ := rows_row (hr.frm fr) hj'
    obtain ⟨b2, rfl, hb2, hg2⟩ := rows_row (hr'.frm fr) hj'
    rw [asRow_some]
    refine ⟨_, _, _, _, _, by rw [Int.toNat_natCast]; exact hg1, hi, ?_⟩
    rw [asRow_some]
    refine ⟨_, _, _, _, _, by rw [Int.toNat_natCast]; exact hg2, ?_, trivial⟩
    refine cond_no (by simp) ⟨l.length - (j + 1), by omega, j + 1, by omega, rfl, by rw [wrap_i64 (by omega)]; omega, fr.bump _⟩
  · simp only [List.getD_cons_succ, List.getD_cons_zero, asBool_bool]
    exact hR _ fr

theorem DeclChecks_fr {a : Option Addr} {n : Nat} {l : List Dc} (hr : Rows H a n l) : CA en F.crossbarlaw07_DeclChecks [.slice a n 0] H fun r H' => r = .bool true ∧ Frm [] H H' := by
  obtain rfl := hr.1
  apply vc_crossbarlaw07_DeclChecks
  refine cond_of (fun h => ?_) fun h => ?_
  · exact CA_truth (by kernel_rfl) ⟨_, rfl, rfl, Frm.refl _ _⟩
  simp only [decide_eq_false_iff_not] at h
  refine CopyDecls_ok hr (by omega) fun H5 a' fr5 hr5 => ⟨_, _, rfl, ?_⟩
  refine Check_ok hr5 fun H9 fr9 => ⟨_, rfl, ?_⟩
  have f9 := fr5.trans fr9 (by simp)
  refine RCheck_ok (hr.frm f9) fun H12 fr12 => ⟨_, rfl, cond_yes (by simp) ?_⟩
  have f12 := f9.trans fr12 (by simp)
  refine SameDecls_ok ((hr5.frm fr9).frm fr12) (hr.frm f12) (by omega) fun H15 fr15 => ⟨_, rfl, ?_⟩
  exact CA_truth (by kernel_rfl) ⟨_, rfl, rfl, f12.trans fr15 (by simp)⟩

theorem DeclChecks_ok {a : Option Addr} {n : Nat} {l : List Dc} (hr : Rows H a n l) : CA en F.crossbarlaw07_DeclChecks [.slice a n 0] H fun r _ => r = .bool true :=
  CA_conseq (fun _ _ h => h.1) (DeclChecks_fr hr)

theorem rows_of : ∀ (cs : List (List Value)), (∀ c ∈ cs, ∃ d : Dc, c = d.cells) → ∃ l : List Dc, cs.flatten = flat l ∧ cs.length = l.length
  | [], _ => ⟨[], rfl, rfl⟩
  | c :: cs, h => by
    obtain ⟨d, rfl⟩ := h c (by simp)
    obtain ⟨l, e1, e2⟩ := rows_of cs fun c hc => h c (List.mem_cons_of_mem _ hc)
    refine ⟨d :: l, ?_, by simp [e2]⟩
    rw [List.flatten_cons, e1]; rfl

theorem DeclChecks_law (H : Heap) (us : List Value) (h : shpVs en H 7 T.DeclChecks us) : CA en F.crossbarlaw07_DeclChecks us H fun v _ => v = .bool true := by
  obtain ⟨v, u, rfl, hA, rfl⟩ := args_DeclChecks h
  clear h
  rcases hA with hA | ⟨i, cs, hA, hi, hg, hc⟩
  · obtain rfl := (List.cons.inj hA).1
    exact DeclChecks_ok (l := []) ⟨rfl, .inl rfl⟩
  · obtain rfl := (List.cons.inj hA).1
    obtain ⟨l, e1, e2⟩ := rows_of cs fun c hm => by
      obtain ⟨ap1, bp1, rfl, ⟨np1, rfl, wp1⟩, ap2, bp2, rfl, ⟨np2, rfl, wp2⟩, ap3, bp3, rfl, ⟨np3, rfl, wp3⟩, ap4, bp4, rfl, ⟨np4, rfl, wp4⟩, ap5, bp5, rfl, ⟨np5, rfl, wp5⟩, rfl⟩ := hc c hm
      exact ⟨⟨np1, np2, np3, np4, np5⟩, rfl⟩
    rw [e2]
    exact DeclChecks_ok (l := l) ⟨rfl, .inr ⟨i, false, 0, rfl, hi, by rw [hg, e1]⟩⟩
end Go.Proofs.Ytlkmdcncpdadbaa
