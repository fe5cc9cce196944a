/-
  When all have left, nothing waits, and just what was deferred is freed, each once.
-/
import Derived.Test.YtdkbgjhlpoibdaaGracePure
import Derived.Test.YtdkbgjhlpoibdaaAs45
namespace Go.Proofs.Ytdkbgjhlpoibdaa
open Go Go.AS Go.RowKit
set_option linter.unusedVariables false
variable {H H' : Heap} {R : Value → Heap → Prop} {L M : List Asr} {g m : Nat} {k a h : Int} {S : Sm} {G : Gr}

theorem setAt_ints {C : List Int} {o : Nat} {v : Int} : setAt (ints C) o [I v] = ints (C.set o v) := by
  show (ints C).set o (I v) = _
  exact (List.map_set ..).symm
theorem setAt_bools {C : List Bool} {o : Nat} {v : Bool} : setAt (C.map Value.bool) o [.bool v] = (C.set o v).map Value.bool := by
  show (C.map Value.bool).set o (.bool v) = _
  exact (List.map_set ..).symm
theorem ints_at {C : List Int} {n : Nat} (h : n < C.length) : (ints C)[n]? = some (I (C.getD n 0)) := by
  rw [List.getElem?_map, List.getD_eq_getElem?_getD, List.getElem?_eq_getElem h]; rfl
theorem bools_at {C : List Bool} {n : Nat} (h : n < C.length) : (C.map Value.bool)[n]? = some (.bool (C.getD n false)) := by
  rw [List.getElem?_map, List.getD_eq_getElem?_getD, List.getElem?_eq_getElem h]; rfl

abbrev ArrC (i : Nat) (C : List Int) : Asr := bx i (.cells true 1 (ints C))
abbrev ArrA (i : Nat) (A : List Bool) : Asr := bx i (.cells true 1 (A.map Value.bool))

theorem GraceFreed_ok {a : Option Addr} {n : Nat} {l : List (Int × Int)} (ha : Arg a n (l.map aCells) M) (hs : Sep H M) : CA en F.crossbarlaw09_GraceFreed [.slice a n 0] H fun v _ => v = .bool true := by
  obtain rfl := ha.len
  rw [List.length_map]
  apply vc_crossbarlaw09_GraceFreed
  refine made_s hs fun H2 m S hS h2 => ⟨_, rfl, cond_no rfl (cond_of (fun h1 => cond_yes rfl (CA_truth (by kernel_rfl) ⟨_, rfl, rfl⟩)) fun h1 => ?_)⟩
  have hlen : l.length ≤ 300 := by simp only [decide_eq_false_iff_not] at h1; omega
  refine newG_s h2 fun H5 g mi hg => ⟨_, rfl, cond_no rfl ?_⟩
  obtain ⟨b, junk, hb, hbj, h5⟩ := hg.ex
  refine ⟨⟨by omega, Int.le_refl _, by omega⟩, Sep.nw h5 fun iC H7 h7 => ⟨⟨by omega, Int.le_refl _, by omega⟩, Sep.nw h7 fun iA H9 h9 => ?_⟩⟩
  have hg9 : IsG H9 g m ⟨4, mi, [], [], S⟩ (ArrC iC (List.replicate 21 0) :: ArrA iA (List.replicate 21 false) :: M) := ⟨b, junk, hb, hbj, Sep.pick h9 7 [2, 3, 4, 5, 6, 1, 0] (by decide)⟩
  have ok0 : Ok ⟨4, mi, [], [], S⟩ := ⟨⟨by simp, by simp, fun w hw => by simp at hw⟩, fun w hw => by simp at hw⟩
  have st0 : St ⟨4, mi, [], [], S⟩ (List.replicate 21 0) (List.replicate 21 false) := by
    refine ⟨by simp, by simp, fun n h1 h2 => .inr ⟨?_, by simp, ?_, ?_⟩, fun h hh => by simp at hh⟩
    · rw [List.getD_eq_getElem?_getD, List.getElem?_replicate]; split <;> rfl
    · rw [List.getD_eq_getElem?_getD, List.getElem?_replicate]; split <;> rfl
    · show S.size n ≠ 0
      rw [hS, if_pos (by omega)]; decide
  clear h5 h7 h9 hg h2 hs hS hb hbj
  refine use_crossbarlaw09_GraceFreed_0 (fun k t2 t7 H => ∃ (j : Nat) (G : Gr) (C : List Int) (A : List Bool), j ≤ l.length + 4 ∧ k = l.length + 4 - j ∧ t7 = (j : Int) ∧ G.n = 4 ∧ G.q.length ≤ j ∧ Ok G ∧ St G C A ∧ (∀ x ∈ G.ins, 0 ≤ x ∧ x < 4 ∧ (j : Int) - l.length ≤ x) ∧ IsG H g m G (ArrC iC C :: ArrA iA A :: M)) (l.length + 4) ⟨0, _, _, _, by omega, rfl, rfl, rfl, by simp, ok0, st0, fun x hx => by simp at hx, hg9⟩ ?_
  clear hg9 ok0 st0
  rintro k t2 t7 ys H3 ⟨j, G, C, A, hj, rfl, rfl, hn, hql, ok, st, hins, hg⟩
  have hwl : IntKind.i64.wrap ((l.length : Int) + 4) = (l.length : Int) + 4 := wrap_i64 (by omega)
  rw [hwl]
  refine cond_of (fun h1 => ?_) fun h1 => ?_
  · have hj' : j < l.length + 4 := by simp only [decide_eq_true_eq] at h1; omega
    refine ⟨fun vs H' => ∃ (f : Option Nat) (hs : List Int) (G' : Gr) (A' : List Bool), vs = [.slice (addr f) hs.length 0] ∧ (f = none → hs = []) ∧ hs.length ≤ 1000 ∧ hs.Nodup ∧ (∀ h ∈ hs, 1 ≤ h ∧ h ≤ 20) ∧ G'.n = 4 ∧ G'.q.length ≤ j + 1 ∧ Ok G' ∧ St G' (bumps C hs) A' ∧ (∀ x ∈ G'.ins, 0 ≤ x ∧ x < 4 ∧ ((j + 1 : Nat) : Int) - l.length ≤ x) ∧ IsG H' g m G' (gl 1 f (ints hs) :: ArrC iC C :: ArrA iA A' :: M), ?_, ?_⟩
    · refine cond_of (fun h2 => ?_) fun h2 => ?_
      · simp only [decide_eq_true_eq] at h2
        have hw : IntKind.i64.wrap ((j : Int) - l.length) = (j : Int) - l.length := wrap_i64 (by omega)
        rw [hw]
        refine leave_s hg (by omega) fun H4 f hf hg4 => ⟨_, _, rfl, f, _, _, A, rfl, hf, Nat.le_trans leave_le (by omega), leave_nd ok, (st.leave ok).2, leave_n.trans hn, Nat.le_trans leave_len (by omega), ok.leave, (st.leave ok).1, fun x hx => ?_, hg4⟩
        have hx := (leave_ins ok).1 hx
        have := hins x hx.1
        omega
      · have hj2 : j < l.length := by simp only [decide_eq_false_iff_not] at h2; omega
        obtain ⟨b, junk, hb, hbj, h3⟩ := hg.ex
        have hMs : ∀ A' ∈ M, A' ∈ GS g m b junk G (ArrC iC C :: ArrA iA A :: M) := fun A' h => by simp [h]
        obtain ⟨q, rfl, e0, e1⟩ := rda_arg ha hMs H3 h3 j l[j] (by simp)
        have hib : inB (j : Int) l.length := by unfold inB; omega
        refine ⟨hib, asRow_in ⟨_, e0, by unfold nz; omega, cond_of (fun h4 => ?_) fun h4 => ?_⟩⟩
        · refine ⟨hib, asRow_in ⟨_, e1, Pick_ok (by decide) (by decide) ⟨_, rfl, enter_s hg fun H15 hg15 => ⟨_, rfl, ?_⟩⟩⟩⟩
          obtain ⟨b', junk', hb', hbj', h15⟩ := hg15.ex
          refine ⟨none, [], _, A, rfl, fun _ => rfl, by simp, by simp, fun h hh => by simp at hh, enter_n.trans hn, ?_, ok.enter, st.enter, fun x hx => ?_, ⟨b', junk', hb', hbj', Sep.pick (gl_none.2 h15 : Sep H15 (gl 1 none (ints []) :: _)) 6 [1, 2, 3, 4, 5, 0] (by decide)⟩⟩
          · have : (G.enter ((l[j]).2 % 4)).2.q = G.q := by unfold Gr.enter; split <;> rfl
            rw [this]; omega
          · rcases enter_ins hx with hx | ⟨hx, h5, h6⟩
            · have := hins x hx; omega
            · rw [hn] at h6; omega
        · refine ⟨hib, asRow_in ⟨_, e0, by unfold nz; omega, cond_of (fun h5 => ?_) fun h5 => ?_⟩⟩
          · refine ⟨hib, asRow_in ⟨_, e1, Pick_ok (by decide) (by decide) ⟨_, rfl, ?_⟩⟩⟩
            refine leave_s hg (by omega) fun H4 f hf hg4 => ⟨_, _, rfl, f, _, _, A, rfl, hf, Nat.le_trans leave_le (by omega), leave_nd ok, (st.leave ok).2, leave_n.trans hn, Nat.le_trans leave_len (by omega), ok.leave, (st.leave ok).1, fun x hx => ?_, hg4⟩
            have hx := (leave_ins ok).1 hx
            have := hins x hx.1
            omega
          · refine ⟨hib, asRow_in ⟨_, e1, Pick_ok (by decide) (by decide) ⟨_, rfl, ?_⟩⟩⟩
            have hwp : IntKind.i64.wrap (1 + (l[j]).2 % 20) = 1 + (l[j]).2 % 20 := wrap_i64 (by omega)
            rw [hwp]
            have hh : 1 ≤ 1 + (l[j]).2 % 20 ∧ 1 + (l[j]).2 % 20 ≤ 20 := by omega
            generalize 1 + (l[j]).2 % 20 = h at hh
            have hal := st.al
            refine ⟨by unfold inB; omega, Sep.st6 h3 (by simp only [List.length_map, List.length_cons, List.length_nil]; omega) fun H37 h37 => ?_⟩
            rw [setAt_bools, Nat.zero_add, Nat.mul_one] at h37
            refine defer_s ⟨b, junk, hb, hbj, h37⟩ (by omega) fun H39 f mb hf hg39 => ⟨_, _, rfl, f, _, _, _, rfl, hf, Nat.le_trans defer_le (by omega), defer_nd ok, (st.defer ok hh).2, defer_n.trans hn, Nat.le_trans defer_len (by omega), ok.defer h, (st.defer ok hh).1, fun x hx => ?_, hg39⟩
            rw [defer_ins] at hx
            have := hins x hx
            omega
    · rintro ys42 H43 a44 i45 ⟨f, hs, G', A', e, hf, hsl, hsn, hsb, hn', hql', ok', st', hins', hg'⟩
      simp only [List.cons.injEq, Value.slice.injEq, and_true] at e
      obtain ⟨rfl, rfl⟩ := e
      refine use_crossbarlaw09_GraceFreed_1 (fun k t2 t10 H => ∃ p : Nat, p ≤ hs.length ∧ k = hs.length - p ∧ t10 = (p : Int) ∧ IsG H g m G' (gl 1 f (ints hs) :: ArrC iC (bumps C (hs.take p)) :: ArrA iA A' :: M)) hs.length ⟨0, by omega, rfl, rfl, hg'⟩ ?_
      clear hg'
      rintro k t2 t10 ys H6 ⟨p, hp, rfl, rfl, hg6⟩
      refine cond_of (fun h7 => ?_) fun h7 => ?_
      · have hp' : p < hs.length := by simp only [decide_eq_true_eq] at h7; omega
        have hib : inB (p : Int) hs.length := by unfold inB; omega
        obtain ⟨b, junk, hb, hbj, h6⟩ := hg6.ex
        cases f with
        | none => rw [hf rfl] at hp'; simp at hp'
        | some f =>
          have hf6 : H6.get f = some (.cells true 1 (ints hs)) := gl_get (Sep.up5 h6)
          have hv := hsb hs[p] (by simp)
          have hc : H6.cell f (0 + p * 1) = some (I hs[p]) := by
            rw [cell_of hf6, Nat.zero_add, Nat.mul_one, List.getElem?_map, List.getElem?_eq_getElem hp']; rfl
          have hcl : (bumps C (hs.take p)).length = 21 := by rw [bumps_len]; exact st.cl
          have hgd : (bumps C (hs.take p)).getD (hs[p]).toNat 0 = C.getD (hs[p]).toNat 0 + if (((hs[p]).toNat : Nat) : Int) ∈ hs.take p then 1 else 0 :=
            bumps_get _ _ _ st.cl (fun h hh => by have := hsb h (List.mem_of_mem_take hh); omega) (List.Sublist.nodup (List.take_sublist _ _) hsn)
          have hbd : 0 ≤ (bumps C (hs.take p)).getD (hs[p]).toNat 0 ∧ (bumps C (hs.take p)).getD (hs[p]).toNat 0 ≤ 2 := by
            rw [hgd]
            rcases st.row (hs[p]).toNat (by omega) (by omega) with ⟨_, ⟨_, e, _⟩ | ⟨_, e, _⟩⟩ | ⟨_, _, e, _⟩ <;> rw [e] <;> split <;> omega
          refine ⟨hib, asRow_in ⟨_, hc, cond_no (by rw [decide_eq_false_iff_not]; omega) ⟨hib, asRow_in ⟨_, hc, cond_no (by rw [decide_eq_false_iff_not]; omega) ⟨hib, asRow_in ⟨_, hc, by unfold inB; omega, _, Sep.ld6 h6 (by rw [Nat.zero_add, Nat.mul_one]; exact ints_at (by omega)), by unfold inB; omega, ?_⟩⟩⟩⟩⟩⟩
          refine Sep.st6 h6 (by simp only [List.length_map, List.length_cons, List.length_nil]; omega) fun H11 h11 => ⟨hs.length - (p + 1), by omega, p + 1, by omega, rfl, by rw [wrap_i64 (by omega)]; omega, ⟨b, junk, hb, hbj, ?_⟩⟩
          rw [setAt_ints, Nat.zero_add, Nat.mul_one, wrap_i64 (by omega)] at h11
          have e : bumps C (hs.take (p + 1)) = (bumps C (hs.take p)).set (hs[p]).toNat ((bumps C (hs.take p)).getD (hs[p]).toNat 0 + 1) := by
            have e2 : hs.take (p + 1) = hs.take p ++ [hs[p]] := by rw [List.take_add_one, List.getElem?_eq_getElem hp']; rfl
            rw [e2]
            unfold bumps
            rw [List.foldl_append]; rfl
          rw [e]; exact h11
      · obtain rfl : p = hs.length := by simp only [decide_eq_false_iff_not] at h7; omega
        rw [List.take_length] at hg6
        obtain ⟨b, junk, hb, hbj, h6⟩ := hg6.ex
        refine asBool_in ⟨l.length + 4 - (j + 1), by omega, j + 1, G', bumps C hs, A', by omega, rfl, by rw [wrap_i64 (by omega)]; omega, hn', hql', ok', st', hins', ⟨b, junk, hb, hbj, h6.rm5⟩⟩
  · obtain rfl : j = l.length + 4 := by simp only [decide_eq_false_iff_not] at h1; omega
    have hq : G.q = [] := ok.empty fun x hx => by have := hins x hx; omega
    have hcl := st.cl
    have hal := st.al
    refine asBool_in ?_
    refine use_crossbarlaw09_GraceFreed_2 (fun k t2 t11 H => ∃ p : Nat, 1 ≤ p ∧ p ≤ 21 ∧ k = 21 - p ∧ t11 = (p : Int) ∧ IsG H g m G (ArrC iC C :: ArrA iA A :: M)) 20 ⟨1, by omega, by omega, rfl, rfl, hg⟩ ?_
    rintro k t2 t11 ys H6 ⟨p, hp1, hp, rfl, rfl, hg6⟩
    refine cond_of (fun h7 => ?_) fun h7 => ?_
    · have hp' : p ≤ 20 := by simp only [decide_eq_true_eq] at h7; omega
      obtain ⟨b, junk, hb, hbj, h6⟩ := hg6.ex
      have hB := h6.bump 28
      have hib : inB (p : Int) 21 := by unfold inB; omega
      have lC : (H6.bump 28).cell iC (0 + (p : Int).toNat * 1) = some (I (C.getD p 0)) := Sep.ld5 hB (by rw [Nat.zero_add, Nat.mul_one]; exact ints_at (by omega))
      have lA : (H6.bump 28).cell iA (0 + (p : Int).toNat * 1) = some (.bool (A.getD p false)) := Sep.ld6 hB (by rw [Nat.zero_add, Nat.mul_one]; exact bools_at (by omega))
      have hr : ((C.getD p 0 == 1) = A.getD p false) ∧ ¬ C.getD p 0 > 1 ∧ ((((G.S.size p : Nat) : Int) == 0) = A.getD p false) := by
        rcases st.row p hp1 hp' with ⟨ea, ⟨e, _⟩ | ⟨_, ec, es⟩⟩ | ⟨ea, _, ec, es⟩
        · rw [hq] at e; simp at e
        · rw [ea, ec, es]; exact ⟨rfl, by omega, rfl⟩
        · rw [ea, ec]
          exact ⟨rfl, by omega, by simp [es]⟩
      refine ⟨hib, _, lC, hib, _, lA, cond_no (by rw [hr.1]; simp) ⟨hib, _, lC, cond_no (by rw [decide_eq_false_iff_not]; exact hr.2.1) (size_s (Sep.up4 hB) ⟨_, rfl, hib, _, lA, ⟨cond_no (by rw [hr.2.2]; simp) ⟨21 - (p + 1), by omega, p + 1, by omega, by omega, rfl, by rw [wrap_i64 (by omega)]; omega, b, junk, hb, hbj, hB⟩, ⟨⟨_, lA, rfl⟩, ⟨_, lA, rfl⟩, trivial⟩, trivial⟩⟩)⟩⟩
    · refine asBool_in (waits_s hg6 ⟨_, rfl, cond_yes (by rw [hq]; rfl) (CA_truth (by kernel_rfl) ⟨_, rfl, rfl⟩)⟩)

theorem acts_arg {H : Heap} {v : Value} (hA : SlArg H (fun c => ∃ x : Int × Int, c = aCells x) v) :
    ∃ (a : Option Addr) (n : Nat) (l : List (Int × Int)) (M : List Asr), v = .slice a n 0 ∧ Arg a n (l.map aCells) M ∧ Sep H M := by
  obtain ⟨a, n2, css, M, rfl, ha, hs, hc⟩ := Arg.of (P := fun c => ∃ x : Int × Int, c = aCells x) (H := H) (v := v) hA
  obtain ⟨l, rfl⟩ := acts_of css hc
  exact ⟨_, _, l, M, rfl, ha, hs⟩
theorem act_cell {c : List Value} (h : ∃ (a4 b5 : List Value), c = a4 ++ b5 ∧ (∃ n : Int, a4 = [.int .i64 n] ∧ (Lit.int .i64 n).wf = true) ∧ (∃ (a6 b7 : List Value), b5 = a6 ++ b7 ∧ (∃ n : Int, a6 = [.int .i64 n] ∧ (Lit.int .i64 n).wf = true) ∧ b7 = [])) : ∃ x : Int × Int, c = aCells x := by
  obtain ⟨_, _, rfl, ⟨n, rfl, _⟩, _, _, rfl, ⟨n2, rfl, _⟩, rfl⟩ := h
  exact ⟨(n, n2), rfl⟩

theorem GraceFreed_law (H : Heap) (us : List Value) (h : shpVs en H 7 T.GraceFreed us) : CA en F.crossbarlaw09_GraceFreed us H fun v _ => v = .bool true := by
  obtain ⟨v, u, rfl, hA, rfl⟩ := args_GraceFreed h
  clear h
  obtain ⟨a, n3, l, M, rfl, ha, hs⟩ := acts_arg ((SlArg.one (P := fun c => _) hA).imp id fun ⟨i, cs, h1, h2, h3, h4⟩ => ⟨i, cs, h1, h2, h3, fun c hc => act_cell (h4 c hc)⟩)
  exact GraceFreed_ok ha hs
end Go.Proofs.Ytdkbgjhlpoibdaa
