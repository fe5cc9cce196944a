/-
  A region is live as long as one that was inside when it was deferred has not left, and is freed when the last of these leaves.
-/
import Derived.Test.YtdkbgjhlpoibdaaGraceFreed
namespace Go.Proofs.Ytdkbgjhlpoibdaa
open Go Go.AS Go.RowKit
set_option linter.unusedVariables false
variable {H H' : Heap} {R : Value → Heap → Prop} {L M : List Asr} {g m mb : Nat} {k a h : Int} {S : Sm} {G : Gr} {ws : List Int}

/-- One region waits for some, or is gone. -/
structure Sf (G : Gr) (mb : Nat) (ws : List Int) : Prop where
  n : G.n = 8
  ok : Ok G
  q : G.q = if ws = [] then [] else [⟨5, mb, ws⟩]
  sz : G.S.size 5 = 0 ↔ ws = []
  nd : ws.Nodup
  sub : ∀ a ∈ ws, a ∈ G.ins

theorem one_swept (hn : G.n = 8) (p : Pre G) (ws' : List Int) (hq' : G.q = [] ∧ ws' = [] ∧ G.S.size 5 = 0 ∨ G.q = [⟨5, mb, ws'⟩] ∧ G.S.size 5 ≠ 0) (nd : ws'.Nodup) (sub : ∀ a ∈ ws', a ∈ G.ins) :
    Sf G.swept mb ws' ∧ gone G.q = if ws' = [] ∧ G.q ≠ [] then [5] else [] := by
  have es : G.swept.S.size 5 = if (5 : Int) ∈ gone G.q then 0 else G.S.size 5 := frees_size _ _ _
  have eq : G.swept.q = kept G.q := rfl
  rcases hq' with ⟨e, rfl, hs⟩ | ⟨e, hs⟩
  · have eg : gone G.q = [] := by rw [e]; rfl
    refine ⟨⟨hn, p.swept, by rw [eq, e]; rfl, ?_, nd, sub⟩, by rw [eg, e]; simp⟩
    rw [es, eg]; simp [hs]
  · by_cases hw : ws' = []
    · subst hw
      have eg : gone G.q = [5] := by rw [e]; rfl
      refine ⟨⟨hn, p.swept, by rw [eq, e]; rfl, ?_, nd, sub⟩, by rw [eg, e]; simp⟩
      rw [es, eg]; simp
    · have hne : ne ⟨5, mb, ws'⟩ = true := (ne_iff _).2 hw
      have eg : gone G.q = [] := by rw [e]; unfold gone; simp [hne]
      refine ⟨⟨hn, p.swept, by rw [eq, e, if_neg hw]; unfold kept; simp [hne], ?_, nd, sub⟩, by rw [eg, if_neg (fun h => hw h.1)]⟩
      rw [es, eg]; simp [hs, hw]

theorem Sf.leave (s : Sf G mb ws) (a : Int) : Sf (G.leave a).2 mb (ws.erase a) ∧ (G.leave a).1 = if a ∈ ws ∧ ws.erase a = [] then [5] else [] := by
  unfold Gr.leave
  by_cases ha : a ∈ G.ins
  · rw [if_pos ha]
    have eq : (G.left a).q = if ws = [] then [] else [⟨5, mb, ws.erase a⟩] := by
      show G.q.map (er a) = _
      rw [s.q]
      split <;> rfl
    have hsub : ∀ b ∈ ws.erase a, b ∈ (G.left a).ins := fun b hb => by
      rw [s.nd.mem_erase_iff] at hb
      show b ∈ G.ins.erase a
      rw [s.ok.ind.mem_erase_iff]
      exact ⟨hb.1, s.sub b hb.2⟩
    have hS : (G.left a).S = G.S := rfl
    by_cases hw : ws = []
    · subst hw
      obtain ⟨h1, h2⟩ := one_swept (G := G.left a) (mb := mb) s.n s.ok.left [] (.inl ⟨eq, rfl, s.sz.2 rfl⟩) (by simp) (by simp)
      refine ⟨h1, ?_⟩
      show gone (G.left a).q = _
      rw [h2, eq]; simp
    · rw [if_neg hw] at eq
      obtain ⟨h1, h2⟩ := one_swept (G := G.left a) (mb := mb) s.n s.ok.left (ws.erase a) (.inr ⟨eq, fun h => hw (s.sz.1 h)⟩) (s.nd.erase a) hsub
      refine ⟨h1, ?_⟩
      show gone (G.left a).q = _
      rw [h2, eq]
      by_cases hm : a ∈ ws
      · simp [hm]
      · rw [List.erase_of_not_mem hm]; simp [hw, hm]
  · rw [if_neg ha]
    have hm : a ∉ ws := fun h => ha (s.sub a h)
    rw [List.erase_of_not_mem hm]
    exact ⟨s, by simp [hm]⟩

abbrev bitB (mask : Int) (a : Int) : Bool := (Int.tmod (Int.fdiv mask (2 ^ (min (IntKind.u64.wrap a).toNat 64))) 2) == 1

theorem Sf.enter (s : Sf G mb ws) (a : Int) : Sf (G.enter a).2 mb ws ∧ ((G.enter a).1 = true → a ∉ ws) := by
  have hq : (G.enter a).2.q = G.q := by unfold Gr.enter; split <;> rfl
  have hS : (G.enter a).2.S = G.S := by unfold Gr.enter; split <;> rfl
  have hi : ∀ x ∈ G.ins, x ∈ (G.enter a).2.ins := by
    intro x hx
    unfold Gr.enter
    split
    · exact hx
    · exact List.mem_append.2 (.inl hx)
  refine ⟨⟨enter_n.trans s.n, s.ok.enter, by rw [hq]; exact s.q, by rw [hS]; exact s.sz, s.nd, fun x hx => hi x (s.sub x hx)⟩, fun h hm => ?_⟩
  unfold Gr.enter at h
  rw [if_pos (.inr (.inr (s.sub a hm)))] at h
  cases h

structure Wa (W : List Bool) (ws : List Int) : Prop where
  len : W.length = 8
  iff' : ∀ n : Nat, n < 8 → (W.getD n false = decide ((n : Int) ∈ ws))
theorem Wa.off {W : List Bool} (w : Wa W ws) (nd : ws.Nodup) {n : Nat} (hn : n < 8) : Wa (W.set n false) (ws.erase n) := by
  have hl := w.len
  refine ⟨by simpa using w.len, fun k hk => ?_⟩
  rw [List.getD_eq_getElem?_getD, List.getElem?_set]
  by_cases e : n = k
  · subst e
    rw [if_pos rfl, if_pos (by omega), decide_eq_false (by rw [nd.mem_erase_iff]; simp)]; rfl
  · rw [if_neg e, ← List.getD_eq_getElem?_getD, w.iff' k hk]
    congr 1
    rw [nd.mem_erase_iff]
    refine propext ⟨fun h => ⟨by omega, h⟩, fun h => h.2⟩

theorem GraceSafe_ok {x0 : Int} {a : Option Addr} {n : Nat} {l : List (Int × Int)} (ha : Arg a n (l.map aCells) M) (hs : Sep H M) : CA en F.crossbarlaw09_GraceSafe [I x0, .slice a n 0] H fun v _ => v = .bool true := by
  obtain rfl := ha.len
  rw [List.length_map]
  apply vc_crossbarlaw09_GraceSafe
  refine made_s hs fun H2 m S hS h2 => ⟨_, rfl, cond_no rfl ?_⟩
  refine newG_s h2 fun H5 g mi hg => ⟨_, rfl, cond_no rfl (Pick_ok (by decide) (by decide) ⟨_, rfl, ?_⟩)⟩
  generalize x0 % 256 = mask
  have hS5 : S.size 5 ≠ 0 := by rw [hS, if_pos (by omega)]; decide
  have ok0 : Ok ⟨8, mi, [], [], S⟩ := ⟨⟨by simp, by simp, fun w hw => by simp at hw⟩, fun w hw => by simp at hw⟩
  refine use_crossbarlaw09_GraceSafe_0 (fun k t7 t8 H => ∃ (j : Nat) (G : Gr), j ≤ 8 ∧ k = 8 - j ∧ t8 = (j : Int) ∧ t7 = (G.ins.length : Int) ∧ G.ins.length ≤ j ∧ G.n = 8 ∧ G.S = S ∧ G.q = [] ∧ Ok G ∧ (∀ i : Nat, i < 8 → ((i : Int) ∈ G.ins ↔ i < j ∧ bitB mask i = true)) ∧ (∀ x ∈ G.ins, 0 ≤ x ∧ x < 8) ∧ IsG H g m G M) 8 ⟨0, _, by omega, rfl, rfl, rfl, by simp, rfl, rfl, rfl, ok0, fun i hi => by simp, fun x hx => by simp at hx, hg⟩ ?_
  clear hg h2 hs ok0
  rintro k t7 t8 ys H3 ⟨j, G, hj, rfl, rfl, rfl, hil, hn, hGS, hq, ok, hbit, hins, hg⟩
  have hw1 : ∀ i : Nat, i ≤ 8 → IntKind.i64.wrap ((i : Int) + 1) = ((i + 1 : Nat) : Int) := fun i hi => by rw [wrap_i64 (by omega)]; omega
  have hnn : ∀ i : Nat, i ≤ 8 → nn (IntKind.u64.wrap (i : Int)) := fun i hi => by
    rw [wrap_u64]; unfold nn; omega
  refine cond_of (fun h1 => ?_) fun h1 => ?_
  · have hj' : j < 8 := by simp only [decide_eq_true_eq] at h1; omega
    refine ⟨hnn j (by omega), by unfold nz; omega, cond_of (fun hb => ?_) fun hb => ?_⟩
    · have hni : (j : Int) ∉ G.ins := fun h => by have := ((hbit j hj').1 h).1; omega
      have he : G.enter (j : Int) = (true, { G with ins := G.ins ++ [(j : Int)] }) := by
        unfold Gr.enter; rw [if_neg (by simp only [not_or]; exact ⟨by omega, by omega, hni⟩)]
      refine enter_s hg fun H4 hg4 => ⟨_, rfl, 8 - (j + 1), by omega, j + 1, _, by omega, rfl, hw1 j hj, ?_, ?_, enter_n.trans hn, ?_, ?_, ok.enter, ?_, ?_, hg4⟩
      · rw [he]
        show _ = ((G.ins ++ [(j : Int)]).length : Int)
        rw [List.length_append, hw1 _ (by omega)]; rfl
      · rw [he]
        show (G.ins ++ [(j : Int)]).length ≤ _
        rw [List.length_append]; simp; omega
      · rw [he]; exact hGS
      · rw [he]; exact hq
      · intro i hi
        rw [he]
        show (i : Int) ∈ G.ins ++ [(j : Int)] ↔ _
        rw [List.mem_append, hbit i hi, List.mem_singleton]
        by_cases e : i = j
        · subst e; simp only [hb]; simp
        · have : ¬ (i : Int) = j := by omega
          simp only [this, or_false]
          exact ⟨fun h => ⟨by omega, h.2⟩, fun h => ⟨by omega, h.2⟩⟩
      · rw [he]
        show ∀ x ∈ G.ins ++ [(j : Int)], _
        intro x hx
        rcases List.mem_append.1 hx with hx | hx
        · exact hins x hx
        · simp at hx; omega
    · refine ⟨8 - (j + 1), by omega, j + 1, G, by omega, rfl, hw1 j hj, rfl, by omega, hn, hGS, hq, ok, fun i hi => ?_, hins, hg⟩
      rw [hbit i hi]
      have hb' : bitB mask j = false := hb
      by_cases e : i = j
      · subst e; rw [hb']; simp
      · exact ⟨fun h => ⟨by omega, h.2⟩, fun h => ⟨by omega, h.2⟩⟩
  obtain rfl : j = 8 := by simp only [decide_eq_false_iff_not] at h1; omega
  refine asInt_in (defer_s (h := 5) hg (by rw [hq]; simp) fun H14 f mb hf hg14 => ⟨_, _, rfl, ?_⟩)
  have hdf : G.defer 5 mb = (gone (G.add 5 mb).q, (G.add 5 mb).swept) := by
    unfold Gr.defer
    rw [if_neg (by rw [hGS, hq]; simp [hS5])]
  have haq : (G.add 5 mb).q = [⟨5, mb, G.ins⟩] := by show G.q ++ [_] = _; rw [hq]; rfl
  obtain ⟨sf, eg⟩ := one_swept (G := G.add 5 mb) (mb := mb) hn (ok.add 5 (by rw [hq]; simp)) G.ins (.inr ⟨haq, by show G.S.size 5 ≠ 0; rw [hGS]; exact hS5⟩) ok.ind fun a h => h
  have eg : (G.defer 5 mb).1 = if G.ins = [] then [5] else [] := by rw [hdf]; show gone (G.add 5 mb).q = _; rw [eg, haq]; simp
  have sf : Sf (G.defer 5 mb).2 mb G.ins := by rw [hdf]; exact sf
  refine cond_no ?_ ?_
  · rw [eg]
    by_cases e : G.ins = []
    · simp [e]
    · have : ¬ (G.ins.length : Int) = 0 := fun h => e (List.eq_nil_of_length_eq_zero (by omega))
      simp [e]
  obtain ⟨b, junk, hb, hbj, h14⟩ := hg14.ex
  refine ⟨⟨by omega, Int.le_refl _, by omega⟩, Sep.nw h14 fun iW H18 h18 => ?_⟩
  have hg18 : IsG H18 g m (G.defer 5 mb).2 (ArrA iW (List.replicate 8 false) :: M) := ⟨b, junk, hb, hbj, Sep.pick h18 7 [1, 2, 3, 4, 5, 0] (by decide)⟩
  clear h14 h18 hg hg14 hb hbj b junk
  refine use_crossbarlaw09_GraceSafe_1 (fun k t11 H => ∃ (j : Nat) (W : List Bool), j ≤ 8 ∧ k = 8 - j ∧ t11 = (j : Int) ∧ W.length = 8 ∧ (∀ i : Nat, i < j → W.getD i false = bitB mask i) ∧ IsG H g m (G.defer 5 mb).2 (ArrA iW W :: M)) 8 ⟨0, _, by omega, rfl, rfl, by simp, fun i hi => by omega, hg18⟩ ?_
  clear hg18
  rintro k t11 ys H5 ⟨j, W, hj, rfl, rfl, hWl, hW, hg5⟩
  refine cond_of (fun h1 => ?_) fun h1 => ?_
  · have hj' : j < 8 := by simp only [decide_eq_true_eq] at h1; omega
    obtain ⟨b, junk, hb, hbj, h5⟩ := hg5.ex
    refine ⟨hnn j (by omega), by unfold nz; omega, by unfold inB; omega, Sep.st5 h5 (by simp only [List.length_map, List.length_cons, List.length_nil]; omega) fun H6 h6 => ?_⟩
    rw [setAt_bools, Nat.zero_add, Nat.mul_one, Int.toNat_natCast] at h6
    refine ⟨8 - (j + 1), by omega, j + 1, _, by omega, rfl, hw1 j hj, by simpa using hWl, fun i hi => ?_, b, junk, hb, hbj, h6⟩
    rw [List.getD_eq_getElem?_getD, List.getElem?_set]
    by_cases e : j = i
    · subst e; rw [if_pos rfl, if_pos (by omega)]; rfl
    · rw [if_neg e, ← List.getD_eq_getElem?_getD]; exact hW i (by omega)
  obtain rfl : j = 8 := by simp only [decide_eq_false_iff_not] at h1; omega
  have wa0 : Wa W G.ins := ⟨hWl, fun i hi => by
    rw [hW i hi, Bool.eq_iff_iff, decide_eq_true_eq, hbit i hi]
    exact ⟨fun h => ⟨hi, h⟩, fun h => h.2⟩⟩
  refine use_crossbarlaw09_GraceSafe_2 (fun k t4 t7 t12 H => ∃ (j : Nat) (G : Gr) (W : List Bool) (ws : List Int), j ≤ l.length ∧ k = l.length - j ∧ t12 = (j : Int) ∧ t7 = (ws.length : Int) ∧ ws.length ≤ 8 ∧ Sf G mb ws ∧ Wa W ws ∧ IsG H g m G (ArrA iW W :: M)) l.length ⟨0, _, W, G.ins, by omega, rfl, rfl, rfl, hil, sf, wa0, hg5⟩ ?_
  clear hg5
  rintro k t4 t7 t12 ys H6 ⟨j, G, W, ws, hj, rfl, rfl, rfl, hwl, sf, wa, hg⟩
  refine cond_of (fun h1 => ?_) fun h1 => asBool_in (CA_truth (by kernel_rfl) ⟨_, rfl, rfl⟩)
  refine cond_of (fun h2 => ?_) fun h2 => asBool_in (CA_truth (by kernel_rfl) ⟨_, rfl, rfl⟩)
  have hj2 : j < l.length := by simp only [decide_eq_true_eq] at h1; omega
  have hj100 : (j : Int) < 100 := by simpa using h2
  have hjn : IntKind.i64.wrap ((j : Int) + 1) = ((j + 1 : Nat) : Int) := by rw [wrap_i64 (by omega)]; omega
  have hWl := wa.len
  have hql : G.q.length < 100000 := by rw [sf.q]; split <;> simp
  obtain ⟨b, junk, hb, hbj, h3⟩ := hg.ex
  have hMs : ∀ A' ∈ M, A' ∈ GS g m b junk G (ArrA iW W :: M) := fun A' h => by simp [h]
  obtain ⟨q, rfl, e0, e1⟩ := rda_arg ha hMs H6 h3 j l[j] (by simp)
  have hib : inB (j : Int) l.length := by unfold inB; omega
  refine ⟨hib, asRow_in ⟨_, e1, Pick_ok (by decide) (by decide) ⟨_, rfl, hib, asRow_in ⟨_, e0, by unfold nz; omega, ?_⟩⟩⟩⟩
  have hp : 0 ≤ (l[j]).2 % 8 ∧ (l[j]).2 % 8 < 8 := by omega
  generalize (l[j]).2 % 8 = p at hp
  obtain ⟨p, rfl⟩ := Int.eq_ofNat_of_zero_le hp.1
  have hp8 : p < 8 := by omega
  have hip : inB (p : Int) 8 := by unfold inB; omega
  have hWp : (W.map Value.bool)[0 + (p : Int).toNat * 1]? = some (.bool (W.getD p false)) := by rw [Nat.zero_add, Nat.mul_one]; exact bools_at (by omega)
  have hWe := wa.iff' p hp8
  refine cond_of (fun h4 => ?_) fun h4 => ?_
  · refine enter_s hg fun H11 hg11 => ⟨_, rfl, ?_⟩
    obtain ⟨sf', hen⟩ := sf.enter p
    obtain ⟨b', junk', hb', hbj', h11⟩ := hg11.ex
    refine cond_of (fun h5 => ⟨hip, _, Sep.ld5 h11 hWp, cond_no ?_ ⟨l.length - (j + 1), by omega, j + 1, _, W, ws, by omega, rfl, hjn, rfl, hwl, sf', wa, hg11⟩⟩) fun h5 => ⟨l.length - (j + 1), by omega, j + 1, _, W, ws, by omega, rfl, hjn, rfl, hwl, sf', wa, hg11⟩
    rw [hWe, decide_eq_false (hen h5)]
  · refine inside_s hg ⟨_, rfl, leave_s hg hql fun H20 f hf hg20 => ⟨_, _, rfl, ?_⟩⟩
    obtain ⟨sf', hlv⟩ := sf.leave p
    obtain ⟨b', junk', hb', hbj', h20⟩ := hg20.ex
    have hin : (decide ((p : Int) ∈ G.ins) && W.getD p false) = decide ((p : Int) ∈ ws) := by
      rw [hWe]
      by_cases e : (p : Int) ∈ ws
      · rw [decide_eq_true e, decide_eq_true (sf.sub _ e)]; rfl
      · rw [decide_eq_false e, Bool.and_false]
    refine ⟨fun vs H' => vs = [.bool (decide ((p : Int) ∈ ws) && ((ws.length : Int) == 1))] ∧ H' = H20, ?_, ?_⟩
    · refine cond_of (fun h5 => ⟨hip, _, Sep.ld6 h20 hWp, cond_of (fun h6 => ⟨?_, rfl⟩) fun h6 => ⟨?_, rfl⟩⟩) fun h5 => ⟨?_, rfl⟩
      · rw [← hin, h5, h6]; rfl
      · rw [← hin, h6]; simp
      · rw [← hin, h5]; rfl
    · rintro ys25 H26 b27 ⟨e, rfl⟩
      simp only [List.cons.injEq, Value.bool.injEq, and_true] at e
      subst e
      refine ⟨fun vs H' => ∃ W', vs = [I ((ws.erase (p : Int)).length : Int)] ∧ Wa W' (ws.erase (p : Int)) ∧ IsG H' g m (G.leave p).2 (gl 1 f (ints (G.leave p).1) :: ArrA iW W' :: M), ?_, ?_⟩
      · have hno : (p : Int) ∉ ws → ws.erase (p : Int) = ws := fun h => List.erase_of_not_mem h
        refine cond_of (fun h5 => ⟨hip, _, Sep.ld6 h20 hWp, cond_of (fun h6 => ⟨hip, Sep.st6 h20 (by simp only [List.length_map, List.length_cons, List.length_nil]; omega) fun H30 h30 => ⟨_, ?_, wa.off sf.nd hp8, b', junk', hb', hbj', by rw [setAt_bools, Nat.zero_add, Nat.mul_one, Int.toNat_natCast] at h30; exact h30⟩⟩) fun h6 => ?_⟩) fun h5 => ?_
        · rw [hWe, decide_eq_true_eq] at h6
          rw [List.length_erase_of_mem h6, wrap_i64 (by omega)]
          have := List.length_pos_of_mem h6
          congr 2
          omega
        · have hm : (p : Int) ∉ ws := by rw [hWe, decide_eq_false_iff_not] at h6; exact h6
          rw [hno hm]
          exact ⟨W, rfl, wa, b', junk', hb', hbj', h20⟩
        · have hm : (p : Int) ∉ ws := fun h => by rw [decide_eq_false_iff_not] at h5; exact h5 (sf.sub _ h)
          rw [hno hm]
          exact ⟨W, rfl, wa, b', junk', hb', hbj', h20⟩
      · rintro ys31 H32 n33 ⟨W', e, wa', hg32⟩
        simp only [List.cons.injEq, Value.int.injEq, true_and, and_true] at e
        subst e
        obtain ⟨b', junk', hb', hbj', h32⟩ := hg32.ex
        have hlast : (decide ((p : Int) ∈ ws) && ((ws.length : Int) == 1)) = decide ((p : Int) ∈ ws ∧ ws.erase (p : Int) = []) := by
          by_cases e : (p : Int) ∈ ws
          · have hl := List.length_erase_of_mem e
            have := List.length_pos_of_mem e
            rw [decide_eq_true e, Bool.true_and, Bool.eq_iff_iff, decide_eq_true_eq, beq_iff_eq]
            constructor
            · intro h; exact ⟨e, List.eq_nil_of_length_eq_zero (by omega)⟩
            · intro h; rw [h.2] at hl; simp at hl; omega
          · rw [decide_eq_false e, decide_eq_false fun h => e h.1]; rfl
        have hend : ∀ H', IsG H' g m (G.leave p).2 (gl 1 f (ints (G.leave p).1) :: ArrA iW W' :: M) → ∃ k40, k40 < l.length - j ∧ ∃ (j_1 : Nat) (G_1 : Gr) (W : List Bool) (ws_1 : List Int), j_1 ≤ l.length ∧ k40 = l.length - j_1 ∧ IntKind.i64.wrap ((j : Int) + 1) = (j_1 : Int) ∧ ((ws.erase (p : Int)).length : Int) = (ws_1.length : Int) ∧ ws_1.length ≤ 8 ∧ Sf G_1 mb ws_1 ∧ Wa W ws_1 ∧ IsG H' g m G_1 (ArrA iW W :: M) := fun H' hg' => by
          obtain ⟨b', junk', hb', hbj', h'⟩ := hg'.ex
          exact ⟨l.length - (j + 1), by omega, j + 1, _, W', _, by omega, rfl, hjn, rfl, Nat.le_trans (List.length_erase_le) hwl, sf', wa', b', junk', hb', hbj', h'.rm5⟩
        have hsz : ((((G.leave p).2.S.size 5 : Nat) : Int) == 0) = (((ws.erase (p : Int)).length : Int) == 0) := by
          rw [Bool.eq_iff_iff, beq_iff_eq, beq_iff_eq]
          constructor
          · intro h; rw [sf'.sz.1 (by omega)]; rfl
          · intro h; have := sf'.sz.2 (List.eq_nil_of_length_eq_zero (by omega)); omega
        rw [hlast]
        by_cases hc : (p : Int) ∈ ws ∧ ws.erase (p : Int) = []
        · rw [if_pos hc] at hlv
          have hlen : (G.leave p).1.length = 1 := by rw [hlv]; rfl
          cases f with
          | none => rw [hf rfl] at hlv; cases hlv
          | some f =>
            have hgf : H32.get f = some (.cells true 1 (ints (G.leave p).1)) := gl_get (Sep.up5 h32)
            rw [hlen]
            refine cond_yes rfl ⟨by unfold inB; omega, asRow_in ⟨5, ?_, cond_no ?_ (size_s (Sep.up4 h32) ⟨_, rfl, cond_no ?_ (hend _ hg32)⟩)⟩⟩
            · rw [cell_of hgf, hlv]; rfl
            · rw [decide_eq_true hc]; rfl
            · rw [hsz]; simp
        · rw [if_neg hc] at hlv
          have hlen : (G.leave p).1.length = 0 := by rw [hlv]; rfl
          rw [hlen]
          refine cond_no rfl (cond_no ?_ (size_s (Sep.up4 h32) ⟨_, rfl, cond_no ?_ (hend _ hg32)⟩))
          · rw [decide_eq_false hc]; rfl
          · rw [hsz]; simp

theorem GraceSafe_law (H : Heap) (us : List Value) (h : shpVs en H 7 T.GraceSafe us) : CA en F.crossbarlaw09_GraceSafe us H fun v _ => v = .bool true := by
  obtain ⟨v0, u0, rfl, ⟨x, hx, _⟩, v, u, rfl, hA, rfl⟩ := args_GraceSafe h
  obtain rfl := (List.cons.inj hx).1
  clear h hx
  obtain ⟨a, n3, l, M, rfl, ha, hs⟩ := acts_arg ((SlArg.one (P := fun c => _) hA).imp id fun ⟨i, cs, h1, h2, h3, h4⟩ => ⟨i, cs, h1, h2, h3, fun c hc => act_cell (h4 c hc)⟩)
  exact GraceSafe_ok ha hs
end Go.Proofs.Ytdkbgjhlpoibdaa
