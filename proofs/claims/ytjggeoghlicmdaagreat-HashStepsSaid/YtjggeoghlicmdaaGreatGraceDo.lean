/-
  Regions that go when nobody can have them: sweep, Enter, Leave, Defer.
-/
import Derived.Test.YtjggeoghlicmdaaGreatGraceOps
namespace Go.Proofs.YtjggeoghlicmdaaGreat
open Go Go.AS Go.RowKit
set_option linter.unusedVariables false
variable {H H' : Heap} {R : Value → Heap → Prop} {L M : List Asr} {g m i1 i3 : Nat} {ks : List Int} {k a : Int} {S : Sm} {gc junk : List Value} {b : Option Nat} {G : Gr}

abbrev GS (g m : Nat) (b : Option Nat) (junk : List Value) (G : Gr) (L : List Asr) : List Asr :=
  bx g (.cells true 0 [P m, I G.n, .map (some G.mi), .slice (addr b) G.q.length 0]) :: im .i64 G.mi (kset G.ins) :: gl 2 b (rows G.q ++ junk) :: wm G.q :: mem m G.S :: L

structure IsG (H : Heap) (g m : Nat) (G : Gr) (L : List Asr) : Prop where
  ex : ∃ b junk, (b = none → G.q = []) ∧ (b = none → junk = []) ∧ Sep H (GS g m b junk G L)

def Gr.swept (G : Gr) : Gr := { G with q := kept G.q, S := frees G.S (gone G.q) }

theorem sweep_s (hg : IsG H g m G L) (hl : G.q.length < 100000) (hR : ∀ H' f, (f = none → gone G.q = []) → IsG H' g m G.swept (gl 1 f (ints (gone G.q)) :: L) → R (.slice (addr f) (gone G.q).length 0) H') : CA en F.grace_Grace_sweep [P g] H R := by
  obtain ⟨b, junk, hb, hbj, h⟩ := hg.ex
  apply vc_grace_Grace_sweep
  refine Sep.nw h fun i1 H2 h2 => Sep.nw h2 fun i3 H4 h4 => ?_
  have hB := h4.bump 10
  refine ⟨_, Sep.ld1 hB rfl, _, Sep.ld1 hB rfl, asAddr_in ⟨_, _, Sep.ld2 hB rfl, ?_⟩⟩
  have h5 : Sep (H4.bump 10) (bx i1 (.cells true 0 [P g]) :: bx i3 (.cells true 0 [.slice none 0 0]) :: gl 2 b (rows G.q ++ junk) :: wm G.q :: bx g (.cells true 0 (P m :: [I G.n, .map (some G.mi), .slice (addr b) G.q.length 0])) :: mem m G.S :: im .i64 G.mi (kset G.ins) :: L) := Sep.pick hB 7 [1, 0, 4, 5, 2, 6, 3] (by decide)
  refine delSw_s rfl h5 hb hbj (by omega) fun H12 f junk' hf hj h12 => ⟨_, _, rfl, asAddr_in (Sep.st5 h12 (Nat.le_of_ble_eq_true rfl) fun H17 h17 => ⟨⟨_, _, Sep.ld1 h17 rfl, Sep.st1 h17 (Nat.le_of_ble_eq_true rfl) fun H22 h22 => ⟨_, _, Sep.ld1 h22 rfl, ?_⟩⟩, ⟨⟨_, Sep.ld1 hB rfl, rfl⟩, ⟨_, Sep.ld0 h12 rfl, rfl⟩, trivial⟩, trivial⟩)⟩
  refine hR H22 f hf ⟨b, junk', fun e => ?_, hj, Sep.pick h22 8 [5, 7, 3, 4, 6, 2] (by decide)⟩
  show kept G.q = []
  rw [hb e]; rfl

theorem waits_s (hg : IsG H g m G L) (hR : R (I G.q.length) H) : CA en F.grace_Grace_Waits [P g] H R := by
  obtain ⟨b, junk, hb, hbj, h⟩ := hg.ex
  apply vc_grace_Grace_Waits
  exact asAddr_in ⟨_, _, Sep.ld0 h rfl, hR⟩

def Gr.enter (G : Gr) (a : Int) : Bool × Gr := if a < 0 ∨ G.n ≤ a ∨ a ∈ G.ins then (false, G) else (true, { G with ins := G.ins ++ [a] })
theorem enter_s (hg : IsG H g m G L) (hR : ∀ H', IsG H' g m (G.enter a).2 L → R (.bool (G.enter a).1) H') : CA en F.grace_Grace_Enter [P g, I a] H R := by
  obtain ⟨b, junk, hb, hbj, h⟩ := hg.ex
  apply vc_grace_Grace_Enter
  have no : (a < 0 ∨ G.n ≤ a ∨ a ∈ G.ins) → R (.bool false) H := fun hc => by
    have := hR H
    unfold Gr.enter at this
    rw [if_pos hc] at this
    exact this hg
  refine cond_of (fun c => no (.inl (by simpa using c))) fun c => asAddr_in ⟨_, Sep.ld0 h rfl, cond_of (fun d => no (.inr (.inl (by simpa using d)))) fun d => asAddr_in ⟨_, Sep.ld0 h rfl, inside_m (Sep.up1 h) a (cond_of (fun e => no (.inr (.inr (by simpa using e)))) fun e => asAddr_in ⟨_, Sep.ld0 h rfl, im_put (Sep.up1 h) fun H12 h12 => ?_⟩)⟩⟩
  have c : ¬ a < 0 := by simpa using c
  have d : ¬ G.n ≤ a := by simpa using d
  have e : a ∉ G.ins := by simpa using e
  have := hR H12
  unfold Gr.enter at this
  rw [if_neg (by simp only [not_or]; exact ⟨c, d, e⟩)] at this
  rw [kset_put e] at h12
  exact this ⟨b, junk, hb, hbj, Sep.up1 h12⟩

/-! ### Leave -/
def er (a : Int) (w : Wt) : Wt := { w with ws := w.ws.erase a }
theorem rows_er (a : Int) (q : List Wt) : rows (q.map (er a)) = rows q := by
  unfold rows; rw [List.map_map]; rfl
def Gr.left (G : Gr) (a : Int) : Gr := { G with ins := G.ins.erase a, q := G.q.map (er a) }
def Gr.leave (G : Gr) (a : Int) : List Int × Gr := if a ∈ G.ins then (gone (G.left a).q, (G.left a).swept) else ([], G)

theorem leave_s (hg : IsG H g m G L) (hl : G.q.length < 100000) (hR : ∀ H' f, (f = none → (G.leave a).1 = []) → IsG H' g m (G.leave a).2 (gl 1 f (ints (G.leave a).1) :: L) → R (.slice (addr f) (G.leave a).1.length 0) H') : CA en F.grace_Grace_Leave [P g, I a] H R := by
  obtain ⟨b, junk, hb, hbj, h⟩ := hg.ex
  apply vc_grace_Grace_Leave
  refine asAddr_in ⟨_, Sep.ld0 h rfl, inside_m (Sep.up1 h) a (cond_of (fun c => ?_) fun c => ?_)⟩
  · have c : a ∉ G.ins := by simpa using c
    have := hR H none
    unfold Gr.leave at this
    rw [if_neg c] at this
    refine this (fun _ => rfl) ⟨b, junk, hb, hbj, ?_⟩
    exact Sep.pick (gl_none.2 h : Sep H (gl 1 none (ints []) :: GS g m b junk G L)) 6 [1, 2, 3, 4, 5, 0] (by decide)
  · have c : a ∈ G.ins := by simpa using c
    refine asAddr_in ⟨_, Sep.ld0 h rfl, im_del (Sep.up1 h) fun H9 h9 => ?_⟩
    rw [kset_del] at h9
    have h9 : Sep H9 (bx g (.cells true 0 [P m, I G.n, .map (some G.mi), .slice (addr b) G.q.length 0]) :: im .i64 G.mi (kset (G.ins.erase a)) :: gl 2 b (rows G.q ++ junk) :: wm G.q :: mem m G.S :: L) := Sep.up1 h9
    refine asAddr_in ⟨_, _, Sep.ld0 h9 rfl, ?_⟩
    refine use_grace_Grace_Leave_0 (fun k t24 H => ∃ j : Nat, j ≤ G.q.length ∧ k = G.q.length - j ∧ t24 = (j : Int) ∧ Sep H (bx g (.cells true 0 [P m, I G.n, .map (some G.mi), .slice (addr b) G.q.length 0]) :: im .i64 G.mi (kset (G.ins.erase a)) :: gl 2 b (rows G.q ++ junk) :: wm ((G.q.take j).map (er a) ++ G.q.drop j) :: mem m G.S :: L)) G.q.length ⟨0, by omega, rfl, rfl, by simpa using h9⟩ ?_
    clear h h9
    rintro k t24 ys H3 ⟨j, hj, rfl, rfl, hs⟩
    refine cond_of (fun h1 => ?_) fun h1 => ?_
    · have hj' : j < G.q.length := by simp only [decide_eq_true_eq] at h1; omega
      obtain ⟨w, hw⟩ : ∃ w, G.q[j]? = some w := ⟨_, List.getElem?_eq_getElem hj'⟩
      cases b with
      | none => rw [hb rfl] at hj'; simp at hj'
      | some b =>
        have hgb : H3.get b = some (.cells true 2 (rows G.q ++ junk)) := gl_get (Sep.up2 hs)
        have hrow := row_at (junk := junk) (j := j) (w := w) hgb (by rw [List.drop_append_of_le_length (by rw [rows_len]; omega), rows_drop]) (by rw [List.length_append, rows_len]; omega) hw
        have hlt : ((G.q.take j).map (er a)).length = j := by rw [List.length_map, List.length_take]; omega
        have hw' : ((G.q.take j).map (er a) ++ G.q.drop j)[j]? = some w := by
          rw [List.getElem?_append_right (by omega), hlt, Nat.sub_self, List.getElem?_drop, Nat.add_zero]; exact hw
        refine ⟨by unfold inB; omega, asRow_in ⟨_, _, hrow, Sep.nw hs fun i5 H6 h6 => Sep.st0 h6 (Nat.le_of_ble_eq_true rfl) fun H7 h7 => ⟨_, Sep.ld0 h7 rfl, ?_⟩⟩⟩
        have h8 := (wm_out hw').1 (Sep.up4 h7)
        refine im_del h8 fun H9 h9 => ⟨G.q.length - (j + 1), by omega, j + 1, by omega, rfl, ?_, ?_⟩
        · rw [wrap_i64 (by omega)]; omega
        · rw [kset_del] at h9
          have h10 := (wm_set (w' := er a w) hw').2 h9
          have e : ((G.q.take j).map (er a) ++ G.q.drop j).set j (er a w) = (G.q.take (j + 1)).map (er a) ++ G.q.drop (j + 1) := by
            obtain ⟨hl2, hg2⟩ := List.getElem?_eq_some_iff.1 hw
            rw [List.set_append_right _ _ (by omega), hlt, Nat.sub_self, List.drop_eq_getElem_cons hl2, List.set_cons_zero, take_drop_cons hw, List.map_append, List.append_assoc]
            rfl
          rw [e] at h10
          exact Sep.pick h10 6 [2, 3, 4, 0, 5] (by decide)
    · obtain rfl : j = G.q.length := by simp only [decide_eq_false_iff_not] at h1; omega
      rw [List.take_length, List.drop_length, List.append_nil] at hs
      have hL : IsG H3 g m (G.left a) L := ⟨b, junk, fun e => by show G.q.map _ = []; rw [hb e]; rfl, hbj, by
        show Sep H3 (bx g (.cells true 0 [P m, I G.n, .map (some G.mi), .slice (addr b) (G.q.map (er a)).length 0]) :: im .i64 G.mi (kset (G.ins.erase a)) :: gl 2 b (rows (G.q.map (er a)) ++ junk) :: wm (G.q.map (er a)) :: mem m G.S :: L)
        rw [rows_er, List.length_map]
        exact hs⟩
      have hlv : G.leave a = (gone (G.left a).q, (G.left a).swept) := if_pos c
      rw [hlv] at hR
      refine sweep_s hL (by show (G.q.map (er a)).length < _; rw [List.length_map]; exact hl) fun H17 f hf h17 => ⟨_, _, rfl, hR H17 f hf h17⟩

/-! ### Defer -/
theorem def1_s {w : Wt} {h : Int} (hs : Sep H (bx i1 (.cells true 0 [I h]) :: L)) (hR : ∀ H', Sep H' (bx i1 (.cells true 0 [I h]) :: L) → R (.bool (w.h == h)) H') : CA en F.grace_Grace_Defer_1 [.agg #[I w.h, .map (some w.mb)], P i1] H R := by
  apply vc_grace_Grace_Defer_1
  exact Sep.nw hs fun i H2 h2 => ⟨_, Sep.ld0 h2 rfl, asAddr_in ⟨_, Sep.ld1 h2 rfl, hR _ h2.tail⟩⟩

theorem hasDef_s {q : List Wt} {n : Nat} {h : Int} (hn : n = q.length) (hs : Sep H (bx i1 (.cells true 0 [I h]) :: gl 2 b (rows q ++ junk) :: L)) (hb : b = none → q = []) (hl : q.length < 1000000)
    (hR : ∀ H', Sep H' (bx i1 (.cells true 0 [I h]) :: gl 2 b (rows q ++ junk) :: L) → R (.bool (decide (h ∈ q.map Wt.h))) H') :
    CA en F.slices_ContainsFunc_grace_wait_grace_wait [.slice (addr b) n 0, .func (.func F.grace_Grace_Defer_1) #[] #[P i1]] H R := by
  subst hn
  apply vc_slices_ContainsFunc_grace_wait_grace_wait
  apply vc_slices_IndexFunc_grace_wait_grace_wait
  refine use_slices_IndexFunc_grace_wait_grace_wait_0 (fun k t4 t8 H => ∃ j : Nat, j ≤ q.length ∧ k = q.length - j ∧ t8 = (j : Int) ∧ (∀ u ∈ q.take j, u.h ≠ h) ∧ Sep H (bx i1 (.cells true 0 [I h]) :: gl 2 b (rows q ++ junk) :: L)) q.length ⟨0, by omega, rfl, rfl, by simp, hs⟩ ?_
  clear hs
  rintro k t4 t8 ys H3 ⟨j, hj, rfl, rfl, hall, hs⟩
  refine cond_of (fun h1 => ?_) fun h1 => ?_
  · have hj' : j < q.length := by simp only [decide_eq_true_eq] at h1; omega
    obtain ⟨w, hw⟩ : ∃ w, q[j]? = some w := ⟨_, List.getElem?_eq_getElem hj'⟩
    cases b with
    | none => rw [hb rfl] at hj'; simp at hj'
    | some b =>
      have hg : H3.get b = some (.cells true 2 (rows q ++ junk)) := gl_get (Sep.up1 hs)
      have hrow := row_at (junk := junk) (j := j) (w := w) hg (by rw [List.drop_append_of_le_length (by rw [rows_len]; omega), rows_drop]) (by rw [List.length_append, rows_len]; omega) hw
      refine ⟨by unfold inB; omega, asRow_in ⟨_, _, hrow, asFn_in ⟨Option.isSome_iff_exists.1 (by kernel_rfl), def1_s hs fun H9 h9 => ⟨_, rfl, cond_of (fun e => ?_) fun e => ?_⟩⟩⟩⟩
      · have e : w.h = h := by simpa using e
        refine asInt_in ⟨_, rfl, ?_⟩
        have := hR H9 h9
        rw [decide_eq_true (List.mem_map.2 ⟨w, List.mem_of_getElem? hw, e⟩)] at this
        have e2 : decide (((j : Nat) : Int) ≥ 0) = true := by simp
        rw [e2]; exact this
      · have e : ¬ w.h = h := by simpa using e
        refine ⟨q.length - (j + 1), by omega, j + 1, by omega, rfl, ?_, ?_, h9⟩
        · rw [wrap_i64 (by omega)]; omega
        · rw [take_drop_cons hw]
          intro u hu
          rcases List.mem_append.1 hu with hu | hu
          · exact hall u hu
          · simp at hu; subst hu; exact e
  · obtain rfl : j = q.length := by simp only [decide_eq_false_iff_not] at h1; omega
    rw [List.take_length] at hall
    refine asInt_in ⟨_, rfl, ?_⟩
    have := hR H3 hs
    rw [decide_eq_false (fun hc => by obtain ⟨w, hw, e⟩ := List.mem_map.1 hc; exact hall w hw e)] at this
    exact this

theorem im_clone {ik : IntKind} {b : Nat} {l : KV} (h : Sep H (im ik b l :: L)) {K : Nat → Heap → Prop} (hK : ∀ b' H', Sep H' (im ik b' l :: im ik b l :: L) → K b' H') : clM H (some b) K := by
  obtain ⟨es, c, h1, h2⟩ := h.head
  refine ⟨b, es, c, rfl, h1, Sep.nw h fun b' H' h' => hK b' H' ?_⟩
  have h3 : H'.get b' = some (.map es c) := Sep.get0 h'
  exact h'.upd (S := []) (Frm.refl _ _) (by simp) ⟨es, c, h3, h2⟩ (by simp [im, bx]) (by simp [im]) (by
    intro j hj
    simp only [im, List.mem_singleton] at hj
    subst hj
    exact h'.footlt (by simp [bx]))

def Gr.add (G : Gr) (h : Int) (mb : Nat) : Gr := { G with q := G.q ++ [⟨h, mb, G.ins⟩] }
def Gr.defer (G : Gr) (h : Int) (mb : Nat) : List Int × Gr := if G.S.size h = 0 ∨ h ∈ G.q.map Wt.h then ([], G) else (gone (G.add h mb).q, (G.add h mb).swept)

theorem defer_s {h : Int} (hg : IsG H g m G L) (hl : G.q.length < 10000) (hR : ∀ H' f mb, (f = none → (G.defer h mb).1 = []) → IsG H' g m (G.defer h mb).2 (gl 1 f (ints (G.defer h mb).1) :: L) → R (.slice (addr f) (G.defer h mb).1.length 0) H') : CA en F.grace_Grace_Defer [P g, I h] H R := by
  obtain ⟨b, junk, hb, hbj, hs⟩ := hg.ex
  apply vc_grace_Grace_Defer
  have no : ∀ H', (G.S.size h = 0 ∨ h ∈ G.q.map Wt.h) → Sep H' (GS g m b junk G L) → R (.slice none 0 0) H' := fun H' hc h' => by
    have := hR H' none 0
    unfold Gr.defer at this
    rw [if_pos hc] at this
    refine this (fun _ => rfl) ⟨b, junk, hb, hbj, ?_⟩
    exact Sep.pick (gl_none.2 h' : Sep H' (gl 1 none (ints []) :: GS g m b junk G L)) 6 [1, 2, 3, 4, 5, 0] (by decide)
  refine Sep.nw hs fun i1 H2 h2 => ?_
  have hB := h2.bump 15
  refine asAddr_in ⟨_, Sep.ld1 hB rfl, _, Sep.ld0 hB rfl, ?_⟩
  refine size_s (Sep.up5 hB) ⟨_, rfl, cond_of (fun c => ⟨no _ (.inl (by simpa using c)) hB.tail, trivial⟩) fun c => ?_⟩
  have c : G.S.size h ≠ 0 := by intro e; rw [e] at c; simp at c
  refine asAddr_in ⟨_, _, Sep.ld1 hB rfl, ?_⟩
  have h3 : Sep (H2.bump 15) (bx i1 (.cells true 0 [I h]) :: gl 2 b (rows G.q ++ junk) :: bx g (.cells true 0 [P m, I G.n, .map (some G.mi), .slice (addr b) G.q.length 0]) :: im .i64 G.mi (kset G.ins) :: wm G.q :: mem m G.S :: L) := Sep.pick hB 6 [0, 3, 1, 2, 4, 5] (by decide)
  refine hasDef_s rfl h3 hb (by omega) fun H15 h15 => ⟨_, rfl, ⟨cond_of (fun d => ?_) fun d => ?_, trivial⟩⟩
  · exact no _ (.inr (by simpa using d)) (Sep.pick h15 6 [2, 3, 1, 4, 5] (by decide))
  · have d : h ∉ G.q.map Wt.h := by simpa using d
    have h16 := h15.bump 17
    refine asAddr_in ⟨_, _, Sep.ld2 h16 rfl, _, Sep.ld0 h16 rfl, asAddr_in ⟨_, Sep.ld2 h16 rfl, ?_⟩⟩
    apply vc_maps_Clone_map_intbool_int_bool
    refine cond_no rfl (im_clone (Sep.up3 h16) fun mb H26 h26 => ⟨_, rfl, Sep.nw h26 fun i28 H29 h29 => ⟨[I h, .map (some mb)], rowOf_bx (es := 2) (n := 1) (b := i28) (Sep.get0 h29) (by decide) rfl, ?_⟩⟩)
    -- i28 mb im i1 gl g wm mem
    have hrl := rows_len G.q
    refine apd_pre' (b := b) (es := 2) (len := G.q.length) (n := 1) (tc := rows G.q ++ junk) (new := [I h, .map (some mb)]) (Sep.up4 h29) (fun e => by rw [hb e]; rfl) (by decide) (by rw [List.length_append, hrl]; omega) (by decide) rfl (by omega) fun H33 b' tc' e1 e2 h33 => ?_
    have e0 : (rows G.q ++ junk).take (G.q.length * 2) = rows G.q := by
      rw [List.take_append_of_le_length (by omega)]; exact List.take_of_length_le (by omega)
    rw [e0] at e1
    have h34 : Sep H33 (bx g (.cells true 0 [P m, I G.n, .map (some G.mi), .slice (addr b) G.q.length 0]) :: im .i64 G.mi (kset G.ins) :: gl 2 (some b') tc' :: wA ⟨h, mb, G.ins⟩ :: wm G.q :: mem m G.S :: L) := Sep.pick h33 8 [5, 3, 0, 2, 6, 7] (by decide)
    refine asAddr_in (Sep.st0 h34 (Nat.le_of_ble_eq_true rfl) fun H36 h36 => ⟨?_, ⟨⟨_, Sep.ld0 h16 rfl, rfl⟩, ⟨_, Sep.ld2 h26 rfl, rfl⟩, trivial⟩, ⟨⟨_, _, Sep.ld2 h16 rfl, rfl, rfl, rfl⟩, ⟨_, _, Sep.ld4 h26 rfl, rfl, rfl, rfl⟩, ⟨_, _, Sep.ld5 h29 rfl, rfl, rfl, rfl⟩, trivial⟩, trivial⟩)
    have h37 := wm_snoc (Sep.pick h36 6 [3, 4, 0, 1, 2, 5] (by decide) : Sep H36 (wA ⟨h, mb, G.ins⟩ :: wm G.q :: bx g (.cells true 0 [P m, I G.n, .map (some G.mi), .slice (addr (some b')) (G.q.length + 1) 0]) :: im .i64 G.mi (kset G.ins) :: gl 2 (some b') tc' :: mem m G.S :: L))
    obtain ⟨J, hJ⟩ : ∃ J, tc' = rows (G.q ++ [⟨h, mb, G.ins⟩]) ++ J := ⟨tc'.drop ((G.q.length + 1) * 2), by
      rw [rows_append]
      have : rows [⟨h, mb, G.ins⟩] = [I h, .map (some mb)] := rfl
      rw [this, ← e1, List.take_append_drop]⟩
    rw [hJ] at h37
    have hlen : (G.q ++ [(⟨h, mb, G.ins⟩ : Wt)]).length = G.q.length + 1 := by simp
    have hA : IsG H36 g m (G.add h mb) L := ⟨some b', J, (fun h => by cases h), (fun h => by cases h), by
      show Sep H36 (bx g (.cells true 0 [P m, I G.n, .map (some G.mi), .slice (addr (some b')) (G.q ++ [(⟨h, mb, G.ins⟩ : Wt)]).length 0]) :: im .i64 G.mi (kset G.ins) :: gl 2 (some b') (rows (G.q ++ [(⟨h, mb, G.ins⟩ : Wt)]) ++ J) :: wm (G.q ++ [(⟨h, mb, G.ins⟩ : Wt)]) :: mem m G.S :: L)
      rw [hlen]
      exact Sep.pick h37 5 [1, 2, 3, 0, 4] (by decide)⟩
    have hdf : G.defer h mb = (gone (G.add h mb).q, (G.add h mb).swept) := if_neg (by simp only [not_or]; exact ⟨c, d⟩)
    refine sweep_s hA (by show (G.q ++ [(⟨h, mb, G.ins⟩ : Wt)]).length < _; rw [hlen]; omega) fun H46 f hf h46 => ⟨_, _, rfl, ?_⟩
    have := hR H46 f mb
    rw [hdf] at this
    exact this hf h46
end Go.Proofs.YtjggeoghlicmdaaGreat
