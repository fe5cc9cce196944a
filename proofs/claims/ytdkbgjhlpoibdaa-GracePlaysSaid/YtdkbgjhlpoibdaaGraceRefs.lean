/-
  The document's answer for layer 9: Leave, Defer, New; lists of numbers that are compared and spoilt.
-/
import Derived.Test.YtdkbgjhlpoibdaaGraceRef
namespace Go.Proofs.Ytdkbgjhlpoibdaa
open Go Go.AS Go.RowKit
set_option linter.unusedVariables false
variable {H H' : Heap} {R : Value → Heap → Prop} {L M : List Asr} {y es : Nat} {k a h : Int} {b : Option Nat} {cs vs : List Value} {D : Dd}

def dr (a : Int) (r : Dr) : Dr := { r with Fo := r.Fo.set a.toNat false }
theorem row_dr (a : Int) (r : Dr) : (dr a r).row = r.row := by
  show [I r.h, .slice (addr r.b) (r.Fo.set a.toNat false).length 0] = _
  rw [List.length_set]
theorem drows_dr (a : Int) (q : List Dr) : drows (q.map (dr a)) = drows q := by
  unfold drows
  rw [List.map_map]
  congr 2
  funext r
  exact row_dr a r
def Dd.left (D : Dd) (a : Int) : Dd := { D with In := D.In.set a.toNat false, rs := D.rs.map (dr a) }
def Dd.leave (D : Dd) (a : Int) : List Int × Dd := if D.has a then (dgone (D.left a).rs, (D.left a).swept) else ([], D)

theorem dleave_s (hd : IsD H y D L) (hl : D.rs.length < 100000) (hh : ∀ r ∈ D.rs, 1 ≤ r.h ∧ r.h ≤ D.Live.length) (hl2 : D.Live.length < 100000) (hFl : ∀ r ∈ D.rs, r.Fo.length = D.In.length) (hIl : D.In.length < 100000)
    (hR : ∀ H' f, (f = none → (D.leave a).1 = []) → IsD H' y (D.leave a).2 (gl 1 f (ints (D.leave a).1) :: L) → R (.slice (addr f) (D.leave a).1.length 0) H') : CA en F.crossbarref09_Grace_Leave [P y, I a] H R := by
  apply vc_crossbarref09_Grace_Leave
  refine dinside_s hd ⟨_, rfl, cond_of (fun c => ?_) fun c => ?_⟩
  · have c : D.has a = false := by simpa using c
    have := hR H none
    unfold Dd.leave at this
    rw [c] at this
    obtain ⟨bI, bL, bV, nI, nL, nV, nr, h⟩ := hd.ex
    exact this (fun _ => rfl) ⟨bI, bL, bV, nI, nL, nV, nr, Sep.pick (gl_none.2 h : Sep H (gl 1 none (ints []) :: DS y bI bL bV D L)) 6 [1, 2, 3, 4, 5, 0] (by decide)⟩
  have c : D.has a = true := by simpa using c
  have hlv : D.leave a = (dgone (D.left a).rs, (D.left a).swept) := if_pos c
  rw [hlv] at hR
  unfold Dd.has at c
  simp only [Bool.and_eq_true, decide_eq_true_eq] at c
  obtain ⟨⟨c1, c2⟩, c3⟩ := c
  obtain ⟨bI, bL, bV, nI, nL, nV, nr, h⟩ := hd.ex
  have ib : inB a D.In.length := by unfold inB; omega
  refine asAddr_in ⟨_, _, Sep.ld0 h rfl, ib, ?_⟩
  rw [Nat.mul_one]
  refine gl_st' (Sep.up1 h) (nb nI) (o := a.toNat) (vs := [.bool false]) (by simp; omega) (by simp) fun i8 H10 h10 => ?_
  rw [setAt_bools] at h10
  have h11 : Sep H10 (bx y (.cells true 0 [.slice (addr bI) D.In.length 0, .slice (addr bL) D.rs.length 0, .slice (addr bV) D.Live.length 0]) :: gl 1 bI (bools (D.In.set a.toNat false)) :: gl 2 bL (drows D.rs) :: gl 1 bV (bools D.Live) :: dm ((D.rs.take 0).map (dr a) ++ D.rs.drop 0) :: L) := Sep.up1 h10
  refine use_crossbarref09_Grace_Leave_0 (fun k t5 H => ∃ j : Nat, j ≤ D.rs.length ∧ k = D.rs.length - j ∧ t5 = (j : Int) ∧ Sep H (bx y (.cells true 0 [.slice (addr bI) D.In.length 0, .slice (addr bL) D.rs.length 0, .slice (addr bV) D.Live.length 0]) :: gl 1 bI (bools (D.In.set a.toNat false)) :: gl 2 bL (drows D.rs) :: gl 1 bV (bools D.Live) :: dm ((D.rs.take j).map (dr a) ++ D.rs.drop j) :: L)) D.rs.length ⟨0, by omega, rfl, rfl, h11⟩ ?_
  clear h h10 h11
  rintro k t5 ys H3 ⟨j, hj, rfl, rfl, hs⟩
  refine asAddr_in ⟨_, _, Sep.ld0 hs rfl, cond_of (fun h1 => ?_) fun h1 => ?_⟩
  · have hj' : j < D.rs.length := by simp only [decide_eq_true_eq] at h1; omega
    obtain ⟨r, hr⟩ : ∃ r, D.rs[j]? = some r := ⟨_, List.getElem?_eq_getElem hj'⟩
    have hm := List.mem_of_getElem? hr
    have cF : (drows D.rs)[j * 2 + 1]? = some (.slice (addr r.b) r.Fo.length 0) := (drow_cell hr (by decide)).trans rfl
    have hlt : ((D.rs.take j).map (dr a)).length = j := by rw [List.length_map, List.length_take]; omega
    have hr' : ((D.rs.take j).map (dr a) ++ D.rs.drop j)[j]? = some r := by
      rw [List.getElem?_append_right (by omega), hlt, Nat.sub_self, List.getElem?_drop, Nat.add_zero]; exact hr
    have hFr := hFl r hm
    refine asAddr_in ⟨_, _, Sep.ld0 hs rfl, by unfold inB; omega, gl_ld (Sep.up2 hs) (nd nL) cF fun i1 e1 => ⟨_, _, (by rw [Int.toNat_natCast, Nat.add_assoc]; exact e1), by unfold inB; omega, ?_⟩⟩
    have hF := (many_out (f := dA) hr').1 (Sep.up4 hs)
    rw [Nat.mul_one]
    refine gl_st hF (nb (nr r hm)) (by simp; omega) (by simp) fun H15 h15 => ⟨D.rs.length - (j + 1), by omega, j + 1, by omega, rfl, by rw [wrap_i64 (by omega)]; omega, ?_⟩
    rw [setAt_bools] at h15
    have h16 : Sep H15 (dA (dr a r) :: _) := h15
    have h17 := (many_set (w' := dr a r) hr').2 h16
    have e : ((D.rs.take j).map (dr a) ++ D.rs.drop j).set j (dr a r) = (D.rs.take (j + 1)).map (dr a) ++ D.rs.drop (j + 1) := by
      obtain ⟨hl2, hg2⟩ := List.getElem?_eq_some_iff.1 hr
      rw [List.set_append_right _ _ (by omega), hlt, Nat.sub_self, List.drop_eq_getElem_cons hl2, List.set_cons_zero, take_snoc' hr, List.map_append, List.append_assoc]
      rfl
    rw [e] at h17
    exact Sep.pick h17 5 [1, 2, 3, 4, 0] (by decide)
  · obtain rfl : j = D.rs.length := by simp only [decide_eq_false_iff_not] at h1; omega
    rw [List.take_length, List.drop_length, List.append_nil] at hs
    have hL : IsD H3 y (D.left a) L := by
      refine ⟨bI, bL, bV, fun e => by show D.In.set _ _ = []; rw [nI e]; rfl, fun e => by show D.rs.map _ = []; rw [nL e]; rfl, nV, fun r hr e => ?_, ?_⟩
      · obtain ⟨u, hu, rfl⟩ := List.mem_map.1 hr
        show u.Fo.set _ _ = []
        rw [nr u hu e]; rfl
      · show Sep H3 (bx y (.cells true 0 [.slice (addr bI) (D.In.set a.toNat false).length 0, .slice (addr bL) (D.rs.map (dr a)).length 0, .slice (addr bV) D.Live.length 0]) :: gl 1 bI (bools (D.In.set a.toNat false)) :: gl 2 bL (drows (D.rs.map (dr a))) :: gl 1 bV (bools D.Live) :: dm (D.rs.map (dr a)) :: L)
        rw [List.length_set, List.length_map, drows_dr]
        exact hs
    refine dswept_s hL (by show (D.rs.map (dr a)).length < _; rw [List.length_map]; exact hl) (fun r hr => ?_) hl2 (fun r hr => ?_) fun H17 f hf h17 => ⟨_, _, rfl, hR H17 f hf h17⟩
    · obtain ⟨u, hu, rfl⟩ := List.mem_map.1 hr
      exact hh u hu
    · obtain ⟨u, hu, rfl⟩ := List.mem_map.1 hr
      show (u.Fo.set _ _).length < _
      rw [List.length_set, hFl u hu]; exact hIl

def Dd.add (D : Dd) (h : Int) (mb : Option Nat) : Dd := { D with rs := D.rs ++ [⟨h, mb, D.In⟩] }
def Dd.may (D : Dd) (h : Int) : Prop := 1 ≤ h ∧ h ≤ D.Live.length ∧ D.Live.getD (h - 1).toNat false = true ∧ h ∉ D.rs.map Dr.h
instance (D : Dd) (h : Int) : Decidable (D.may h) := by unfold Dd.may; infer_instance
def Dd.defer (D : Dd) (h : Int) (mb : Option Nat) : List Int × Dd := if D.may h then (dgone (D.add h mb).rs, (D.add h mb).swept) else ([], D)

theorem ddefer_s (hd : IsD H y D L) (hl : D.rs.length < 10000) (hh : ∀ r ∈ D.rs, 1 ≤ r.h ∧ r.h ≤ D.Live.length) (hl2 : D.Live.length < 100000) (hFl : ∀ r ∈ D.rs, r.Fo.length = D.In.length) (hIl : D.In.length < 100000)
    (hR : ∀ H' f mb, (f = none → (D.defer h mb).1 = []) → IsD H' y (D.defer h mb).2 (gl 1 f (ints (D.defer h mb).1) :: L) → R (.slice (addr f) (D.defer h mb).1.length 0) H') : CA en F.crossbarref09_Grace_Defer [P y, I h] H R := by
  have no : ∀ H', ¬ D.may h → IsD H' y D L → R (.slice none 0 0) H' := fun H' hc hd' => by
    have := hR H' none none
    unfold Dd.defer at this
    rw [if_neg hc] at this
    obtain ⟨bI, bL, bV, nI, nL, nV, nr, h⟩ := hd'.ex
    exact this (fun _ => rfl) ⟨bI, bL, bV, nI, nL, nV, nr, Sep.pick (gl_none.2 h : Sep H' (gl 1 none (ints []) :: DS y bI bL bV D L)) 6 [1, 2, 3, 4, 5, 0] (by decide)⟩
  obtain ⟨bI, bL, bV, nI, nL, nV, nr, hs⟩ := hd.ex
  apply vc_crossbarref09_Grace_Defer
  refine cond_of (fun c => no _ (fun hc => by have := hc.1; simp only [decide_eq_true_eq] at c; omega) hd) fun c1 => ?_
  refine asAddr_in ⟨_, _, Sep.ld0 hs rfl, cond_of (fun c => no _ (fun hc => by have := hc.2.1; simp only [decide_eq_true_eq] at c; omega) hd) fun c2 => ?_⟩
  simp only [decide_eq_false_iff_not] at c1 c2
  have hw : IntKind.i64.wrap (h - 1) = h - 1 := wrap_i64 (by omega)
  rw [hw]
  refine asAddr_in ⟨_, _, Sep.ld0 hs rfl, by unfold inB; omega, gl_ld (Sep.up3 hs) (nb nV) (o := (h - 1).toNat) (bools_at (by omega)) fun i1 e1 => ⟨_, by rw [Nat.mul_one]; exact e1, ?_⟩⟩
  refine cond_of (fun c => no _ (fun hc => by rw [hc.2.2.1] at c; cases c) hd) fun c3 => ?_
  have c3 : D.Live.getD (h - 1).toNat false = true := by simpa using c3
  refine use_crossbarref09_Grace_Defer_0 (fun k t4 t4l t5 H' => ∃ j : Nat, j ≤ D.rs.length ∧ k = D.rs.length - j ∧ t5 = (j : Int) ∧ t4 = none ∧ t4l = 0 ∧ H' = H ∧ ∀ r ∈ D.rs.take j, r.h ≠ h) D.rs.length ⟨0, by omega, rfl, rfl, rfl, rfl, rfl, by simp⟩ ?_
  rintro k t4 t4l t5 ys H3 ⟨j, hj, rfl, rfl, rfl, rfl, rfl, hall⟩
  refine asAddr_in ⟨_, _, Sep.ld0 hs rfl, cond_of (fun h1 => ?_) fun h1 => ?_⟩
  · have hj' : j < D.rs.length := by simp only [decide_eq_true_eq] at h1; omega
    obtain ⟨r, hr⟩ : ∃ r, D.rs[j]? = some r := ⟨_, List.getElem?_eq_getElem hj'⟩
    have hm := List.mem_of_getElem? hr
    have cH : (drows D.rs)[j * 2]? = some (I r.h) := (drow_cell (k := 0) hr (by decide)).trans rfl
    refine asAddr_in ⟨_, _, Sep.ld0 hs rfl, by unfold inB; omega, gl_ld (Sep.up2 hs) (nd nL) cH fun i1 e1 => ⟨_, (by rw [Int.toNat_natCast]; exact e1), cond_of (fun e => ?_) fun e => ?_⟩⟩
    · have e : r.h = h := by simpa using e
      exact asSl_in (no _ (fun hc => hc.2.2.2 (List.mem_map.2 ⟨r, hm, e⟩)) hd)
    · have e : ¬ r.h = h := by simpa using e
      refine ⟨D.rs.length - (j + 1), by omega, j + 1, by omega, rfl, by rw [wrap_i64 (by omega)]; omega, rfl, rfl, rfl, ?_⟩
      rw [take_snoc' hr]
      intro u hu
      rcases List.mem_append.1 hu with hu | hu
      · exact hall u hu
      · simp at hu; subst hu; exact e
  · obtain rfl : j = D.rs.length := by simp only [decide_eq_false_iff_not] at h1; omega
    rw [List.take_length] at hall
    have may : D.may h := ⟨by omega, by omega, c3, fun hc => by obtain ⟨r, hr, e⟩ := List.mem_map.1 hc; exact hall r hr e⟩
    refine asSl_in (Sep.nw hs fun i16 H17 h17 => Sep.st0 h17 (Nat.le_of_ble_eq_true rfl) fun H18 h18 => ?_)
    have h19 : Sep H18 (gl 1 none (bools (D.In.take 0)) :: bx i16 (.cells true 0 [I h, .slice (addr none) 0 0]) :: DS y bI bL bV D L) := gl_none.2 h18
    refine use_crossbarref09_Grace_Defer_1 (fun k t7 H => ∃ (j : Nat) (f : Option Nat), j ≤ D.In.length ∧ k = D.In.length - j ∧ t7 = (j : Int) ∧ (f = none → j = 0) ∧ Sep H (gl 1 f (bools (D.In.take j)) :: bx i16 (.cells true 0 [I h, .slice (addr f) j 0]) :: DS y bI bL bV D L)) D.In.length ⟨0, none, by omega, rfl, rfl, fun _ => rfl, h19⟩ ?_
    clear h17 h18 h19 hs hd
    rintro k t7 ys H4 ⟨j, f, hj, rfl, rfl, hf, h5⟩
    refine asAddr_in ⟨_, _, Sep.ld2 h5 rfl, cond_of (fun h2 => ?_) fun h2 => ?_⟩
    · have hj' : j < D.In.length := by simp only [decide_eq_true_eq] at h2; omega
      have hB := h5.bump 13
      refine ⟨_, _, Sep.ld1 hB rfl, asAddr_in ⟨_, _, Sep.ld2 hB rfl, by unfold inB; omega, gl_ld (Sep.up3 hB) (nb nI) (o := j) (bools_at hj') fun i1 e1 => ⟨_, (by rw [Int.toNat_natCast, Nat.mul_one]; exact e1), Sep.nw hB fun i14 H15 h15 => ⟨[.bool (D.In.getD j false)], rowOf_bx (es := 1) (n := 1) (b := i14) (Sep.get0 h15) (by decide) rfl, ?_⟩⟩⟩⟩
      refine apd_gl (b := f) (cs := bools (D.In.take j)) (new := [.bool (D.In.getD j false)]) (Sep.up1 h15) (fun e => by rw [hf e]; rfl) (by decide) (by simp; omega) (by decide) rfl (by omega) fun H19 f' h19 => ?_
      refine Sep.st2 h19 (Nat.le_of_ble_eq_true rfl) fun H20 h20 => ⟨⟨D.In.length - (j + 1), by omega, j + 1, some f', by omega, rfl, by rw [wrap_i64 (by omega)]; omega, (fun h => by cases h), ?_⟩, ⟨⟨_, _, Sep.ld1 hB rfl, rfl, rfl, rfl⟩, ⟨_, _, Sep.ld2 h15 rfl, rfl, rfl, rfl⟩, trivial⟩, trivial⟩
      have e : D.In.take (j + 1) = D.In.take j ++ [D.In.getD j false] := by
        rw [List.take_add_one, List.getElem?_eq_getElem hj', List.getD_eq_getElem?_getD, List.getElem?_eq_getElem hj']; rfl
      rw [e, bools_append]
      exact Sep.pick h20 8 [0, 2, 3, 4, 5, 6, 7] (by decide)
    · obtain rfl : j = D.In.length := by simp only [decide_eq_false_iff_not] at h2; omega
      rw [List.take_length] at h5
      have hB := h5.bump 11
      -- F i16 y bI bL bV dm
      refine asAddr_in ⟨_, _, Sep.ld2 hB rfl, _, _, _, Sep.lds1 hB rfl, Sep.nw hB fun i28 H29 h29 => ⟨[I h, .slice (addr f) D.In.length 0], rowOf_bx (es := 2) (n := 1) (b := i28) (Sep.get0 h29) (by decide) rfl, ?_⟩⟩
      refine apd_gl (b := bL) (cs := drows D.rs) (new := [I h, .slice (addr f) D.In.length 0]) (Sep.up5 h29) (nd nL) (by decide) (drows_len _) (by decide) rfl (by omega) fun H33 b' h33 => ?_
      -- bL' i28 F i16 y bI bV dm
      have h34 : Sep H33 (bx y (.cells true 0 [.slice (addr bI) D.In.length 0, .slice (addr bL) D.rs.length 0, .slice (addr bV) D.Live.length 0]) :: gl 1 bI (bools D.In) :: gl 2 (some b') (drows (D.rs ++ [(⟨h, f, D.In⟩ : Dr)])) :: gl 1 bV (bools D.Live) :: dA ⟨h, f, D.In⟩ :: dm D.rs :: L) := by
        rw [drows_append]
        exact Sep.pick h33 8 [4, 5, 0, 6, 2, 7] (by decide)
      refine asAddr_in (Sep.st0 h34 (Nat.le_of_ble_eq_true rfl) fun H36 h36 => ⟨?_, ⟨⟨_, _, Sep.ld2 hB rfl, rfl, rfl, rfl⟩, ⟨_, _, Sep.ld3 h29 rfl, rfl, rfl, rfl⟩, trivial⟩, trivial⟩)
      have hdf : ∀ mb, D.defer h mb = (dgone (D.add h mb).rs, (D.add h mb).swept) := fun mb => if_pos may
      have hA : IsD H36 y (D.add h f) L := by
        refine ⟨bI, some b', bV, nI, (fun h => by cases h), nV, fun r hr e => ?_, ?_⟩
        · rcases List.mem_append.1 hr with hr | hr
          · exact nr r hr e
          · simp at hr; subst hr
            exact List.eq_nil_of_length_eq_zero (hf e)
        · show Sep H36 (bx y (.cells true 0 [.slice (addr bI) D.In.length 0, .slice (addr (some b')) (D.rs ++ [(⟨h, f, D.In⟩ : Dr)]).length 0, .slice (addr bV) D.Live.length 0]) :: gl 1 bI (bools D.In) :: gl 2 (some b') (drows (D.rs ++ [(⟨h, f, D.In⟩ : Dr)])) :: gl 1 bV (bools D.Live) :: dm (D.rs ++ [(⟨h, f, D.In⟩ : Dr)]) :: L)
          rw [List.length_append]
          have := many_snoc (f := dA) (w := ⟨h, f, D.In⟩) (q := D.rs) (Sep.pick h36 6 [4, 5, 0, 1, 2, 3] (by decide))
          exact Sep.pick this 5 [1, 2, 3, 4, 0] (by decide)
      refine dswept_s hA ?_ ?_ hl2 ?_ fun H42 f2 hf2 h42 => ⟨_, _, rfl, ?_⟩
      · show (D.rs ++ [_]).length < _; rw [List.length_append]; simp; omega
      · intro r hr
        rcases List.mem_append.1 hr with hr | hr
        · exact hh r hr
        · simp at hr; subst hr; exact ⟨by show 1 ≤ h; omega, by show h ≤ (D.Live.length : Int); omega⟩
      · intro r hr
        rcases List.mem_append.1 hr with hr | hr
        · rw [hFl r hr]; exact hIl
        · simp at hr; subst hr; exact hIl
      · have := hR H42 f2 f
        rw [hdf f] at this
        exact this hf2 h42

theorem dnew_s {n k : Int} (hn : n ≤ 1000) (hk : k ≤ 1000) (hs : Sep H L) (hR : ∀ H' y, IsD H' y ⟨List.replicate n.toNat false, [], List.replicate k.toNat true⟩ L → R (P y) H') : CA en F.crossbarref09_New [I n, I k] H R := by
  apply vc_crossbarref09_New
  refine Sep.nw hs fun y H2 h2 => ?_
  have h3 : Sep H2 (gl 1 none (bools (List.replicate 0 false)) :: bx y (.cells true 0 [.slice (addr none) 0 0, .slice none 0 0, .slice none 0 0]) :: L) := gl_none.2 h2
  refine use_crossbarref09_New_0 (fun k t6 H => ∃ (j : Nat) (f : Option Nat), j ≤ n.toNat ∧ k = n.toNat - j ∧ t6 = (j : Int) ∧ (f = none → j = 0) ∧ Sep H (gl 1 f (bools (List.replicate j false)) :: bx y (.cells true 0 [.slice (addr f) j 0, .slice none 0 0, .slice none 0 0]) :: L)) n.toNat ⟨0, none, by omega, rfl, rfl, fun _ => rfl, h3⟩ ?_
  clear h2 h3 hs
  rintro k0 t6 ys H3 ⟨j, f, hj, rfl, rfl, hf, h3⟩
  refine cond_of (fun h1 => ?_) fun h1 => ?_
  · have hj' : j < n.toNat := by simp only [decide_eq_true_eq] at h1; omega
    refine ⟨_, _, Sep.ld1 h3 rfl, Sep.nw h3 fun i3 H4 h4 => ⟨[.bool false], rowOf_bx (es := 1) (n := 1) (b := i3) (Sep.get0 h4) (by decide) rfl, ?_⟩⟩
    refine apd_gl (b := f) (cs := bools (List.replicate j false)) (new := [.bool false]) (Sep.up1 h4) (fun e => by rw [hf e]; rfl) (by decide) (by simp) (by decide) rfl (by omega) fun H8 f' h8 => ?_
    refine Sep.st2 h8 (Nat.le_of_ble_eq_true rfl) fun H9 h9 => ⟨n.toNat - (j + 1), by omega, j + 1, some f', by omega, rfl, by rw [wrap_i64 (by omega)]; omega, (fun h => by cases h), ?_⟩
    rw [List.replicate_succ', bools_append]
    exact Sep.pick h9 3 [0, 2] (by decide)
  · have e : j = n.toNat := by simp only [decide_eq_false_iff_not] at h1; omega
    have h4 : Sep H3 (gl 1 none (bools (List.replicate 0 true)) :: bx y (.cells true 0 [.slice (addr f) j 0, .slice none 0 0, .slice (addr none) 0 0]) :: gl 1 f (bools (List.replicate j false)) :: L) := gl_none.2 (Sep.up1 h3)
    refine use_crossbarref09_New_1 (fun k0 t7 H => ∃ (p : Nat) (v : Option Nat), p ≤ k.toNat ∧ k0 = k.toNat - p ∧ t7 = (p : Int) ∧ (v = none → p = 0) ∧ Sep H (gl 1 v (bools (List.replicate p true)) :: bx y (.cells true 0 [.slice (addr f) j 0, .slice none 0 0, .slice (addr v) p 0]) :: gl 1 f (bools (List.replicate j false)) :: L)) k.toNat ⟨0, none, by omega, rfl, rfl, fun _ => rfl, h4⟩ ?_
    clear h3 h4
    rintro k0 t7 ys H5 ⟨p, v, hp, rfl, rfl, hv, h3⟩
    refine cond_of (fun h2 => ?_) fun h2 => ?_
    · have hp' : p < k.toNat := by simp only [decide_eq_true_eq] at h2; omega
      refine ⟨_, _, Sep.ld1 h3 rfl, Sep.nw h3 fun i3 H4 h4 => ⟨[.bool true], rowOf_bx (es := 1) (n := 1) (b := i3) (Sep.get0 h4) (by decide) rfl, ?_⟩⟩
      refine apd_gl (b := v) (cs := bools (List.replicate p true)) (new := [.bool true]) (Sep.up1 h4) (fun e => by rw [hv e]; rfl) (by decide) (by simp) (by decide) rfl (by omega) fun H8 f' h8 => ?_
      refine Sep.st2 h8 (Nat.le_of_ble_eq_true rfl) fun H9 h9 => ⟨k.toNat - (p + 1), by omega, p + 1, some f', by omega, rfl, by rw [wrap_i64 (by omega)]; omega, (fun h => by cases h), ?_⟩
      rw [List.replicate_succ', bools_append]
      exact Sep.pick h9 4 [0, 2, 3] (by decide)
    · have e2 : p = k.toNat := by simp only [decide_eq_false_iff_not] at h2; omega
      refine hR H5 y ⟨f, none, v, fun h => ?_, fun _ => rfl, fun h => ?_, fun r hr => by simp at hr, ?_⟩
      · rw [← e, hf h]; rfl
      · rw [← e2, hv h]; rfl
      · subst e e2
        show Sep H5 (bx y (.cells true 0 [.slice (addr f) (List.replicate n.toNat false).length 0, .slice (addr none) 0 0, .slice (addr v) (List.replicate k.toNat true).length 0]) :: gl 1 f (bools (List.replicate n.toNat false)) :: gl 2 none (drows []) :: gl 1 v (bools (List.replicate k.toNat true)) :: dm [] :: L)
        rw [List.length_replicate, List.length_replicate]
        have h6 : Sep H5 (gl 2 none (drows []) :: dm [] :: _) := gl_none.2 (Sep.many0 h3)
        exact Sep.pick h6 5 [3, 4, 0, 2, 1] (by decide)

/-! ### Lists of numbers -/
theorem sameInts_s {f1 f2 : Option Nat} {l : List Int} (hl : l.length < 100000) (n1 : f1 = none → l = []) (n2 : f2 = none → l = []) (hs : Sep H (gl 1 f1 (ints l) :: gl 1 f2 (ints l) :: L)) (hR : ∀ H', Sep H' (gl 1 f1 (ints l) :: gl 1 f2 (ints l) :: L) → R (.bool true) H') : CA en F.crossbarkit_SameInts [.slice (addr f1) l.length 0, .slice (addr f2) l.length 0] H R := by
  apply vc_crossbarkit_SameInts
  refine cond_no (by simp) ?_
  refine use_crossbarkit_SameInts_0 (fun k t4 t5 H => ∃ j : Nat, j ≤ l.length ∧ k = l.length - j ∧ t5 = (j : Int) ∧ Sep H (gl 1 f1 (ints l) :: gl 1 f2 (ints l) :: L)) l.length ⟨0, by omega, rfl, rfl, hs⟩ ?_
  clear hs
  rintro k t4 t5 ys H3 ⟨j, hj, rfl, rfl, hs⟩
  refine cond_of (fun h1 => ?_) fun h1 => ?_
  · have hj' : j < l.length := by simp only [decide_eq_true_eq] at h1; omega
    have hB := hs.bump 9
    have hib : inB (j : Int) l.length := by unfold inB; omega
    refine ⟨hib, gl_ld hB (fun e => by rw [n1 e]; rfl) (o := j) (ints_at hj') fun i1 e1 => ⟨_, (by rw [Int.toNat_natCast, Nat.mul_one]; exact e1), hib, gl_ld (Sep.up1 hB) (fun e => by rw [n2 e]; rfl) (o := j) (ints_at hj') fun i2 e2 => ⟨_, (by rw [Int.toNat_natCast, Nat.mul_one]; exact e2), cond_no (by simp) ⟨l.length - (j + 1), by omega, j + 1, by omega, rfl, by rw [wrap_i64 (by omega)]; omega, hB⟩, trivial⟩⟩⟩
  · exact asBool_in (hR H3 hs)

theorem spoil_s {f : Option Nat} {l : List Int} (hl : l.length < 100000) (n1 : f = none → l = []) (hs : Sep H (gl 1 f (ints l) :: L)) (hR : ∀ H', Sep H' L → R undef H') : CA en F.crossbarkit_SpoilInts [.slice (addr f) l.length 0] H R := by
  apply vc_crossbarkit_SpoilInts
  refine use_crossbarkit_SpoilInts_0 (fun k t2 H => ∃ (j : Nat) (l' : List Int), l'.length = l.length ∧ j ≤ l.length ∧ k = l.length - j ∧ t2 = (j : Int) ∧ Sep H (gl 1 f (ints l') :: L)) l.length ⟨0, l, rfl, by omega, rfl, rfl, hs⟩ ?_
  clear hs
  rintro k t2 ys H3 ⟨j, l', hl', hj, rfl, rfl, hs⟩
  refine cond_of (fun h1 => ?_) fun h1 => hR H3 hs.tail
  have hj' : j < l.length := by simp only [decide_eq_true_eq] at h1; omega
  apply vc_crossbarkit_markInts
  refine ⟨_, rfl, by unfold inB; omega, ?_⟩
  refine gl_st hs (fun e => by rw [List.eq_nil_of_length_eq_zero (by rw [hl', n1 e]; rfl : l'.length = 0)]; rfl) (by simp; omega) (by simp) fun H6 h6 => ⟨l.length - (j + 1), by omega, j + 1, _, ?_, by omega, rfl, by rw [wrap_i64 (by omega)]; omega, by rw [setAt_ints] at h6; exact h6⟩
  rw [List.length_set]; exact hl'
end Go.Proofs.Ytdkbgjhlpoibdaa
