/-
  The document's answer for layer 9: what its functions answer.
-/
import Derived.Test.YtdkbgjhlpoibdaaGraceFreed
import Derived.Test.YtdkbgjhlpoibdaaVcGf
namespace Go.Proofs.Ytdkbgjhlpoibdaa
open Go Go.AS Go.RowKit
set_option linter.unusedVariables false
variable {H H' : Heap} {R : Value → Heap → Prop} {L M : List Asr} {y es : Nat} {k a h : Int} {b : Option Nat} {cs vs : List Value}

/-! ### Lists that are owned: loads and stores -/
theorem gl_ld (h : Sep H (gl es b cs :: L)) (hb : b = none → cs = []) {o : Nat} {v : Value} (hv : cs[o]? = some v) {K : Nat → Nat → Prop} (hK : ∀ i, H.cell i (0 + o) = some v → K i 0) : asRow (addr b) K := by
  cases b with
  | none => rw [hb rfl] at hv; simp at hv
  | some i => exact asRow_in (hK i (by rw [cell_of (gl_get h), Nat.zero_add]; exact hv))
theorem gl_lds (h : Sep H (gl es b cs :: L)) (hb : b = none → cs = []) {o n : Nat} {c : List Value} (hv : takeAt cs o n = some c) (hn : n ≠ 0) {K : Nat → Nat → Prop} (hK : ∀ i, H.cellsAt i (0 + o) n = some c → K i 0) : asRow (addr b) K := by
  cases b with
  | none => rw [hb rfl] at hv; unfold takeAt at hv; rw [if_neg (by simp; omega)] at hv; cases hv
  | some i => exact asRow_in (hK i (by rw [cellsAt_of (gl_get h), Nat.zero_add]; exact hv))
theorem gl_st (h : Sep H (gl es b cs :: L)) (hb : b = none → cs = []) {o : Nat} (hv : o + vs.length ≤ cs.length) (hne : vs ≠ []) {K : Heap → Prop} (hK : ∀ H', Sep H' (gl es b (setAt cs o vs) :: L) → K H') : asRow (addr b) fun i p => stc H i (p + o) vs K := by
  cases b with
  | none =>
    rw [hb rfl] at hv
    have : vs.length = 0 := by
      have hv' : o + vs.length ≤ 0 := hv
      omega
    exact (hne (List.eq_nil_of_length_eq_zero this)).elim
  | some i => exact asRow_in (Sep.st0 (gl_some.1 h) (by omega) fun H' h' => hK H' (gl_some.2 (by rw [Nat.zero_add] at h'; exact h')))

theorem gl_st' (h : Sep H (gl es b cs :: L)) (hb : b = none → cs = []) {o : Nat} (hv : o + vs.length ≤ cs.length) (hne : vs ≠ []) {K : Nat → Nat → Heap → Prop} (hK : ∀ i H', Sep H' (gl es b (setAt cs o vs) :: L) → K i 0 H') : asRow (addr b) fun i p => stc H i (p + o) vs (K i p) := by
  cases b with
  | none =>
    rw [hb rfl] at hv
    have : vs.length = 0 := by
      have hv' : o + vs.length ≤ 0 := hv
      omega
    exact (hne (List.eq_nil_of_length_eq_zero this)).elim
  | some i => exact asRow_in (Sep.st0 (gl_some.1 h) (by omega) fun H' h' => hK i H' (gl_some.2 (by rw [Nat.zero_add] at h'; exact h')))

theorem many_out {α : Type} {f : α → Asr} {q : List α} {j : Nat} {w : α} (hj : q[j]? = some w) : Sep H (many (q.map f) :: L) ↔ Sep H (f w :: many ((q.take j).map f ++ (q.drop (j + 1)).map f) :: L) := by
  have e : q.map f = (q.take j).map f ++ ([f w] ++ (q.drop (j + 1)).map f) := by
    obtain ⟨hl, hg⟩ := List.getElem?_eq_some_iff.1 hj
    have h1 : q = q.take j ++ (w :: q.drop (j + 1)) := by rw [← hg, ← List.drop_eq_getElem_cons hl, List.take_append_drop]
    conv => lhs; rw [h1]
    rw [List.map_append]; rfl
  rw [e, Sep.splitM, Sep.many1]
theorem many_set {α : Type} {f : α → Asr} {q : List α} {j : Nat} {w w' : α} (hj : q[j]? = some w) : Sep H (many ((q.set j w').map f) :: L) ↔ Sep H (f w' :: many ((q.take j).map f ++ (q.drop (j + 1)).map f) :: L) := by
  have hl := (List.getElem?_eq_some_iff.1 hj).1
  have h1 : (q.set j w')[j]? = some w' := by rw [List.getElem?_set_self hl]
  rw [many_out h1, List.take_set_of_le (Nat.le_refl _), List.drop_set_of_lt (by omega)]
theorem many_filter {α : Type} {f : α → Asr} {q : List α} (p : α → Bool) (h : Sep H (many (q.map f) :: L)) : Sep H (many ((q.filter p).map f) :: L) := by
  have h1 := Sep.many_iff.1 h
  refine Sep.many_iff.2 ?_
  have h2 : Sep H (L ++ q.map f) := h1.perm List.perm_append_comm
  have hs : ((q.filter p).map f).Sublist (q.map f) := List.Sublist.map _ List.filter_sublist
  exact (Sep.sub hs _ h2).perm List.perm_append_comm
theorem many_snoc {α : Type} {f : α → Asr} {q : List α} {w : α} (h : Sep H (f w :: many (q.map f) :: L)) : Sep H (many ((q ++ [w]).map f) :: L) := by
  refine Sep.many_iff.2 ?_
  have h1 := Sep.many_iff.1 (Sep.up1 h)
  rw [List.map_append]
  have e : q.map f ++ [w].map f ++ L = q.map f ++ (f w :: L) := by simp
  rw [e]; exact h1

/-! ### What the document keeps -/
structure Dr where
  h : Int
  b : Option Nat
  Fo : List Bool
structure Dd where
  In : List Bool
  rs : List Dr
  Live : List Bool
abbrev bools (l : List Bool) : List Value := l.map Value.bool
theorem bools_append (s t : List Bool) : bools (s ++ t) = bools s ++ bools t := List.map_append
abbrev Dr.row (r : Dr) : List Value := [I r.h, .slice (addr r.b) r.Fo.length 0]
def drows (rs : List Dr) : List Value := (rs.map Dr.row).flatten
def dA (r : Dr) : Asr := gl 1 r.b (bools r.Fo)
abbrev dm (rs : List Dr) : Asr := many (rs.map dA)
theorem drows_len : ∀ q : List Dr, (drows q).length = q.length * 2
  | [] => rfl
  | w :: q => by
    have e : drows (w :: q) = w.row ++ drows q := rfl
    rw [e, List.length_append, drows_len q]; simp; omega
theorem drows_append (q p : List Dr) : drows (q ++ p) = drows q ++ drows p := by simp [drows]
theorem drow_w (q : List Dr) : ∀ c ∈ q.map Dr.row, c.length = 2 := by intro c hc; obtain ⟨y, _, rfl⟩ := List.mem_map.1 hc; rfl
theorem drow_takeAt {q : List Dr} {j : Nat} {r : Dr} (hj : q[j]? = some r) : takeAt (drows q) (j * 2) 2 = some r.row := by
  obtain ⟨hl, hg⟩ := List.getElem?_eq_some_iff.1 hj
  have := rowsFlat_takeAt (drow_w q) (j := j) (by simpa using hl)
  rw [List.getElem_map, hg] at this
  exact this
theorem drow_cell {q : List Dr} {j : Nat} {r : Dr} (hj : q[j]? = some r) {k : Nat} (hk : k < 2) : (drows q)[j * 2 + k]? = r.row[k]? := by
  obtain ⟨hl, hg⟩ := List.getElem?_eq_some_iff.1 hj
  have := rowsFlat_cell (drow_w q) (j := j) (by simpa using hl) hk
  rw [List.getElem_map, hg] at this
  exact this

abbrev DS (y : Nat) (bI bL bV : Option Nat) (D : Dd) (L : List Asr) : List Asr :=
  bx y (.cells true 0 [.slice (addr bI) D.In.length 0, .slice (addr bL) D.rs.length 0, .slice (addr bV) D.Live.length 0]) :: gl 1 bI (bools D.In) :: gl 2 bL (drows D.rs) :: gl 1 bV (bools D.Live) :: dm D.rs :: L
structure IsD (H : Heap) (y : Nat) (D : Dd) (L : List Asr) : Prop where
  ex : ∃ bI bL bV, (bI = none → D.In = []) ∧ (bL = none → D.rs = []) ∧ (bV = none → D.Live = []) ∧ (∀ r ∈ D.rs, r.b = none → r.Fo = []) ∧ Sep H (DS y bI bL bV D L)

theorem nb {b : Option Nat} {l : List Bool} (h : b = none → l = []) : b = none → bools l = [] := fun e => by rw [h e]; rfl
theorem nd {b : Option Nat} {l : List Dr} (h : b = none → l = []) : b = none → drows l = [] := fun e => by rw [h e]; rfl

def Dd.has (D : Dd) (a : Int) : Bool := decide (0 ≤ a) && decide (a < D.In.length) && D.In.getD a.toNat false

theorem dinside_s {D : Dd} (hd : IsD H y D L) (hR : R (.bool (D.has a)) H) : CA en F.crossbarref09_Grace_Inside [P y, I a] H R := by
  obtain ⟨bI, bL, bV, nI, nL, nV, nr, h⟩ := hd.ex
  apply vc_crossbarref09_Grace_Inside
  unfold Dd.has at hR
  refine cond_of (fun c => ?_) fun c => ?_
  · simp only [decide_eq_true_eq] at c
    rw [decide_eq_true c, Bool.true_and] at hR
    refine asAddr_in ⟨_, _, Sep.ld0 h rfl, cond_of (fun d => ?_) fun d => ?_⟩
    · rw [d, Bool.true_and] at hR
      simp only [decide_eq_true_eq] at d
      refine asAddr_in ⟨_, _, Sep.ld0 h rfl, by unfold inB; omega, gl_ld (Sep.up1 h) (nb nI) (o := a.toNat) (bools_at (by omega)) fun i e => ⟨_, by rw [Nat.mul_one]; exact e, hR⟩⟩
    · rw [d] at hR; exact hR
  · simp only [decide_eq_false_iff_not] at c
    rw [decide_eq_false (by omega)] at hR; exact hR

def Dd.enter (D : Dd) (a : Int) : Bool × Dd := if 0 ≤ a ∧ a < D.In.length ∧ D.In.getD a.toNat false = false then (true, { D with In := D.In.set a.toNat true }) else (false, D)
theorem denter_s {D : Dd} (hd : IsD H y D L) (hR : ∀ H', IsD H' y (D.enter a).2 L → R (.bool (D.enter a).1) H') : CA en F.crossbarref09_Grace_Enter [P y, I a] H R := by
  have no : ¬ (0 ≤ a ∧ a < D.In.length ∧ D.In.getD a.toNat false = false) → R (.bool false) H := fun hc => by
    have := hR H
    unfold Dd.enter at this
    rw [if_neg hc] at this
    exact this hd
  obtain ⟨bI, bL, bV, nI, nL, nV, nr, h⟩ := hd.ex
  apply vc_crossbarref09_Grace_Enter
  refine cond_of (fun c => no fun hc => by simp only [decide_eq_true_eq] at c; omega) fun c => ?_
  refine asAddr_in ⟨_, _, Sep.ld0 h rfl, cond_of (fun d => no fun hc => by simp only [decide_eq_true_eq] at d; omega) fun d => ?_⟩
  simp only [decide_eq_false_iff_not] at c d
  have ib : inB a D.In.length := by unfold inB; omega
  refine asAddr_in ⟨_, _, Sep.ld0 h rfl, ib, gl_ld (Sep.up1 h) (nb nI) (o := a.toNat) (bools_at (by omega)) fun i e => ⟨_, by rw [Nat.mul_one]; exact e, ?_⟩⟩
  refine cond_of (fun e => no fun hc => by rw [hc.2.2] at e; cases e) fun e => ?_
  refine asAddr_in ⟨_, _, Sep.ld0 h rfl, ib, ?_⟩
  rw [Nat.mul_one]
  refine gl_st (Sep.up1 h) (nb nI) (by simp; omega) (by simp) fun H18 h18 => ?_
  rw [setAt_bools] at h18
  have := hR H18
  unfold Dd.enter at this
  rw [if_pos ⟨by omega, by omega, e⟩] at this
  refine this ⟨bI, bL, bV, fun e => by show D.In.set _ _ = []; rw [nI e]; rfl, nL, nV, nr, ?_⟩
  show Sep H18 (bx y (.cells true 0 [.slice (addr bI) (D.In.set a.toNat true).length 0, _, _]) :: _)
  rw [List.length_set]
  exact Sep.up1 h18

/-! ### swept -/
def dany (r : Dr) : Bool := r.Fo.any id
def dkept (q : List Dr) : List Dr := q.filter dany
def dgone (q : List Dr) : List Int := (q.filter fun r => !dany r).map Dr.h
theorem dkept_snoc (q : List Dr) (r : Dr) : dkept (q ++ [r]) = if dany r then dkept q ++ [r] else dkept q := by
  unfold dkept
  rw [List.filter_append]
  cases h : dany r <;> simp [h]
theorem dgone_snoc (q : List Dr) (r : Dr) : dgone (q ++ [r]) = if dany r then dgone q else dgone q ++ [r.h] := by
  unfold dgone
  rw [List.filter_append, List.map_append]
  cases h : dany r <;> simp [h]
def off1 (V : List Bool) (h : Int) : List Bool := V.set (h - 1).toNat false
def offs (V : List Bool) (hs : List Int) : List Bool := hs.foldl off1 V
theorem offs_snoc (V : List Bool) (hs : List Int) (h : Int) : offs V (hs ++ [h]) = (offs V hs).set (h - 1).toNat false := by unfold offs; rw [List.foldl_append]; rfl
theorem offs_len : ∀ (hs : List Int) (V : List Bool), (offs V hs).length = V.length
  | [], V => rfl
  | h :: hs, V => by show (offs (off1 V h) hs).length = _; rw [offs_len hs]; simp [off1]
def Dd.swept (D : Dd) : Dd := { D with rs := dkept D.rs, Live := offs D.Live (dgone D.rs) }

theorem take_snoc' {α : Type} {q : List α} {j : Nat} {w : α} (h : q[j]? = some w) : q.take (j + 1) = q.take j ++ [w] := by rw [List.take_add_one, h]; rfl
theorem dkept_le (q : List Dr) : (dkept q).length ≤ q.length := List.length_filter_le _ _
theorem dgone_le (q : List Dr) : (dgone q).length ≤ q.length := by unfold dgone; rw [List.length_map]; exact List.length_filter_le _ _

theorem dswept_s {D : Dd} (hd : IsD H y D L) (hl : D.rs.length < 100000) (hh : ∀ r ∈ D.rs, 1 ≤ r.h ∧ r.h ≤ D.Live.length) (hl2 : D.Live.length < 100000) (hFl : ∀ r ∈ D.rs, r.Fo.length < 100000)
    (hR : ∀ H' f, (f = none → dgone D.rs = []) → IsD H' y D.swept (gl 1 f (ints (dgone D.rs)) :: L) → R (.slice (addr f) (dgone D.rs).length 0) H') : CA en F.crossbarref09_Grace_swept [P y] H R := by
  obtain ⟨bI, bL, bV, nI, nL, nV, nr, h⟩ := hd.ex
  apply vc_crossbarref09_Grace_swept
  have h0 : Sep H (gl 1 none (ints []) :: gl 2 none (drows []) :: DS y bI bL bV D L) := gl_none.2 (gl_none.2 h)
  refine use_crossbarref09_Grace_swept_0 (fun k t3 t3l t4 t4l t5 H => ∃ (j : Nat) (f1 f2 : Option Nat), j ≤ D.rs.length ∧ k = D.rs.length - j ∧ t5 = (j : Int) ∧ t3 = addr f1 ∧ t3l = (dgone (D.rs.take j)).length ∧ t4 = addr f2 ∧ t4l = (dkept (D.rs.take j)).length ∧ (f1 = none → dgone (D.rs.take j) = []) ∧ (f2 = none → dkept (D.rs.take j) = []) ∧
    Sep H (gl 1 f1 (ints (dgone (D.rs.take j))) :: gl 2 f2 (drows (dkept (D.rs.take j))) :: bx y (.cells true 0 [.slice (addr bI) D.In.length 0, .slice (addr bL) D.rs.length 0, .slice (addr bV) D.Live.length 0]) :: gl 1 bI (bools D.In) :: gl 2 bL (drows D.rs) :: gl 1 bV (bools (offs D.Live (dgone (D.rs.take j)))) :: dm D.rs :: L)) D.rs.length
    ⟨0, none, none, by omega, rfl, rfl, rfl, rfl, rfl, rfl, fun _ => rfl, fun _ => rfl, h0⟩ ?_
  clear h h0 hd
  rintro k t3 t3l t4 t4l t5 ys H3 ⟨j, f1, f2, hj, rfl, rfl, rfl, rfl, rfl, rfl, n1, n2, hs⟩
  have hgl := dgone_le (D.rs.take j)
  have hkl := dkept_le (D.rs.take j)
  rw [List.length_take, Nat.min_eq_left hj] at hgl hkl
  refine asAddr_in ⟨_, _, Sep.ld2 hs rfl, cond_of (fun h1 => ?_) fun h1 => ?_⟩
  · have hj' : j < D.rs.length := by simp only [decide_eq_true_eq] at h1; omega
    obtain ⟨r, hr⟩ : ∃ r, D.rs[j]? = some r := ⟨_, List.getElem?_eq_getElem hj'⟩
    have hm := List.mem_of_getElem? hr
    have hib : inB (j : Int) D.rs.length := by unfold inB; omega
    have hw : IntKind.i64.wrap ((j : Int) + 1) = ((j + 1 : Nat) : Int) := by rw [wrap_i64 (by omega)]; omega
    have htk := take_snoc' hr
    have hFr := hFl r hm
    refine use_crossbarref09_Grace_swept_1 (fun k t6 t7 H => ∃ p : Nat, p ≤ r.Fo.length ∧ k = r.Fo.length - p ∧ t7 = (p : Int) ∧ t6 = (r.Fo.take p).any id ∧ H = H3) r.Fo.length ⟨0, by omega, rfl, rfl, rfl, rfl⟩ ?_
    rintro k t6 t7 ys H4 ⟨p, hp, rfl, rfl, rfl, rfl⟩
    have hw2 : IntKind.i64.wrap ((p : Int) + 1) = ((p + 1 : Nat) : Int) := by rw [wrap_i64 (by omega)]; omega
    have cF : (drows D.rs)[j * 2 + 1]? = some (.slice (addr r.b) r.Fo.length 0) := (drow_cell hr (by decide)).trans rfl
    refine asAddr_in ⟨_, _, Sep.ld2 hs rfl, hib, gl_ld (Sep.up4 hs) (nd nL) cF fun i1 e1 => ⟨_, _, (by rw [Int.toNat_natCast, Nat.add_assoc]; exact e1), cond_of (fun h2 => ?_) fun h2 => ?_⟩⟩
    · have hp' : p < r.Fo.length := by simp only [decide_eq_true_eq] at h2; omega
      have htF : r.Fo.take (p + 1) = r.Fo.take p ++ [r.Fo.getD p false] := by
        rw [List.take_add_one, List.getElem?_eq_getElem hp', List.getD_eq_getElem?_getD, List.getElem?_eq_getElem hp']; rfl
      refine cond_of (fun h3 => ⟨r.Fo.length - (p + 1), by omega, p + 1, by omega, rfl, hw2, ?_, rfl⟩) fun h3 => ?_
      · rw [htF, List.any_append, h3]; rfl
      · refine asAddr_in ⟨_, _, Sep.ld2 hs rfl, hib, gl_ld (Sep.up4 hs) (nd nL) cF fun i2 e2 => ⟨_, _, (by rw [Int.toNat_natCast, Nat.add_assoc]; exact e2), by unfold inB; omega, ?_⟩⟩
        have hF := (many_out (f := dA) hr).1 (Sep.up6 hs)
        refine gl_ld hF (nb (nr r hm)) (o := p) (bools_at hp') fun i3 e3 => ⟨_, (by rw [Int.toNat_natCast, Nat.mul_one]; exact e3), r.Fo.length - (p + 1), by omega, p + 1, by omega, rfl, hw2, ?_, rfl⟩
        rw [htF, List.any_append, h3]; simp
    · obtain rfl : p = r.Fo.length := by simp only [decide_eq_false_iff_not] at h2; omega
      rw [List.take_length]
      have hd : r.Fo.any id = dany r := rfl
      refine asBool_in (cond_of (fun h3 => ?_) fun h3 => ?_)
      · rw [hd] at h3
        refine asAddr_in ⟨_, _, Sep.ld2 hs rfl, hib, gl_lds (Sep.up4 hs) (nd nL) (drow_takeAt hr) (by decide) fun i3 e3 => ⟨_, _, _, (by rw [Int.toNat_natCast]; exact e3), Sep.nw hs fun i5 H6 h6 => ⟨r.row, rowOf_bx (es := 2) (n := 1) (b := i5) (Sep.get0 h6) (by decide) rfl, ?_⟩⟩⟩
        refine apd_gl (b := f2) (cs := drows (dkept (D.rs.take j))) (new := r.row) (Sep.up2 h6) (nd n2) (by decide) (drows_len _) (by decide) rfl (by omega) fun H22 f2' h22 => ?_
        have ek : dkept (D.rs.take (j + 1)) = dkept (D.rs.take j) ++ [r] := by rw [htk, dkept_snoc, if_pos h3]
        have eg : dgone (D.rs.take (j + 1)) = dgone (D.rs.take j) := by rw [htk, dgone_snoc, if_pos h3]
        refine ⟨D.rs.length - (j + 1), by omega, j + 1, f1, some f2', by omega, rfl, hw, rfl, by rw [eg], rfl, by rw [ek]; simp, by rw [eg]; exact n1, (fun h => by cases h), ?_⟩
        rw [eg, ek, drows_append]
        exact Sep.pick h22 8 [2, 0, 3, 4, 5, 6, 7] (by decide)
      · rw [hd] at h3
        have hnot : ¬ dany r = true := by rw [h3]; decide
        have cH : (drows D.rs)[j * 2]? = some (I r.h) := (drow_cell (k := 0) hr (by decide)).trans rfl
        refine asAddr_in ⟨_, _, Sep.ld2 hs rfl, hib, gl_ld (Sep.up4 hs) (nd nL) cH fun i3 e3 => ⟨_, (by rw [Int.toNat_natCast]; exact e3), Sep.nw hs fun i5 H6 h6 => ⟨[I r.h], rowOf_bx (es := 1) (n := 1) (b := i5) (Sep.get0 h6) (by decide) rfl, ?_⟩⟩⟩
        refine apd_gl (b := f1) (cs := ints (dgone (D.rs.take j))) (new := [I r.h]) (Sep.up1 h6) (fun e => by rw [n1 e]; rfl) (by decide) (by simp) (by decide) rfl (by omega) fun H22 f1' h22 => ?_
        have hB := h22.bump 15
        -- f1' i5 f2 y bI bL bV dm
        have hwh := hh r hm
        have hwr : IntKind.i64.wrap (r.h - 1) = r.h - 1 := wrap_i64 (by omega)
        refine asAddr_in ⟨_, _, Sep.ld3 hB rfl, asAddr_in ⟨_, _, Sep.ld3 hB rfl, hib, gl_ld (Sep.up5 hB) (nd nL) cH fun i3 e3 => ⟨_, (by rw [Int.toNat_natCast]; exact e3), by unfold inB; rw [hwr]; omega, ?_⟩⟩⟩
        have hol := offs_len (dgone (D.rs.take j)) D.Live
        rw [hwr, Nat.mul_one]
        refine gl_st (Sep.up6 hB) (nb fun e => by have := nV e; exact List.eq_nil_of_length_eq_zero (by rw [hol, this]; rfl)) (by simp only [List.length_map, List.length_cons, List.length_nil]; omega) (by simp) fun H50 h50 => ?_
        rw [setAt_bools] at h50
        have ek : dkept (D.rs.take (j + 1)) = dkept (D.rs.take j) := by rw [htk, dkept_snoc, if_neg hnot]
        have eg : dgone (D.rs.take (j + 1)) = dgone (D.rs.take j) ++ [r.h] := by rw [htk, dgone_snoc, if_neg hnot]
        refine ⟨⟨D.rs.length - (j + 1), by omega, j + 1, some f1', f2, by omega, rfl, hw, rfl, by rw [eg]; simp, rfl, by rw [ek], (fun h => by cases h), by rw [ek]; exact n2, ?_⟩, trivial⟩
        rw [eg, ek, offs_snoc, ints_append]
        -- bV f1' i5 f2 y bI bL dm
        exact Sep.pick h50 8 [1, 3, 4, 5, 6, 0, 7] (by decide)
  · obtain rfl : j = D.rs.length := by simp only [decide_eq_false_iff_not] at h1; omega
    rw [List.take_length] at hs n1 n2 ⊢
    refine asSl_in (asSl_in (asAddr_in (Sep.st2 hs (Nat.le_of_ble_eq_true rfl) fun H9 h9 => hR H9 f1 n1 ⟨bI, f2, bV, nI, n2, ?_, ?_, ?_⟩)))
    · intro e
      exact List.eq_nil_of_length_eq_zero (by show (offs D.Live _).length = 0; rw [offs_len, nV e]; rfl)
    · intro r hr
      exact nr r (List.mem_filter.1 hr).1
    · have h10 := many_filter dany (Sep.up6 h9)
      have e : (offs D.Live (dgone D.rs)).length = D.Live.length := offs_len _ _
      show Sep H9 (bx y (.cells true 0 [.slice (addr bI) D.In.length 0, .slice (addr f2) (dkept D.rs).length 0, .slice (addr bV) (offs D.Live (dgone D.rs)).length 0]) :: gl 1 bI (bools D.In) :: gl 2 f2 (drows (dkept D.rs)) :: gl 1 bV (bools (offs D.Live (dgone D.rs))) :: dm (dkept D.rs) :: gl 1 f1 (ints (dgone D.rs)) :: L)
      rw [e]
      -- dm f1 f2 y bI bL bV
      exact Sep.pick h10 7 [3, 4, 2, 6, 0, 1] (by decide)
end Go.Proofs.Ytdkbgjhlpoibdaa
