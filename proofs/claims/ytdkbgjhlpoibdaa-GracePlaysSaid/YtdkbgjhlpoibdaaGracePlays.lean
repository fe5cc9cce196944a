/-
  Whatever agents do, and whatever is deferred, comes to what the document says.
-/
import Derived.Test.YtdkbgjhlpoibdaaGraceRefs
namespace Go.Proofs.Ytdkbgjhlpoibdaa
open Go Go.AS Go.RowKit
set_option linter.unusedVariables false
variable {H H' : Heap} {R : Value → Heap → Prop} {L M : List Asr} {g m y N : Nat} {k a h : Int} {b : Option Nat} {G : Gr} {D : Dd}

/-! ### The two states tell the same -/
structure RowR (N : Nat) (w : Wt) (r : Dr) : Prop where
  h : r.h = w.h
  len : r.Fo.length = N
  bit : ∀ i : Nat, i < N → r.Fo.getD i false = decide ((i : Int) ∈ w.ws)
def RowsR (N : Nat) : List Wt → List Dr → Prop
  | [], [] => True
  | w :: q, r :: rs => RowR N w r ∧ RowsR N q rs
  | _, _ => False

theorem RowsR.len : ∀ {q : List Wt} {rs : List Dr}, RowsR N q rs → rs.length = q.length
  | [], [], _ => rfl
  | w :: q, r :: rs, h => by simp only [List.length_cons]; rw [RowsR.len h.2]
  | [], _ :: _, h => h.elim
  | _ :: _, [], h => h.elim
theorem RowsR.hs : ∀ {q : List Wt} {rs : List Dr}, RowsR N q rs → rs.map Dr.h = q.map Wt.h
  | [], [], _ => rfl
  | w :: q, r :: rs, h => by simp only [List.map_cons]; rw [RowsR.hs h.2, h.1.h]
  | [], _ :: _, h => h.elim
  | _ :: _, [], h => h.elim
theorem RowsR.lens : ∀ {q : List Wt} {rs : List Dr}, RowsR N q rs → ∀ r ∈ rs, r.Fo.length = N
  | [], [], _, r, hr => by simp at hr
  | w :: q, r :: rs, h, u, hu => by
    rcases List.mem_cons.1 hu with rfl | hu
    · exact h.1.len
    · exact RowsR.lens h.2 u hu
  | [], _ :: _, h, _, _ => h.elim
  | _ :: _, [], h, _, _ => h.elim
theorem RowR.any {w : Wt} {r : Dr} (h : RowR N w r) (hw : ∀ a ∈ w.ws, 0 ≤ a ∧ a < N) : dany r = ne w := by
  rw [Bool.eq_iff_iff, ne_iff]
  unfold dany
  rw [List.any_eq_true]
  constructor
  · rintro ⟨x, hx, e⟩
    have e : x = true := e
    subst e
    obtain ⟨i, hi, e⟩ := List.mem_iff_getElem.1 hx
    have h1 := h.bit i (by rw [← h.len]; exact hi)
    rw [List.getD_eq_getElem?_getD, List.getElem?_eq_getElem hi, e] at h1
    have h2 : (i : Int) ∈ w.ws := by simpa using h1.symm
    intro e2; rw [e2] at h2; simp at h2
  · intro hne
    obtain ⟨a, l, e⟩ := List.exists_cons_of_ne_nil hne
    have ha : a ∈ w.ws := by rw [e]; simp
    have hb := hw a ha
    obtain ⟨i, rfl⟩ := Int.eq_ofNat_of_zero_le hb.1
    have h1 := h.bit i (by omega)
    rw [decide_eq_true ha, List.getD_eq_getElem?_getD] at h1
    cases e2 : r.Fo[i]? with
    | none => rw [e2] at h1; cases h1
    | some v =>
      rw [e2] at h1
      exact ⟨v, List.mem_of_getElem? e2, h1⟩
theorem RowsR.swept : ∀ {q : List Wt} {rs : List Dr}, RowsR N q rs → (∀ w ∈ q, ∀ a ∈ w.ws, 0 ≤ a ∧ a < N) → RowsR N (kept q) (dkept rs) ∧ dgone rs = gone q
  | [], [], _, _ => ⟨trivial, rfl⟩
  | w :: q, r :: rs, h, hw => by
    obtain ⟨h1, h2⟩ := RowsR.swept h.2 fun u hu => hw u (List.mem_cons_of_mem _ hu)
    have ha := h.1.any (hw w (by simp))
    unfold kept dkept at h1 ⊢
    unfold gone dgone at h2 ⊢
    rw [List.filter_cons, List.filter_cons, List.filter_cons, List.filter_cons, ha]
    cases hn : ne w
    · simp only [Bool.not_false, if_true, Bool.false_eq_true, if_false, List.map_cons]
      exact ⟨h1, by rw [h2, h.1.h]⟩
    · simp only [Bool.not_true, if_true, Bool.false_eq_true, if_false]
      exact ⟨⟨h.1, h1⟩, h2⟩
  | [], _ :: _, h, _ => h.elim
  | _ :: _, [], h, _ => h.elim
theorem RowsR.snoc : ∀ {q : List Wt} {rs : List Dr}, RowsR N q rs → ∀ {w : Wt} {r : Dr}, RowR N w r → RowsR N (q ++ [w]) (rs ++ [r])
  | [], [], _, _, _, h => ⟨h, trivial⟩
  | _ :: _, _ :: _, h, _, _, h2 => ⟨h.1, RowsR.snoc h.2 h2⟩
  | [], _ :: _, h, _, _, _ => h.elim
  | _ :: _, [], h, _, _, _ => h.elim
theorem set_off {l : List Bool} {n i : Nat} : (l.set n false).getD i false = (if n = i then false else l.getD i false) := by
  rw [List.getD_eq_getElem?_getD, List.getElem?_set]
  by_cases e : n = i
  · rw [if_pos e, if_pos e]; split <;> rfl
  · rw [if_neg e, if_neg e, ← List.getD_eq_getElem?_getD]
theorem set_on {l : List Bool} {n i : Nat} (hn : n < l.length) : (l.set n true).getD i false = (if n = i then true else l.getD i false) := by
  rw [List.getD_eq_getElem?_getD, List.getElem?_set]
  by_cases e : n = i
  · rw [if_pos e, if_pos e, if_pos hn]; rfl
  · rw [if_neg e, if_neg e, ← List.getD_eq_getElem?_getD]
theorem RowsR.er : ∀ {q : List Wt} {rs : List Dr}, RowsR N q rs → (∀ w ∈ q, w.ws.Nodup) → 0 ≤ a → RowsR N (q.map (er a)) (rs.map (dr a))
  | [], [], _, _, _ => trivial
  | w :: q, r :: rs, h, hn, ha => by
    refine ⟨⟨h.1.h, ?_, fun i hi => ?_⟩, RowsR.er h.2 (fun u hu => hn u (List.mem_cons_of_mem _ hu)) ha⟩
    · show (r.Fo.set _ _).length = N
      rw [List.length_set]; exact h.1.len
    · show (r.Fo.set a.toNat false).getD i false = decide ((i : Int) ∈ w.ws.erase a)
      rw [set_off, h.1.bit i hi]
      by_cases e : a.toNat = i
      · rw [if_pos e, decide_eq_false]
        rw [(hn w (by simp)).mem_erase_iff]
        intro h; exact h.1 (by omega)
      · rw [if_neg e]
        congr 1
        rw [(hn w (by simp)).mem_erase_iff]
        exact propext ⟨fun h => ⟨by omega, h⟩, fun h => h.2⟩
  | [], _ :: _, h, _, _ => h.elim
  | _ :: _, [], h, _, _ => h.elim

structure Rl (N : Nat) (G : Gr) (D : Dd) : Prop where
  n : ∀ a : Int, 0 ≤ a → (a < G.n ↔ a < N)
  il : D.In.length = N
  inn : ∀ i : Nat, i < N → D.In.getD i false = decide ((i : Int) ∈ G.ins)
  ib : ∀ a ∈ G.ins, 0 ≤ a ∧ a < N
  rows : RowsR N G.q D.rs
  ll : D.Live.length = 20
  live : ∀ i : Nat, i < 20 → D.Live.getD i false = decide (G.S.size ((i : Int) + 1) ≠ 0)
  sz : ∀ k, G.S.size k ≠ 0 → 1 ≤ k ∧ k ≤ 20
  qh : ∀ h ∈ G.q.map Wt.h, 1 ≤ h ∧ h ≤ 20

theorem offs_get : ∀ (hs : List Int) (V : List Bool), (∀ h ∈ hs, 1 ≤ h) → ∀ i : Nat, (offs V hs).getD i false = if ((i : Int) + 1) ∈ hs then false else V.getD i false
  | [], V, _, i => by simp [offs]
  | h :: hs, V, hh, i => by
    show (offs (off1 V h) hs).getD i false = _
    rw [offs_get hs _ (fun k hk => hh k (List.mem_cons_of_mem _ hk))]
    have := hh h (by simp)
    unfold off1
    rw [set_off]
    by_cases e1 : ((i : Int) + 1) ∈ hs
    · rw [if_pos e1, if_pos (List.mem_cons_of_mem _ e1)]
    · rw [if_neg e1]
      by_cases e2 : (h - 1).toNat = i
      · rw [if_pos e2, if_pos (List.mem_cons.2 (.inl (by omega)))]
      · rw [if_neg e2, if_neg]
        simp only [List.mem_cons, not_or]
        exact ⟨by omega, e1⟩

theorem Rl.swept (r : Rl N G D) (p : Pre G) : Rl N G.swept D.swept ∧ dgone D.rs = gone G.q := by
  obtain ⟨h1, h2⟩ := r.rows.swept fun w hw a ha => r.ib a ((p.ws w hw).1 a ha)
  have es : ∀ k, G.swept.S.size k = if k ∈ gone G.q then 0 else G.S.size k := fun k => frees_size _ _ _
  refine ⟨⟨r.n, r.il, r.inn, r.ib, h1, ?_, fun i hi => ?_, fun k hk => ?_, fun h hh => r.qh h (kept_sub hh)⟩, h2⟩
  · show (offs D.Live _).length = 20; rw [offs_len]; exact r.ll
  · show (offs D.Live (dgone D.rs)).getD i false = _
    rw [h2, offs_get _ _ (fun h hh => (r.qh h (gone_sub hh)).1), es, r.live i hi]
    by_cases e : ((i : Int) + 1) ∈ gone G.q
    · rw [if_pos e, if_pos e]; simp
    · rw [if_neg e, if_neg e]
  · rw [es] at hk
    by_cases e : k ∈ gone G.q
    · rw [if_pos e] at hk; exact (hk rfl).elim
    · rw [if_neg e] at hk; exact r.sz k hk

theorem Rl.has (r : Rl N G D) (a : Int) : D.has a = decide (a ∈ G.ins) := by
  unfold Dd.has
  rw [r.il]
  by_cases h : 0 ≤ a ∧ a < N
  · obtain ⟨i, rfl⟩ := Int.eq_ofNat_of_zero_le h.1
    rw [decide_eq_true h.1, decide_eq_true h.2, Int.toNat_natCast, r.inn i (by omega)]; rfl
  · rw [decide_eq_false (fun hc => h (r.ib a hc))]
    by_cases h1 : 0 ≤ a
    · rw [decide_eq_false (fun h2 => h ⟨h1, h2⟩)]; simp
    · rw [decide_eq_false h1]; simp

theorem Rl.enter (r : Rl N G D) (a : Int) : (D.enter a).1 = (G.enter a).1 ∧ Rl N (G.enter a).2 (D.enter a).2 := by
  have e : (0 ≤ a ∧ a < D.In.length ∧ D.In.getD a.toNat false = false) ↔ ¬ (a < 0 ∨ G.n ≤ a ∨ a ∈ G.ins) := by
    rw [r.il]
    constructor
    · rintro ⟨h1, h2, h3⟩ hc
      have := (r.n a h1).2 h2
      obtain ⟨i, rfl⟩ := Int.eq_ofNat_of_zero_le h1
      rw [Int.toNat_natCast, r.inn i (by omega)] at h3
      rcases hc with hc | hc | hc
      · omega
      · omega
      · rw [decide_eq_true hc] at h3; cases h3
    · intro hc
      simp only [not_or] at hc
      have h1 : 0 ≤ a := by omega
      have h2 := (r.n a h1).1 (by omega)
      obtain ⟨i, rfl⟩ := Int.eq_ofNat_of_zero_le h1
      exact ⟨h1, h2, by rw [Int.toNat_natCast, r.inn i (by omega), decide_eq_false hc.2.2]⟩
  unfold Dd.enter Gr.enter
  by_cases h : a < 0 ∨ G.n ≤ a ∨ a ∈ G.ins
  · rw [if_pos h, if_neg (fun hc => e.1 hc h)]
    exact ⟨rfl, r⟩
  · have hd := e.2 h
    rw [if_neg h, if_pos hd]
    simp only [not_or] at h
    have hl := r.il
    refine ⟨rfl, ⟨r.n, ?_, fun i hi => ?_, fun b hb => ?_, r.rows, r.ll, r.live, r.sz, r.qh⟩⟩
    · show (D.In.set _ _).length = N; rw [List.length_set]; exact r.il
    · show (D.In.set a.toNat true).getD i false = decide ((i : Int) ∈ G.ins ++ [a])
      rw [set_on (by omega), r.inn i hi]
      by_cases e1 : a.toNat = i
      · rw [if_pos e1, decide_eq_true]
        exact List.mem_append.2 (.inr (by simp; omega))
      · rw [if_neg e1]
        congr 1
        rw [List.mem_append, List.mem_singleton]
        exact propext ⟨.inl, fun h => h.resolve_right fun h => e1 (by omega)⟩
    · rcases List.mem_append.1 hb with hb | hb
      · exact r.ib b hb
      · simp at hb; subst hb; omega

theorem Rl.left (r : Rl N G D) (p : Ok G) (ha : a ∈ G.ins) : Rl N (G.left a) (D.left a) := by
  have h0 := r.ib a ha
  refine ⟨r.n, ?_, fun i hi => ?_, fun b hb => r.ib b (List.mem_of_mem_erase hb), r.rows.er (fun w hw => (p.ws w hw).2) h0.1, r.ll, r.live, r.sz, ?_⟩
  · show (D.In.set _ _).length = N; rw [List.length_set]; exact r.il
  · show (D.In.set a.toNat false).getD i false = decide ((i : Int) ∈ G.ins.erase a)
    rw [set_off, r.inn i hi]
    by_cases e : a.toNat = i
    · rw [if_pos e, decide_eq_false]
      rw [p.ind.mem_erase_iff]
      intro h; exact h.1 (by omega)
    · rw [if_neg e]
      congr 1
      rw [p.ind.mem_erase_iff]
      exact propext ⟨fun h => ⟨by omega, h⟩, fun h => h.2⟩
  · show ∀ h ∈ (G.q.map (Go.Proofs.Ytdkbgjhlpoibdaa.er a)).map Wt.h, _
    rw [map_er]; exact r.qh
theorem Rl.leave (r : Rl N G D) (p : Ok G) (a : Int) : (D.leave a).1 = (G.leave a).1 ∧ Rl N (G.leave a).2 (D.leave a).2 := by
  unfold Dd.leave Gr.leave
  rw [r.has]
  by_cases h : a ∈ G.ins
  · rw [if_pos h, if_pos (by simpa using h)]
    obtain ⟨h1, h2⟩ := (r.left p h).swept p.left
    exact ⟨h2, h1⟩
  · rw [if_neg h, if_neg (by simpa using h)]
    exact ⟨rfl, r⟩
theorem Rl.defer {mb : Nat} {mf : Option Nat} (r : Rl N G D) (p : Ok G) (h : Int) : (D.defer h mf).1 = (G.defer h mb).1 ∧ Rl N (G.defer h mb).2 (D.defer h mf).2 := by
  have e : D.may h ↔ ¬ (G.S.size h = 0 ∨ h ∈ G.q.map Wt.h) := by
    unfold Dd.may
    rw [r.rows.hs, r.ll]
    constructor
    · rintro ⟨h1, h2, h3, h4⟩ hc
      have := r.live (h - 1).toNat (by omega)
      rw [h3, show (((h - 1).toNat : Nat) : Int) + 1 = h by omega] at this
      rcases hc with hc | hc
      · rw [hc] at this; simp at this
      · exact h4 hc
    · intro hc
      simp only [not_or] at hc
      have hb := r.sz h hc.1
      refine ⟨hb.1, by omega, ?_, hc.2⟩
      rw [r.live (h - 1).toNat (by omega), show (((h - 1).toNat : Nat) : Int) + 1 = h by omega, decide_eq_true hc.1]
  unfold Dd.defer Gr.defer
  by_cases hc : G.S.size h = 0 ∨ h ∈ G.q.map Wt.h
  · rw [if_pos hc, if_neg fun hm => e.1 hm hc]
    exact ⟨rfl, r⟩
  · rw [if_neg hc, if_pos (e.2 hc)]
    simp only [not_or] at hc
    have ra : Rl N (G.add h mb) (D.add h mf) := by
      refine ⟨r.n, r.il, r.inn, r.ib, r.rows.snoc ⟨rfl, r.il, r.inn⟩, r.ll, r.live, r.sz, fun k hk => ?_⟩
      have : (G.add h mb).q = G.q ++ [⟨h, mb, G.ins⟩] := rfl
      rw [this, List.map_append, List.mem_append] at hk
      rcases hk with hk | hk
      · exact r.qh k hk
      · simp at hk; subst hk; exact r.sz _ hc.1
    obtain ⟨h1, h2⟩ := ra.swept (p.add h hc.2)
    exact ⟨h2, h1⟩

/-! ### Both of them in the memory -/
def Both (H : Heap) (g m y : Nat) (G : Gr) (D : Dd) (L : List Asr) : Prop :=
  ∃ b junk bI bL bV, (b = none → G.q = []) ∧ (b = none → junk = []) ∧ (bI = none → D.In = []) ∧ (bL = none → D.rs = []) ∧ (bV = none → D.Live = []) ∧ (∀ r ∈ D.rs, r.b = none → r.Fo = []) ∧ Sep H (GS g m b junk G (DS y bI bL bV D L))

theorem Both.isG (h : Both H g m y G D L) : ∃ bI bL bV, IsG H g m G (DS y bI bL bV D L) ∧ (bI = none → D.In = []) ∧ (bL = none → D.rs = []) ∧ (bV = none → D.Live = []) ∧ (∀ r ∈ D.rs, r.b = none → r.Fo = []) := by
  obtain ⟨b, junk, bI, bL, bV, h1, h2, h3, h4, h5, h6, hs⟩ := h
  exact ⟨bI, bL, bV, ⟨b, junk, h1, h2, hs⟩, h3, h4, h5, h6⟩
theorem Both.isD (h : Both H g m y G D L) : ∃ b junk, IsD H y D (GS g m b junk G L) ∧ (b = none → G.q = []) ∧ (b = none → junk = []) := by
  obtain ⟨b, junk, bI, bL, bV, h1, h2, h3, h4, h5, h6, hs⟩ := h
  exact ⟨b, junk, ⟨bI, bL, bV, h3, h4, h5, h6, Sep.pick hs 10 [5, 6, 7, 8, 9, 0, 1, 2, 3, 4] (by decide)⟩, h1, h2⟩
theorem Both.ofG {bI bL bV : Option Nat} (h : IsG H g m G (DS y bI bL bV D L)) (h3 : bI = none → D.In = []) (h4 : bL = none → D.rs = []) (h5 : bV = none → D.Live = []) (h6 : ∀ r ∈ D.rs, r.b = none → r.Fo = []) : Both H g m y G D L := by
  obtain ⟨b, junk, h1, h2, hs⟩ := h.ex
  exact ⟨b, junk, bI, bL, bV, h1, h2, h3, h4, h5, h6, hs⟩
theorem Both.ofG1 {A : Asr} {bI bL bV : Option Nat} (h : IsG H g m G (A :: DS y bI bL bV D L)) (h3 : bI = none → D.In = []) (h4 : bL = none → D.rs = []) (h5 : bV = none → D.Live = []) (h6 : ∀ r ∈ D.rs, r.b = none → r.Fo = []) : Both H g m y G D (A :: L) := by
  obtain ⟨b, junk, h1, h2, hs⟩ := h.ex
  exact ⟨b, junk, bI, bL, bV, h1, h2, h3, h4, h5, h6, Sep.pick hs 11 [0, 1, 2, 3, 4, 6, 7, 8, 9, 10, 5] (by decide)⟩
theorem Both.ofD {b : Option Nat} {junk : List Value} (h : IsD H y D (GS g m b junk G L)) (h1 : b = none → G.q = []) (h2 : b = none → junk = []) : Both H g m y G D L := by
  obtain ⟨bI, bL, bV, h3, h4, h5, h6, hs⟩ := h.ex
  exact ⟨b, junk, bI, bL, bV, h1, h2, h3, h4, h5, h6, Sep.pick hs 10 [5, 6, 7, 8, 9, 0, 1, 2, 3, 4] (by decide)⟩
theorem Both.ofD1 {A : Asr} {b : Option Nat} {junk : List Value} (h : IsD H y D (A :: GS g m b junk G L)) (h1 : b = none → G.q = []) (h2 : b = none → junk = []) : Both H g m y G D (A :: L) := by
  obtain ⟨bI, bL, bV, h3, h4, h5, h6, hs⟩ := h.ex
  exact ⟨b, junk, bI, bL, bV, h1, h2, h3, h4, h5, h6, Sep.pick hs 11 [6, 7, 8, 9, 10, 0, 1, 2, 3, 4, 5] (by decide)⟩
theorem Both.front (h : Both H g m y G D L) : ∃ K, Sep H (L ++ K) ∧ ∀ H', Sep H' (L ++ K) → Both H' g m y G D L := by
  obtain ⟨b, junk, bI, bL, bV, h1, h2, h3, h4, h5, h6, hs⟩ := h
  refine ⟨GS g m b junk G (DS y bI bL bV D []), ?_, fun H' h' => ⟨b, junk, bI, bL, bV, h1, h2, h3, h4, h5, h6, ?_⟩⟩
  · have e : GS g m b junk G (DS y bI bL bV D L) = GS g m b junk G (DS y bI bL bV D []) ++ L := rfl
    rw [e] at hs
    exact hs.perm List.perm_append_comm
  · have e : GS g m b junk G (DS y bI bL bV D L) = GS g m b junk G (DS y bI bL bV D []) ++ L := rfl
    rw [e]
    exact h'.perm List.perm_append_comm
theorem Both.front2 {A B : Asr} (h : Both H g m y G D (A :: B :: L)) : ∃ K, Sep H (A :: B :: (L ++ K)) ∧ ∀ H', Sep H' (L ++ K) → Both H' g m y G D L := by
  obtain ⟨b, junk, bI, bL, bV, h1, h2, h3, h4, h5, h6, hs⟩ := h
  refine ⟨GS g m b junk G (DS y bI bL bV D []), ?_, fun H' h' => ⟨b, junk, bI, bL, bV, h1, h2, h3, h4, h5, h6, ?_⟩⟩
  · have e : GS g m b junk G (DS y bI bL bV D (A :: B :: L)) = GS g m b junk G (DS y bI bL bV D []) ++ (A :: B :: L) := rfl
    rw [e] at hs
    exact hs.perm List.perm_append_comm
  · have e : GS g m b junk G (DS y bI bL bV D L) = GS g m b junk G (DS y bI bL bV D []) ++ L := rfl
    rw [e]
    exact h'.perm List.perm_append_comm
theorem Both.drop {A : Asr} (h : Both H g m y G D (A :: L)) : Both H g m y G D L := by
  obtain ⟨b, junk, bI, bL, bV, h1, h2, h3, h4, h5, h6, hs⟩ := h
  exact ⟨b, junk, bI, bL, bV, h1, h2, h3, h4, h5, h6, Sep.pick hs 11 [0, 1, 2, 3, 4, 5, 6, 7, 8, 9] (by decide)⟩
theorem Both.mem (h : Both H g m y G D M) {l : List (Int × Int)} {a : Option Addr} {n : Nat} (ha : Arg a n (l.map aCells) M) {j : Nat} {x : Int × Int} (hx : l[j]? = some x) : ∃ i, a = some ⟨i, 0, none⟩ ∧ H.cell i (0 + j * 2) = some (I x.1) ∧ H.cell i (0 + j * 2 + 1) = some (I x.2) := by
  obtain ⟨K, h1, _⟩ := h.front
  exact rda_arg ha (fun A hA => List.mem_append_left _ hA) H h1 j x hx
theorem Both.bump (h : Both H g m y G D L) (n : Nat) : Both (H.bump n) g m y G D L := by
  obtain ⟨b, junk, bI, bL, bV, h1, h2, h3, h4, h5, h6, hs⟩ := h
  exact ⟨b, junk, bI, bL, bV, h1, h2, h3, h4, h5, h6, hs.bump n⟩
end Go.Proofs.Ytdkbgjhlpoibdaa
