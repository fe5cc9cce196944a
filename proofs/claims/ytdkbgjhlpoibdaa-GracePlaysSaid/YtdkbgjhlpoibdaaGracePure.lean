/-
  Regions that go when nobody can have them: what a sweep leaves, without the program.
-/
import Derived.Test.YtdkbgjhlpoibdaaGraceKit
namespace Go.Proofs.Ytdkbgjhlpoibdaa
open Go Go.AS Go.RowKit
set_option linter.unusedVariables false
variable {G : Gr} {C : List Int} {A : List Bool} {a h k : Int} {q : List Wt}

theorem gone_mem : h ∈ gone q ↔ ∃ w ∈ q, w.ws = [] ∧ w.h = h := by
  unfold gone
  rw [List.mem_map]
  constructor
  · rintro ⟨w, hw, e⟩
    rw [List.mem_filter] at hw
    refine ⟨w, hw.1, ?_, e⟩
    by_cases hn : w.ws = []
    · exact hn
    · have := (ne_iff w).2 hn
      rw [this] at hw; simp at hw
  · rintro ⟨w, hw, hn, e⟩
    refine ⟨w, List.mem_filter.2 ⟨hw, ?_⟩, e⟩
    unfold ne; rw [hn]; rfl
theorem kept_mem : h ∈ (kept q).map Wt.h ↔ ∃ w ∈ q, w.ws ≠ [] ∧ w.h = h := by
  unfold kept
  rw [List.mem_map]
  constructor
  · rintro ⟨w, hw, e⟩
    rw [List.mem_filter] at hw
    exact ⟨w, hw.1, (ne_iff w).1 hw.2, e⟩
  · rintro ⟨w, hw, hn, e⟩
    exact ⟨w, List.mem_filter.2 ⟨hw, (ne_iff w).2 hn⟩, e⟩
theorem same_of_h : ∀ {q : List Wt}, (q.map Wt.h).Nodup → ∀ {w w' : Wt}, w ∈ q → w' ∈ q → w.h = w'.h → w = w'
  | [], _, _, _, h1, _, _ => by simp at h1
  | x :: q, nd, w, w', h1, h2, e => by
    rw [List.map_cons, List.nodup_cons] at nd
    rcases List.mem_cons.1 h1 with h1 | h1
    · rcases List.mem_cons.1 h2 with h2 | h2
      · rw [h1, h2]
      · exact (nd.1 (List.mem_map.2 ⟨w', h2, by rw [← e, h1]⟩)).elim
    · rcases List.mem_cons.1 h2 with h2 | h2
      · exact (nd.1 (List.mem_map.2 ⟨w, h1, by rw [e, h2]⟩)).elim
      · exact same_of_h nd.2 h1 h2 e
theorem gone_kept (nd : (q.map Wt.h).Nodup) (h1 : h ∈ gone q) : h ∉ (kept q).map Wt.h := fun h2 => by
  obtain ⟨w, hw, e, eh⟩ := gone_mem.1 h1
  obtain ⟨w', hw', e', eh'⟩ := kept_mem.1 h2
  exact e' (same_of_h nd hw hw' (eh.trans eh'.symm) ▸ e)
theorem gone_or (h1 : h ∈ q.map Wt.h) : h ∈ gone q ∨ h ∈ (kept q).map Wt.h := by
  obtain ⟨w, hw, e⟩ := List.mem_map.1 h1
  by_cases hn : w.ws = []
  · exact .inl (gone_mem.2 ⟨w, hw, hn, e⟩)
  · exact .inr (kept_mem.2 ⟨w, hw, hn, e⟩)
theorem gone_sub (h1 : h ∈ gone q) : h ∈ q.map Wt.h := by
  obtain ⟨w, hw, _, e⟩ := gone_mem.1 h1
  exact List.mem_map.2 ⟨w, hw, e⟩
theorem kept_sub (h1 : h ∈ (kept q).map Wt.h) : h ∈ q.map Wt.h := by
  obtain ⟨w, hw, _, e⟩ := kept_mem.1 h1
  exact List.mem_map.2 ⟨w, hw, e⟩
theorem gone_nd (nd : (q.map Wt.h).Nodup) : (gone q).Nodup := List.Sublist.nodup (List.Sublist.map _ List.filter_sublist) nd
theorem kept_nd (nd : (q.map Wt.h).Nodup) : ((kept q).map Wt.h).Nodup := List.Sublist.nodup (List.Sublist.map _ List.filter_sublist) nd

/-- What always holds. -/
structure Pre (G : Gr) : Prop where
  ind : G.ins.Nodup
  nd : (G.q.map Wt.h).Nodup
  ws : ∀ w ∈ G.q, (∀ a ∈ w.ws, a ∈ G.ins) ∧ w.ws.Nodup
structure Ok (G : Gr) : Prop extends Pre G where
  full : ∀ w ∈ G.q, w.ws ≠ []

theorem Pre.swept (p : Pre G) : Ok G.swept := by
  refine ⟨⟨p.ind, kept_nd p.nd, fun w hw => p.ws w (List.mem_filter.1 hw).1⟩, fun w hw => (ne_iff w).1 (List.mem_filter.1 hw).2⟩
theorem Ok.enter (p : Ok G) : Ok (G.enter a).2 := by
  unfold Gr.enter
  split
  · exact p
  · rename_i h
    simp only [not_or] at h
    refine ⟨⟨?_, p.nd, fun w hw => ⟨fun b hb => List.mem_append.2 (.inl ((p.ws w hw).1 b hb)), (p.ws w hw).2⟩⟩, p.full⟩
    exact List.nodup_append.2 ⟨p.ind, by simp, fun x hx y hy e => by simp at hy; subst hy; subst e; exact h.2.2 hx⟩
theorem map_er (a : Int) (q : List Wt) : (q.map (er a)).map Wt.h = q.map Wt.h := by rw [List.map_map]; rfl
theorem Ok.left (p : Ok G) : Pre (G.left a) := by
  refine ⟨p.ind.erase a, ?_, fun w hw => ?_⟩
  · show ((G.q.map (er a)).map Wt.h).Nodup
    rw [map_er]; exact p.nd
  · obtain ⟨u, hu, rfl⟩ := List.mem_map.1 hw
    refine ⟨fun b hb => ?_, (p.ws u hu).2.erase a⟩
    have hb' : b ∈ u.ws.erase a := hb
    rw [(p.ws u hu).2.mem_erase_iff] at hb'
    show b ∈ G.ins.erase a
    rw [p.ind.mem_erase_iff]
    exact ⟨hb'.1, (p.ws u hu).1 b hb'.2⟩
theorem Ok.leave (p : Ok G) : Ok (G.leave a).2 := by
  unfold Gr.leave
  split
  · exact p.left.swept
  · exact p
theorem Ok.add {mb : Nat} (p : Ok G) (h : Int) (hn : h ∉ G.q.map Wt.h) : Pre (G.add h mb) := by
  refine ⟨p.ind, ?_, fun w hw => ?_⟩
  · show ((G.q ++ [_]).map Wt.h).Nodup
    rw [List.map_append]
    exact List.nodup_append.2 ⟨p.nd, by simp, fun x hx y hy e => by simp at hy; subst hy; subst e; exact hn hx⟩
  · rcases List.mem_append.1 hw with hw | hw
    · exact p.ws w hw
    · simp at hw; subst hw
      exact ⟨fun a h => h, p.ind⟩
theorem Ok.defer {mb : Nat} (p : Ok G) (h : Int) : Ok (G.defer h mb).2 := by
  unfold Gr.defer
  split
  · exact p
  · rename_i hn
    simp only [not_or] at hn
    exact (p.add h hn.2).swept

/-! ### How often each was freed -/
def bump1 (C : List Int) (h : Int) : List Int := C.set h.toNat (C.getD h.toNat 0 + 1)
def bumps (C : List Int) (hs : List Int) : List Int := hs.foldl bump1 C
theorem bumps_len : ∀ (hs C : List Int), (bumps C hs).length = C.length
  | [], C => rfl
  | h :: hs, C => by show (bumps (bump1 C h) hs).length = _; rw [bumps_len hs]; simp [bump1]
theorem bump1_get {n : Nat} (hl : C.length = 21) (hh : 0 ≤ h ∧ h ≤ 20) : (bump1 C h).getD n 0 = C.getD n 0 + if (n : Int) = h then 1 else 0 := by
  unfold bump1
  rw [List.getD_eq_getElem?_getD, List.getElem?_set]
  by_cases e : h.toNat = n
  · subst e
    rw [if_pos rfl, if_pos (by omega), if_pos (by omega)]; rfl
  · rw [if_neg e, if_neg (by omega), ← List.getD_eq_getElem?_getD]; omega
theorem bumps_get : ∀ (hs C : List Int) (n : Nat), C.length = 21 → (∀ h ∈ hs, 0 ≤ h ∧ h ≤ 20) → hs.Nodup → (bumps C hs).getD n 0 = C.getD n 0 + if (n : Int) ∈ hs then 1 else 0
  | [], C, n, _, _, _ => by simp [bumps]
  | h :: hs, C, n, hl, hh, nd => by
    show (bumps (bump1 C h) hs).getD n 0 = _
    rw [List.nodup_cons] at nd
    rw [bumps_get hs _ n (by simpa [bump1] using hl) (fun x hx => hh x (List.mem_cons_of_mem _ hx)) nd.2, bump1_get hl (hh h (by simp))]
    by_cases e : (n : Int) = h
    · rw [if_pos e, if_neg (by rw [e]; exact nd.1), if_pos (by simp [e])]; omega
    · have : ((n : Int) ∈ h :: hs) ↔ (n : Int) ∈ hs := by simp [e]
      rw [if_neg e]
      simp only [this]
      omega

structure St (G : Gr) (C : List Int) (A : List Bool) : Prop where
  cl : C.length = 21
  al : A.length = 21
  row : ∀ n : Nat, 1 ≤ n → n ≤ 20 → (A.getD n false = true ∧ (((n : Int) ∈ G.q.map Wt.h ∧ C.getD n 0 = 0 ∧ G.S.size n ≠ 0) ∨ ((n : Int) ∉ G.q.map Wt.h ∧ C.getD n 0 = 1 ∧ G.S.size n = 0))) ∨ (A.getD n false = false ∧ (n : Int) ∉ G.q.map Wt.h ∧ C.getD n 0 = 0 ∧ G.S.size n ≠ 0)
  qh : ∀ h ∈ G.q.map Wt.h, 1 ≤ h ∧ h ≤ 20

theorem St.swept (s : St G C A) (p : Pre G) : St G.swept (bumps C (gone G.q)) A := by
  refine ⟨by rw [bumps_len]; exact s.cl, s.al, fun n h1 h2 => ?_, fun h hh => s.qh h (kept_sub hh)⟩
  have eb : (bumps C (gone G.q)).getD n 0 = C.getD n 0 + if (n : Int) ∈ gone G.q then 1 else 0 :=
    bumps_get _ _ _ s.cl (fun h hh => by have := s.qh h (gone_sub hh); omega) (gone_nd p.nd)
  have es : G.swept.S.size n = if (n : Int) ∈ gone G.q then 0 else G.S.size n := frees_size _ _ _
  have eq : G.swept.q = kept G.q := rfl
  rw [eb, es, eq]
  rcases s.row n h1 h2 with ⟨ha, ⟨hq, hc, hs⟩ | ⟨hq, hc, hs⟩⟩ | ⟨ha, hq, hc, hs⟩
  · left
    refine ⟨ha, ?_⟩
    rcases gone_or hq with hg | hk
    · right
      rw [if_pos hg, if_pos hg, hc]
      exact ⟨gone_kept p.nd hg, by omega, rfl⟩
    · left
      have hg : (n : Int) ∉ gone G.q := fun h => gone_kept p.nd h hk
      rw [if_neg hg, if_neg hg, hc]
      exact ⟨hk, by omega, hs⟩
  · left
    have hg : (n : Int) ∉ gone G.q := fun h => hq (gone_sub h)
    rw [if_neg hg, if_neg hg, hc]
    exact ⟨ha, .inr ⟨fun h => hq (kept_sub h), by omega, hs⟩⟩
  · right
    have hg : (n : Int) ∉ gone G.q := fun h => hq (gone_sub h)
    rw [if_neg hg, if_neg hg, hc]
    exact ⟨ha, fun h => hq (kept_sub h), by omega, hs⟩
theorem St.enter (s : St G C A) : St (G.enter a).2 C A := by
  unfold Gr.enter
  split
  · exact s
  · exact ⟨s.cl, s.al, s.row, s.qh⟩
theorem St.left (s : St G C A) : St (G.left a) C A := by
  refine ⟨s.cl, s.al, ?_, ?_⟩
  · show ∀ n : Nat, 1 ≤ n → n ≤ 20 → (A.getD n false = true ∧ (((n : Int) ∈ (G.q.map (er a)).map Wt.h ∧ C.getD n 0 = 0 ∧ G.S.size n ≠ 0) ∨ ((n : Int) ∉ (G.q.map (er a)).map Wt.h ∧ C.getD n 0 = 1 ∧ G.S.size n = 0))) ∨ (A.getD n false = false ∧ (n : Int) ∉ (G.q.map (er a)).map Wt.h ∧ C.getD n 0 = 0 ∧ G.S.size n ≠ 0)
    rw [map_er]; exact s.row
  · show ∀ h ∈ (G.q.map (er a)).map Wt.h, _
    rw [map_er]; exact s.qh
theorem St.leave (s : St G C A) (p : Ok G) : St (G.leave a).2 (bumps C (G.leave a).1) A ∧ (∀ h ∈ (G.leave a).1, 1 ≤ h ∧ h ≤ 20) := by
  unfold Gr.leave
  split
  · exact ⟨s.left.swept p.left, fun h hh => s.left.qh h (gone_sub hh)⟩
  · exact ⟨s, fun h hh => by simp at hh⟩
theorem St.defer {mb : Nat} (s : St G C A) (p : Ok G) (hh : 1 ≤ h ∧ h ≤ 20) : St (G.defer h mb).2 (bumps C (G.defer h mb).1) (A.set h.toNat true) ∧ (∀ k ∈ (G.defer h mb).1, 1 ≤ k ∧ k ≤ 20) := by
  obtain ⟨n, rfl⟩ := Int.eq_ofNat_of_zero_le (a := h) (by omega)
  have hn := s.row n (by omega) (by omega)
  have hal := s.al
  have eA : ∀ k : Nat, (A.set n true).getD k false = if n = k then true else A.getD k false := fun k => by
    rw [List.getD_eq_getElem?_getD, List.getElem?_set]
    by_cases e : n = k
    · subst e; rw [if_pos rfl, if_pos (by omega), if_pos rfl]; rfl
    · rw [if_neg e, if_neg e, ← List.getD_eq_getElem?_getD]
  show St _ _ (A.set n true) ∧ _
  unfold Gr.defer
  split
  · rename_i hc
    refine ⟨⟨s.cl, by simpa using s.al, fun k h1 h2 => ?_, s.qh⟩, fun h hh => by simp at hh⟩
    rw [eA]
    by_cases e : n = k
    · subst e
      rw [if_pos rfl]
      rcases hn with ⟨ha, hr⟩ | ⟨ha, hq, _, hs⟩
      · exact .inl ⟨rfl, hr⟩
      · rcases hc with hc | hc
        · exact (hs hc).elim
        · exact (hq hc).elim
    · rw [if_neg e]; exact s.row k h1 h2
  · rename_i hc
    simp only [not_or] at hc
    have s' : St (G.add n mb) C (A.set n true) := by
      have em : ∀ k : Nat, (k : Int) ∈ (G.add n mb).q.map Wt.h ↔ (k : Int) ∈ G.q.map Wt.h ∨ k = n := fun k => by
        show (k : Int) ∈ (G.q ++ ([⟨(n : Int), mb, G.ins⟩] : List Wt)).map Wt.h ↔ _
        rw [List.map_append, List.mem_append]
        simp only [List.map_cons, List.map_nil, List.mem_singleton]
        exact or_congr_right (by omega)
      refine ⟨s.cl, by simpa using s.al, fun k h1 h2 => ?_, fun k hk => ?_⟩
      · have hS : (G.add n mb).S = G.S := rfl
        rw [eA, em, hS]
        by_cases e : n = k
        · subst e
          rw [if_pos rfl]
          left
          refine ⟨rfl, .inl ⟨.inr rfl, ?_, hc.1⟩⟩
          rcases hn with ⟨ha, ⟨hq, _, _⟩ | ⟨_, _, hs⟩⟩ | ⟨ha, hq, hcz, hs⟩
          · exact (hc.2 hq).elim
          · exact (hc.1 hs).elim
          · exact hcz
        · have e' : ((k : Int) ∈ G.q.map Wt.h ∨ k = n) ↔ (k : Int) ∈ G.q.map Wt.h := ⟨fun h => h.resolve_right fun h => e (by omega), Or.inl⟩
          rw [if_neg e, e']; exact s.row k h1 h2
      · have : (G.add n mb).q = G.q ++ [⟨n, mb, G.ins⟩] := rfl
        rw [this, List.map_append, List.mem_append] at hk
        rcases hk with hk | hk
        · exact s.qh k hk
        · simp at hk; subst hk; exact hh
    exact ⟨s'.swept (p.add _ hc.2), fun h hh => s'.qh h (gone_sub hh)⟩

theorem leave_len : (G.leave a).2.q.length ≤ G.q.length := by
  unfold Gr.leave
  split
  · exact Nat.le_trans (kept_le _) (by show (G.q.map (er a)).length ≤ _; simp)
  · exact Nat.le_refl _
theorem defer_len {mb : Nat} : (G.defer h mb).2.q.length ≤ G.q.length + 1 := by
  unfold Gr.defer
  split
  · exact Nat.le_succ _
  · exact Nat.le_trans (kept_le _) (by show (G.q ++ [_]).length ≤ _; simp)
theorem gone_le (q : List Wt) : (gone q).length ≤ q.length := by have := kept_gone q; omega
theorem leave_le : (G.leave a).1.length ≤ G.q.length := by
  unfold Gr.leave
  split
  · exact Nat.le_trans (gone_le _) (by show (G.q.map (er a)).length ≤ _; simp)
  · exact Nat.zero_le _
theorem defer_le {mb : Nat} : (G.defer h mb).1.length ≤ G.q.length + 1 := by
  unfold Gr.defer
  split
  · exact Nat.zero_le _
  · exact Nat.le_trans (gone_le _) (by show (G.q ++ [_]).length ≤ _; simp)
theorem leave_nd (p : Ok G) : (G.leave a).1.Nodup := by
  unfold Gr.leave
  split
  · exact gone_nd p.left.nd
  · simp
theorem defer_nd {mb : Nat} (p : Ok G) : (G.defer h mb).1.Nodup := by
  unfold Gr.defer
  split
  · simp
  · rename_i hc
    simp only [not_or] at hc
    exact gone_nd (p.add _ hc.2).nd
theorem leave_n : (G.leave a).2.n = G.n := by unfold Gr.leave; split <;> rfl
theorem enter_n : (G.enter a).2.n = G.n := by unfold Gr.enter; split <;> rfl
theorem defer_n {mb : Nat} : (G.defer h mb).2.n = G.n := by unfold Gr.defer; split <;> rfl
theorem defer_ins {mb : Nat} : (G.defer h mb).2.ins = G.ins := by unfold Gr.defer; split <;> rfl
theorem leave_ins (p : Ok G) : k ∈ (G.leave a).2.ins ↔ k ∈ G.ins ∧ k ≠ a := by
  unfold Gr.leave
  split
  · show k ∈ G.ins.erase a ↔ _
    rw [p.ind.mem_erase_iff]; exact and_comm
  · rename_i h
    exact ⟨fun h1 => ⟨h1, fun e => h (e ▸ h1)⟩, fun h => h.1⟩
theorem enter_ins (h : k ∈ (G.enter a).2.ins) : k ∈ G.ins ∨ (k = a ∧ 0 ≤ a ∧ a < G.n) := by
  unfold Gr.enter at h
  split at h
  · exact .inl h
  · rename_i hn
    simp only [not_or] at hn
    rcases List.mem_append.1 h with h | h
    · exact .inl h
    · simp at h; exact .inr ⟨h, by omega, by omega⟩
theorem Ok.empty (p : Ok G) (h : ∀ a, a ∉ G.ins) : G.q = [] := by
  cases e : G.q with
  | nil => rfl
  | cons w q =>
    have hw : w ∈ G.q := by rw [e]; simp
    exfalso
    apply p.full w hw
    cases ew : w.ws with
    | nil => rfl
    | cons b l => exact (h b ((p.ws w hw).1 b (by rw [ew]; simp))).elim
end Go.Proofs.Ytdkbgjhlpoibdaa
