/-
  Regions that go when nobody can have them: what a sweep leaves, without the program.
-/
import Derived.Test.YtjggeoghlicmdaaGreatGraceDo
namespace Go.Proofs.YtjggeoghlicmdaaGreat
open Go Go.AS Go.RowKit
set_option linter.unusedVariables false
variable {G : Gr} {C : List Int} {A : List Bool} {a h k : Int} {q : List Wt}

theorem gone_mem : h ∈ gone q ↔ ∃ w ∈ q, w.ws = [] ∧ w.h = h := by
  unfold gone
  rw [List.mem_map]
  constructor
  · rintro ⟨w, hw, e⟩
    rw [List.mem_filter] at hw
    refine ⟨w, hw.1, ?_, e⟩
    by_cases hn : w.ws = []
    · exact hn
    · have := (ne_iff w).2 hn
      rw [this] at hw; simp at hw
  · rintro ⟨w, hw, hn, e⟩
    refine ⟨w, List.mem_filter.2 ⟨hw, ?_⟩, e⟩
    unfold ne; rw [hn]; rfl
theorem kept_mem : h ∈ (kept q).map Wt.h ↔ ∃ w ∈ q, w.ws ≠ [] ∧ w.h = h := by
  unfold kept
  rw [List.mem_map]
  constructor
  · rintro ⟨w, hw, e⟩
    rw [List.mem_filter] at hw
    exact ⟨w, hw.1, (ne_iff w).1 hw.2, e⟩
  · rintro ⟨w, hw, hn, e⟩
    exact ⟨w, List.mem_filter.2 ⟨hw, (ne_iff w).2 hn⟩, e⟩
theorem same_of_h : ∀ {q : List Wt}, (q.map Wt.h).Nodup → ∀ {w w' : Wt}, w ∈ q → w' ∈ q → w.h = w'.h → w = w'
  | [], _, _, _, h1, _, _ => by simp at h1
  | x :: q, nd, w, w', h1, h2, e => by
    rw [List.map_cons, List.nodup_cons] at nd
    rcases List.mem_cons.1 h1 with h1 | h1
    · rcases List.mem_cons.1 h2 with h2 | h2
      · rw [h1, h2]
      · exact (nd.1 (List.mem_map.2 ⟨w', h2, by rw [← e, h1]⟩)).elim
    · rcases List.mem_cons.1 h2 with h2 | h2
      · exact (nd.1 (List.mem_map.2 ⟨w, h1, by rw [e, h2]⟩)).elim
      · exact same_of_h nd.2 h1 h2 e
theorem gone_kept (nd : (q.map Wt.h).Nodup) (h1 : h ∈ gone q) : h ∉ (kept q).map Wt.h := fun h2 => by
  obtain ⟨w, hw, e, eh⟩ := gone_mem.1 h1
  obtain ⟨w', hw', e', eh'⟩ := kept_mem.1 h2
  exact e' (same_of_h nd hw hw' (eh.trans eh'.symm) ▸ e)
theorem gone_or (h1 : h ∈ q.map Wt.h) : h ∈ gone q ∨ h ∈ (kept q).map Wt.h := by
  obtain ⟨w, hw, e⟩ := List.mem_map.1 h1
  by_cases hn : w.ws = []
  · exact .inl (gone_mem.2 ⟨w, hw, hn, e⟩)
  · exact .inr (kept_mem.2 ⟨w, hw, hn, e⟩)
theorem gone_sub (h1 : h ∈ gone q) : h ∈ q.map Wt.h := by
  obtain ⟨w, hw, _, e⟩ := gone_mem.1 h1
  exact List.mem_map.2 ⟨w, hw, e⟩
theorem kept_sub (h1 : h ∈ (kept q).map Wt.h) : h ∈ q.map Wt.h := by
  obtain ⟨w, hw, _, e⟩ := kept_mem.1 h1
  exact List.mem_map.2 ⟨w, hw, e⟩
theorem gone_nd (nd : (q.map Wt.h).Nodup) : (gone q).Nodup := List.Sublist.nodup (List.Sublist.map _ List.filter_sublist) nd
theorem kept_nd (nd : (q.map Wt.h).Nodup) : ((kept q).map Wt.h).Nodup := List.Sublist.nodup (List.Sublist.map _ List.filter_sublist) nd

/-- What always holds. -/
structure Pre (G : Gr) : Prop where
  ind : G.ins.Nodup
  nd : (G.q.map Wt.h).Nodup
  ws : ∀ w ∈ G.q, (∀ a ∈ w.ws, a ∈ G.ins) ∧ w.ws.Nodup
structure Ok (G : Gr) : Prop extends Pre G where
  full : ∀ w ∈ G.q, w.ws ≠ []

theorem Pre.swept (p : Pre G) : Ok G.swept := by
  refine ⟨⟨p.ind, kept_nd p.nd, fun w hw => p.ws w (List.mem_filter.1 hw).1⟩, fun w hw => (ne_iff w).1 (List.mem_filter.1 hw).2⟩
theorem Ok.enter (p : Ok G) : Ok (G.enter a).2 := by
  unfold Gr.enter
  split
  · exact p
  · rename_i h
    simp only [not_or] at h
    refine ⟨⟨?_, p.nd, fun w hw => ⟨fun b hb => List.mem_append.2 (.inl ((p.ws w hw).1 b hb)), (p.ws w hw).2⟩⟩, p.full⟩
    exact List.nodup_append.2 ⟨p.ind, by simp, fun x hx y hy e => by simp at hy; subst hy; subst e; exact h.2.2 hx⟩
theorem map_er (a : Int) (q : List Wt) : (q.map (er a)).map Wt.h = q.map Wt.h := by rw [List.map_map]; rfl
theorem Ok.left (p : Ok G) : Pre (G.left a) := by
  refine ⟨p.ind.erase a, ?_, fun w hw => ?_⟩
  · show ((G.q.map (er a)).map Wt.h).Nodup
    rw [map_er]; exact p.nd
  · obtain ⟨u, hu, rfl⟩ := List.mem_map.1 hw
    refine ⟨fun b hb => ?_, (p.ws u hu).2.erase a⟩
    have hb' : b ∈ u.ws.erase a := hb
    rw [(p.ws u hu).2.mem_erase_iff] at hb'
    show b ∈ G.ins.erase a
    rw [p.ind.mem_erase_iff]
    exact ⟨hb'.1, (p.ws u hu).1 b hb'.2⟩
theorem Ok.leave (p : Ok G) : Ok (G.leave a).2 := by
  unfold Gr.leave
  split
  · exact p.left.swept
  · exact p
theorem Ok.add {mb : Nat} (p : Ok G) (h : Int) (hn : h ∉ G.q.map Wt.h) : Pre (G.add h mb) := by
  refine ⟨p.ind, ?_, fun w hw => ?_⟩
  · show ((G.q ++ [_]).map Wt.h).Nodup
    rw [List.map_append]
    exact List.nodup_append.2 ⟨p.nd, by simp, fun x hx y hy e => by simp at hy; subst hy; subst e; exact hn hx⟩
  · rcases List.mem_append.1 hw with hw | hw
    · exact p.ws w hw
    · simp at hw; subst hw
      exact ⟨fun a h => h, p.ind⟩
theorem Ok.defer {mb : Nat} (p : Ok G) (h : Int) : Ok (G.defer h mb).2 := by
  unfold Gr.defer
  split
  · exact p
  · rename_i hn
    simp only [not_or] at hn
    exact (p.add h hn.2).swept
theorem leave_len : (G.leave a).2.q.length ≤ G.q.length := by
  unfold Gr.leave
  split
  · exact Nat.le_trans (kept_le _) (by show (G.q.map (er a)).length ≤ _; simp)
  · exact Nat.le_refl _
theorem defer_len {mb : Nat} : (G.defer h mb).2.q.length ≤ G.q.length + 1 := by
  unfold Gr.defer
  split
  · exact Nat.le_succ _
  · exact Nat.le_trans (kept_le _) (by show (G.q ++ [_]).length ≤ _; simp)
theorem gone_le (q : List Wt) : (gone q).length ≤ q.length := by have := kept_gone q; omega
theorem leave_le : (G.leave a).1.length ≤ G.q.length := by
  unfold Gr.leave
  split
  · exact Nat.le_trans (gone_le _) (by show (G.q.map (er a)).length ≤ _; simp)
  · exact Nat.zero_le _
theorem defer_le {mb : Nat} : (G.defer h mb).1.length ≤ G.q.length + 1 := by
  unfold Gr.defer
  split
  · exact Nat.zero_le _
  · exact Nat.le_trans (gone_le _) (by show (G.q ++ [_]).length ≤ _; simp)
theorem leave_nd (p : Ok G) : (G.leave a).1.Nodup := by
  unfold Gr.leave
  split
  · exact gone_nd p.left.nd
  · simp
theorem defer_nd {mb : Nat} (p : Ok G) : (G.defer h mb).1.Nodup := by
  unfold Gr.defer
  split
  · simp
  · rename_i hc
    simp only [not_or] at hc
    exact gone_nd (p.add _ hc.2).nd
theorem leave_n : (G.leave a).2.n = G.n := by unfold Gr.leave; split <;> rfl
theorem enter_n : (G.enter a).2.n = G.n := by unfold Gr.enter; split <;> rfl
theorem defer_n {mb : Nat} : (G.defer h mb).2.n = G.n := by unfold Gr.defer; split <;> rfl
theorem defer_ins {mb : Nat} : (G.defer h mb).2.ins = G.ins := by unfold Gr.defer; split <;> rfl
theorem leave_ins (p : Ok G) : k ∈ (G.leave a).2.ins ↔ k ∈ G.ins ∧ k ≠ a := by
  unfold Gr.leave
  split
  · show k ∈ G.ins.erase a ↔ _
    rw [p.ind.mem_erase_iff]; exact and_comm
  · rename_i h
    exact ⟨fun h1 => ⟨h1, fun e => h (e ▸ h1)⟩, fun h => h.1⟩
theorem enter_ins (h : k ∈ (G.enter a).2.ins) : k ∈ G.ins ∨ (k = a ∧ 0 ≤ a ∧ a < G.n) := by
  unfold Gr.enter at h
  split at h
  · exact .inl h
  · rename_i hn
    simp only [not_or] at hn
    rcases List.mem_append.1 h with h | h
    · exact .inl h
    · simp at h; exact .inr ⟨h, by omega, by omega⟩
theorem Ok.empty (p : Ok G) (h : ∀ a, a ∉ G.ins) : G.q = [] := by
  cases e : G.q with
  | nil => rfl
  | cons w q =>
    have hw : w ∈ G.q := by rw [e]; simp
    exfalso
    apply p.full w hw
    cases ew : w.ws with
    | nil => rfl
    | cons b l => exact (h b ((p.ws w hw).1 b (by rw [ew]; simp))).elim
end Go.Proofs.YtjggeoghlicmdaaGreat
