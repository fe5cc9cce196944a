/-
  Regions that go when nobody can have them: what the statements share.
-/
import Derived.Test.YtdkbgjhlpoibdaaGraceDo
import Derived.Test.YtdkbgjhlpoibdaaVcGl
import Derived.Test.YtdkbgjhlpoibdaaArgs
namespace Go.Proofs.Ytdkbgjhlpoibdaa
open Go Go.AS Go.RowKit
set_option linter.unusedVariables false
variable {H H' : Heap} {R : Value → Heap → Prop} {L M : List Asr} {g m i1 i3 : Nat} {ks : List Int} {k a h : Int} {S : Sm} {gc junk : List Value} {b : Option Nat} {G : Gr}

/-! ### Sizes -/
theorem free_size (S : Sm) (h k : Int) : (S.free h).2.size k = if k = h then 0 else S.size k := by
  unfold Sm.free Sm.size Sm.find
  simp only
  rw [List.find?_filter]
  by_cases e : k = h
  · rw [if_pos e]
    have : S.regs.find? (fun a => decide ((a.h != h) = true ∧ (a.h == k) = true)) = none := by
      rw [List.find?_eq_none]
      intro r _
      subst e
      simp only [bne_iff_ne, ne_eq, beq_iff_eq, decide_eq_true_eq, not_and]
      exact fun h1 h2 => h1 h2
    rw [this]
  · rw [if_neg e]
    have : (fun a : Reg => decide ((a.h != h) = true ∧ (a.h == k) = true)) = fun r => r.h == k := by
      funext r
      rw [Bool.eq_iff_iff]
      simp only [bne_iff_ne, ne_eq, beq_iff_eq, decide_eq_true_eq]
      exact ⟨fun h1 => h1.2, fun h1 => ⟨fun h2 => e (by rw [← h1, h2]), h1⟩⟩
    rw [this]
theorem frees_size : ∀ (hs : List Int) (S : Sm) (k : Int), (frees S hs).size k = if k ∈ hs then 0 else S.size k
  | [], S, k => rfl
  | h :: hs, S, k => by
    show (frees (S.free h).2 hs).size k = _
    rw [frees_size hs, free_size]
    by_cases h1 : k = h
    · simp [h1]
    · simp [h1]

structure Mk (S : Sm) (j : Nat) : Prop where
  made : S.made = j
  room : S.room = 100 - j
  find : ∀ k, (∃ r, S.find k = some r ∧ r.ws.length = 1 ∧ 1 ≤ k ∧ k ≤ j) ∨ (S.find k = none ∧ ¬ (1 ≤ k ∧ k ≤ j))

theorem made_s (hs : Sep H L) (hR : ∀ H' m S, (∀ k, S.size k = if 1 ≤ k ∧ k ≤ 20 then 1 else 0) → Sep H' (mem m S :: L) → R (P m) H') : CA en F.crossbarlaw09_made [] H R := by
  apply vc_crossbarlaw09_made
  refine new_s hs fun H2 m mp h2 => ⟨_, rfl, cond_no rfl ?_⟩
  refine use_crossbarlaw09_made_0 (fun k t0 t2 H => ∃ (j : Nat) (S : Sm), j ≤ 20 ∧ k = 20 - j ∧ t2 = (j : Int) + 1 ∧ Mk S j ∧ Sep H (mem m S :: L)) 20 ⟨0, _, by omega, rfl, rfl, ⟨rfl, by show clampRoom 100 = _; decide, fun k => .inr ⟨rfl, by omega⟩⟩, h2⟩ ?_
  clear hs h2
  rintro k t0 t2 ys H3 ⟨j, S, hj, rfl, rfl, mk, hs⟩
  refine cond_of (fun h1 => ?_) fun h1 => ?_
  · have hj' : j < 20 := by simp only [decide_eq_true_eq] at h1; omega
    have hw : wr (S.made + 1) = (j : Int) + 1 := by rw [mk.made]; exact wrap_i64 (by omega)
    have hfn : S.find (wr (S.made + 1)) = none := by
      rcases mk.find (wr (S.made + 1)) with ⟨r, _, _, h⟩ | h
      · rw [hw] at h; omega
      · exact h.1
    refine make_s hs (fun _ _ _ => hfn) fun H4 b h4 => ?_
    have e : S.make b 1 = ((wr (S.made + 1), 0), S.mk' b (1 : Int).toNat) := by
      unfold Sm.make
      rw [if_neg (by omega), if_neg (by rw [mk.room]; omega)]
    rw [e] at h4 ⊢
    refine ⟨_, _, rfl, cond_no (by simp only [hw]; simp) (cond_no rfl ⟨20 - (j + 1), by omega, j + 1, _, by omega, rfl, ?_, ?_, h4⟩)⟩
    · rw [wrap_i64 (by omega)]; omega
    · refine ⟨by show wr (S.made + 1) = _; rw [hw]; omega, ?_, fun k => ?_⟩
      · show wr (S.room - (1 : Int).toNat) = _
        rw [mk.room]
        refine (wrap_i64 ?_).trans ?_ <;> simp <;> omega
      · have ef : (S.mk' b (1 : Int).toNat).find k = if k = (j : Int) + 1 then (match S.find k with | some r => some r | none => some ⟨wr (S.made + 1), b, S.cl, List.replicate 1 0⟩) else S.find k := by
          unfold Sm.find Sm.mk'
          simp only
          rw [List.find?_append]
          by_cases hk : k = (j : Int) + 1
          · rw [if_pos hk]
            cases hf : S.regs.find? (fun r => r.h == k) with
            | some r => rfl
            | none => simp [hw, hk]
          · rw [if_neg hk]
            have : ([⟨wr (S.made + 1), b, S.cl, List.replicate (1 : Int).toNat 0⟩] : List Reg).find? (fun r => r.h == k) = none := by
              have : ¬ (j : Int) + 1 = k := fun e => hk e.symm
              simp [hw, this]
            rw [this, Option.or_none]
        rw [ef]
        by_cases hk : k = (j : Int) + 1
        · rw [if_pos hk]
          left
          rcases mk.find k with ⟨r, h1, h2, h3⟩ | ⟨h1, h2⟩
          · omega
          · rw [h1]
            exact ⟨_, rfl, rfl, by omega, by omega⟩
        · rw [if_neg hk]
          rcases mk.find k with ⟨r, h1, h2, h3⟩ | ⟨h1, h2⟩
          · exact .inl ⟨r, h1, h2, by omega, by omega⟩
          · exact .inr ⟨h1, by omega⟩
  · obtain rfl : j = 20 := by simp only [decide_eq_false_iff_not] at h1; omega
    refine asPtr_in (hR H3 m S (fun k => ?_) hs)
    unfold Sm.size
    rcases mk.find k with ⟨r, h1, h2, h3⟩ | ⟨h1, h2⟩
    · rw [h1]
      simp only
      rw [if_pos (by omega), h2]
    · rw [h1]
      simp only
      rw [if_neg (by omega)]

theorem newG_s {n : Int} (hs : Sep H (mem m S :: L)) (hR : ∀ H' g mi, IsG H' g m ⟨n, mi, [], [], S⟩ L → R (P g) H') : CA en F.grace_New [I n, P m] H R := by
  apply vc_grace_New
  refine im_new (ik := .i64) hs fun mi H2 h2 => Sep.nw h2 fun g H4 h4 => hR H4 g mi ⟨none, [], fun _ => rfl, fun _ => rfl, ?_⟩
  have h5 : Sep H4 (wm [] :: bx g (.cells true 0 [P m, I n, .map (some mi), .slice none 0 0]) :: im .i64 mi [] :: mem m S :: L) := Sep.many0 h4
  have h6 : Sep H4 (gl 2 none [] :: wm [] :: bx g (.cells true 0 [P m, I n, .map (some mi), .slice none 0 0]) :: im .i64 mi [] :: mem m S :: L) := gl_none.2 h5
  exact Sep.pick h6 5 [2, 3, 0, 1, 4] (by decide)

/-! ### What is done -/
def RdA (L : List Asr) (a : Option Addr) (l : List (Int × Int)) : Prop :=
  ∀ H', Sep H' L → ∀ (j : Nat) x, l[j]? = some x → ∃ i, a = some ⟨i, 0, none⟩ ∧ H'.cell i (0 + j * 2) = some (I x.1) ∧ H'.cell i (0 + j * 2 + 1) = some (I x.2)
def aCells (x : Int × Int) : List Value := [I x.1, I x.2]
theorem rda_arg {n : Nat} {a : Option Addr} {l : List (Int × Int)} (ha : Arg a n (l.map aCells) M) (hM : ∀ A ∈ M, A ∈ L) : RdA L a l := by
  intro H' hs j x hx
  have hw : ∀ c ∈ l.map aCells, c.length = 2 := by intro c hc; obtain ⟨y, _, rfl⟩ := List.mem_map.1 hc; rfl
  obtain ⟨hj, e⟩ := List.getElem?_eq_some_iff.1 hx
  obtain ⟨i, h1, _, h2⟩ := ha.row hs hM hw (j := j) (by simpa using hj)
  have e1 := h2 0 (by decide)
  have e2 := h2 1 (by decide)
  rw [List.getElem_map, e] at e1 e2
  exact ⟨i, h1, e1, e2⟩
theorem acts_of : ∀ (css : List (List Value)), (∀ c ∈ css, ∃ x : Int × Int, c = aCells x) → ∃ l : List (Int × Int), css = l.map aCells
  | [], _ => ⟨[], rfl⟩
  | c :: css, h => by
    obtain ⟨x, rfl⟩ := h c (by simp)
    obtain ⟨l, rfl⟩ := acts_of css fun c hc => h c (List.mem_cons_of_mem _ hc)
    exact ⟨x :: l, rfl⟩
end Go.Proofs.Ytdkbgjhlpoibdaa
