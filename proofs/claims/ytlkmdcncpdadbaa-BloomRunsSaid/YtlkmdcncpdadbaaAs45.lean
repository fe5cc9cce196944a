/-
  Arguments that are slices: two of them (perhaps of one block); words.
-/
import Derived.Test.YtlkmdcncpdadbaaAs44
namespace Go.AS
open Go.RowKit
set_option linter.unusedVariables false
variable {H H' : Heap} {L M : List Asr}

/-- The shape of an argument that is a slice. -/
abbrev SlArg (H : Heap) (P : List Value → Prop) (v : Value) : Prop :=
  v = .slice Option.none 0 0 ∨ ∃ (i : Nat) (cs : List (List Value)), v = .slice (Option.some ⟨i, 0, Option.none⟩) cs.length 0 ∧ i < H.next ∧ H.get i = Option.some (.cells false 0 cs.flatten) ∧ ∀ c ∈ cs, P c

theorem SlArg.one {P : List Value → Prop} {v : Value} (h : [v] = [.slice Option.none 0 0] ∨ ∃ (i : Nat) (cs : List (List Value)), [v] = [.slice (Option.some ⟨i, 0, Option.none⟩) cs.length 0] ∧ i < H.next ∧ H.get i = Option.some (.cells false 0 cs.flatten) ∧ ∀ c ∈ cs, P c) : SlArg H P v := by
  rcases h with h | ⟨i, cs, h, r⟩
  · exact .inl (List.cons.inj h).1
  · exact .inr ⟨i, cs, (List.cons.inj h).1, r⟩

/-- Many of them, sharing blocks or not: each holds of a list without two that meet. -/
theorem Arg.more {P : List Value → Prop} {v : Value} (h : SlArg H P v) (hM : Sep H M) (hf : ∀ A ∈ M, ∃ i c, A = bx i (.cells false 0 c)) :
    ∃ a n css M1 M', v = .slice a n 0 ∧ Arg a n css M1 ∧ (∀ A ∈ M1, A ∈ M') ∧ (∀ A ∈ M, A ∈ M') ∧ Sep H M' ∧ (∀ A ∈ M', ∃ i c, A = bx i (.cells false 0 c)) ∧ (∀ c ∈ css, P c) := by
  rcases h with rfl | ⟨i, cs, rfl, hi, hg, hc⟩
  · exact ⟨_, _, [], [], M, rfl, .none, by simp, fun A h => h, hM, hf, by simp⟩
  · by_cases hm : i ∈ feet M
    · obtain ⟨A, hA, hiA⟩ := List.mem_flatMap.1 hm
      obtain ⟨j, c, rfl⟩ := hf A hA
      simp only [bx, List.mem_singleton] at hiA
      subst hiA
      have := hM.all _ hA
      have e : H.get i = Option.some (.cells false 0 c) := this
      rw [hg] at e
      have e2 : cs.flatten = c := by cases e; rfl
      subst e2
      exact ⟨_, _, cs, _, M, rfl, .some i cs, by simpa using hA, fun A h => h, hM, hf, hc⟩
    · refine ⟨_, _, cs, _, bx i (.cells false 0 cs.flatten) :: M, rfl, .some i cs, by simp, fun A h => List.mem_cons_of_mem _ h, ⟨?_, ?_, ?_⟩, ?_, hc⟩
      · intro A hA
        rcases List.mem_cons.1 hA with rfl | hA
        · exact hg
        · exact hM.all A hA
      · rw [feet_cons]
        refine List.nodup_append.2 ⟨by simp [bx], hM.nd, fun a ha b hb e => ?_⟩
        simp only [bx, List.mem_singleton] at ha
        exact hm (ha ▸ e ▸ hb)
      · intro j hj
        rw [feet_cons] at hj
        rcases List.mem_append.1 hj with h1 | h1
        · simp only [bx, List.mem_singleton] at h1; rw [h1]; exact hi
        · exact hM.lt j h1
      · intro A hA
        rcases List.mem_cons.1 hA with rfl | hA
        · exact ⟨_, _, rfl⟩
        · exact hf A hA

/-- The same, what was there stays ahead. -/
theorem Arg.moreE {P : List Value → Prop} {v : Value} (h : SlArg H P v) (hM : Sep H M) (hf : ∀ A ∈ M, ∃ i c, A = bx i (.cells false 0 c)) :
    ∃ a n css M1 X, v = .slice a n 0 ∧ Arg a n css M1 ∧ (∀ A ∈ M1, A ∈ M ++ X) ∧ Sep H (M ++ X) ∧ (∀ A ∈ M ++ X, ∃ i c, A = bx i (.cells false 0 c)) ∧ (∀ c ∈ css, P c) := by
  rcases h with rfl | ⟨i, cs, rfl, hi, hg, hc⟩
  · exact ⟨_, _, [], [], [], rfl, .none, by simp, by rw [List.append_nil]; exact hM, by rw [List.append_nil]; exact hf, by simp⟩
  · by_cases hm : i ∈ feet M
    · obtain ⟨A, hA, hiA⟩ := List.mem_flatMap.1 hm
      obtain ⟨j, c, rfl⟩ := hf A hA
      simp only [bx, List.mem_singleton] at hiA
      subst hiA
      have e : H.get i = Option.some (.cells false 0 c) := hM.all _ hA
      rw [hg] at e
      have e2 : cs.flatten = c := by cases e; rfl
      subst e2
      exact ⟨_, _, cs, _, [], rfl, .some i cs, by simpa using hA, by rw [List.append_nil]; exact hM, by rw [List.append_nil]; exact hf, hc⟩
    · have h1 : Sep H (bx i (.cells false 0 cs.flatten) :: M) := ⟨?_, ?_, ?_⟩
      · refine ⟨_, _, cs, _, [bx i (.cells false 0 cs.flatten)], rfl, .some i cs, by simp, h1.perm (List.perm_append_comm (l₁ := [bx i (.cells false 0 cs.flatten)])), fun A hA => ?_, hc⟩
        rcases List.mem_append.1 hA with hA | hA
        · exact hf A hA
        · exact ⟨_, _, List.mem_singleton.1 hA⟩
      · intro A hA
        rcases List.mem_cons.1 hA with rfl | hA
        · exact hg
        · exact hM.all A hA
      · rw [feet_cons]
        refine List.nodup_append.2 ⟨by simp [bx], hM.nd, fun a ha b hb e => ?_⟩
        simp only [bx, List.mem_singleton] at ha
        exact hm (ha ▸ e ▸ hb)
      · intro j hj
        rw [feet_cons] at hj
        rcases List.mem_append.1 hj with h1 | h1
        · simp only [bx, List.mem_singleton] at h1; rw [h1]; exact hi
        · exact hM.lt j h1

theorem words_of : ∀ (css : List (List Value)), (∀ c ∈ css, ∃ n : Int, c = [.int .u64 n] ∧ (Lit.int .u64 n).wf = true) → ∃ l : List (BitVec 64), css = l.map fun v => [W v]
  | [], _ => ⟨[], rfl⟩
  | c :: css, h => by
    obtain ⟨n, rfl, hn⟩ := h c (by simp)
    obtain ⟨w, rfl⟩ := word_of hn
    obtain ⟨l, rfl⟩ := words_of css fun c hc => h c (List.mem_cons_of_mem _ hc)
    exact ⟨w :: l, rfl⟩

theorem numbers_of : ∀ (css : List (List Value)), (∀ c ∈ css, ∃ n : Int, c = [.int .i64 n] ∧ (Lit.int .i64 n).wf = true) → ∃ l : List Int, css = l.map fun v => [.int .i64 v]
  | [], _ => ⟨[], rfl⟩
  | c :: css, h => by
    obtain ⟨n, rfl, hn⟩ := h c (by simp)
    obtain ⟨l, rfl⟩ := numbers_of css fun c hc => h c (List.mem_cons_of_mem _ hc)
    exact ⟨n :: l, rfl⟩

theorem wmap_len (l : List (BitVec 64)) : ∀ c ∈ l.map (fun v => [W v]), c.length = 1 := by
  intro c hc; obtain ⟨v, _, rfl⟩ := List.mem_map.1 hc; rfl

/-- A load of one of the words of an argument. -/
theorem Arg.word {a n} {l : List (BitVec 64)} {M : List Asr} (ha : Arg a n (l.map fun v => [W v]) M) (h : Sep H L) (hM : ∀ A ∈ M, A ∈ L) {j : Nat} (hj : j < l.length) {K : Nat → Nat → Prop} (hK : ∀ i, (∀ v, l[j]? = Option.some v → H.cell i (0 + j * 1) = Option.some (W v)) → K i 0) : asRow a K := by
  obtain ⟨q, rfl, _, hq⟩ := ha.row (w := 1) h hM (wmap_len l) (j := j) (by simpa using hj)
  refine asRow_in (hK q fun v hv => ?_)
  have := hq 0 (by decide)
  rw [Nat.add_zero] at this
  refine this.trans ?_
  rw [List.getElem?_eq_getElem hj] at hv
  cases hv
  simp

/-! ### Blocks whose numbers were given ahead -/
theorem Sep.fore {i : Nat} (o : Obj) (h : Sep H L) (hi : i < H.next) (hn : i ∉ feet L) : Sep (H.set i o) (bx i o :: L) := by
  refine ⟨fun A hA => ?_, ?_, fun j hj => ?_⟩
  · rcases List.mem_cons.1 hA with rfl | hA
    · exact get_set_self _ _ _
    · refine A.loc (fun j hj => ?_) (h.all A hA)
      have : j ∈ feet L := List.mem_flatMap.2 ⟨A, hA, hj⟩
      exact get_set_ne fun e => hn (e ▸ this)
  · rw [feet_cons]
    refine List.nodup_append.2 ⟨by simp [bx], h.nd, fun a ha b hb e => ?_⟩
    simp only [bx, List.mem_singleton] at ha
    exact hn (ha ▸ e ▸ hb)
  · rw [feet_cons] at hj
    rcases List.mem_append.1 hj with h1 | h1
    · simp only [bx, List.mem_singleton] at h1
      rw [h1]; exact hi
    · exact h.lt j h1

theorem Sep.fore1 (h : Sep H L) {n a : Nat} (o1 : Obj) (ha : a < n) : Sep ((H.bump n).set (H.next + a) o1) (bx (H.next + a) o1 :: L) :=
  Sep.fore o1 (h.bump n) (by rw [next_bump]; omega) fun hc => by have := h.lt _ hc; omega

theorem Sep.fore2 (h : Sep H L) {n a b : Nat} (o1 o2 : Obj) (ha : a < n) (hb : b < n) (hab : b ≠ a) : Sep (((H.bump n).set (H.next + a) o1).set (H.next + b) o2) (bx (H.next + b) o2 :: bx (H.next + a) o1 :: L) := by
  refine Sep.fore o2 (h.fore1 o1 ha) (by rw [next_set, next_bump]; omega) fun hc => ?_
  rw [feet_cons] at hc
  rcases List.mem_append.1 hc with h2 | h2
  · simp only [bx, List.mem_singleton] at h2; omega
  · have := h.lt _ h2; omega
end Go.AS
