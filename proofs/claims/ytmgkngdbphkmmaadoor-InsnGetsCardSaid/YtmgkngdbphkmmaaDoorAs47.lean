/-
  Laws of programs whose variables are laid: blocks of the variables, known at the outset.
-/
import Derived.Test.YtmgkngdbphkmmaaDoorAs46
import Derived.Test.YtmgkngdbphkmmaaDoorAs31
namespace Go.AS
open Go.RowKit
set_option linter.unusedVariables false

/-- The memory at the outset, with what some variables hold. -/
noncomputable def heapG (E : Env) : List (Nat × List Value) → Heap
  | [] => heap0 E
  | (g, c) :: l => (heapG E l).set g (.cells false 0 c)

theorem heapG_next (E : Env) : ∀ l, (heapG E l).next = E.ng
  | [] => rfl
  | (g, c) :: l => by rw [heapG, next_set, heapG_next E l]

theorem heapG_get (E : Env) : ∀ (l : List (Nat × List Value)) (i : Nat) (o : Obj), (heapG E l).get i = some o → ∃ c, (i, c) ∈ l ∧ o = .cells false 0 c
  | [], i, o, h => by simp [heapG, heap0, Heap.get, Tr.get_nil] at h
  | (g, c) :: l, i, o, h => by
    rw [heapG, get_set] at h
    split at h
    · rename_i e
      subst e
      exact ⟨c, by simp, (Option.some.inj h).symm⟩
    · obtain ⟨d, h1, h2⟩ := heapG_get E l i o h
      exact ⟨d, List.mem_cons_of_mem _ h1, h2⟩

theorem heapG_at (E : Env) : ∀ (l : List (Nat × List Value)), (l.map (·.1)).Nodup → ∀ p ∈ l, (heapG E l).get p.1 = some (.cells false 0 p.2)
  | [], _, p, h => by simp at h
  | (g, c) :: l, hn, p, h => by
    simp only [List.map_cons, List.nodup_cons] at hn
    rw [heapG, get_set]
    rcases List.mem_cons.1 h with rfl | h
    · rw [if_pos rfl]
    · rw [if_neg (fun e => hn.1 (by rw [← e]; exact List.mem_map_of_mem h)), heapG_at E l hn.2 p h]

/-- What the world holds there. -/
def HeldG (w : World) (l : List (Nat × List Value)) : Prop :=
  ∀ p ∈ l, ∃ C el fr, w.heap[p.1]? = some (.cells C el fr) ∧ C.toList = p.2

theorem hrelG (E : Env) (w : World) {l : List (Nat × List Value)} (hl : ∀ p ∈ l, p.1 < E.ng ∧ p.2.all one = true ∧ ∀ v ∈ p.2, ∃ k n, v = .int k n) (hw : HeldG w l) : HRel E w.heap.size (inj0 E) (heapG E l) w where
  fresh i hi := by
    rw [heapG_next] at hi
    have : ¬ i < E.ng := by omega
    simp [inj0, this]
  glob g hg := ⟨⟨g, 0, 0, 0⟩, by simp [inj0, hg], rfl, rfl⟩
  obj i o h _ := by
    obtain ⟨c, hm, rfl⟩ := heapG_get E l i o h
    obtain ⟨h1, h2, h3⟩ := hl _ hm
    obtain ⟨C, el, fr, hC, hc⟩ := hw _ hm
    simp only at h1 h2 h3 hc hC
    refine ⟨⟨i, 0, 0, 0⟩, by simp [inj0, h1], rfl, rfl, h2, .inr ⟨C, el, fr, ?_, hC, ?_⟩⟩
    · rcases Nat.lt_or_ge i w.heap.size with h | h
      · exact h
      · rw [Array.getElem?_eq_none h] at hC; cases hC
    · intro j v hj
      obtain ⟨k, n, rfl⟩ := h3 v (List.mem_of_getElem? hj)
      refine ⟨_, ?_, .int k n⟩
      rw [Nat.zero_add, ← Array.getElem?_toList, hc]
      exact hj
  apart i j oi oj Li Lj h _ ho := by
    obtain ⟨c, _, rfl⟩ := heapG_get E l i oi h
    simp [Obj.isOwn] at ho
  base := Nat.le_refl _

/-- A law that holds of all arguments of these shapes, where the variables hold that. -/
theorem law_callsG {D : Type} {enc : TypeId × Value → D} {spare : Nat → Bool} {held : Bool} {r : Reach} {bs : Nat} {E : Env} (hE : E.Ok) (hmix : E.prog.follows .mixedOrders = true) {f : FuncId} {d : Nat} {ts : List TypeId} {l : List (Nat × List Value)} {w : World}
    (hlaw : ∀ H us, (∀ p ∈ l, p.1 < H.next ∧ H.get p.1 = some (.cells false 0 p.2)) → shpVs E H d ts us → CA E f us H fun v _ => v = .bool true)
    (hn : (l.map (·.1)).Nodup) (hl : ∀ p ∈ l, p.1 < E.ng ∧ p.2.all one = true ∧ ∀ v ∈ p.2, ∃ k n, v = .int k n) (hw : HeldG w l)
    (ho : ts.all (okTy E d) = true) {vs : Array Value} {xs : List (DataW D)} {ps : List MemPlace} (h : DataW.TrodAll enc E.prog w 0 spare held ts vs.toList xs ps)
    (hv : ∀ (j : Nat) t v, ts[j]? = some t → vs[j]? = some v → Value.okWide E.prog w r bs t v) :
    Calls E.prog f vs w fun e w' => e = .returned (.bool true) ∧ Below w.heap.size w w' := by
  obtain ⟨μ, H, us, h1, h2, h3, _, fr⟩ := open_args hE ts vs.toList xs ps h (fun j t v a b => hv j t v a (by rw [← Array.getElem?_toList]; exact b)) ho (hrelG E w hl hw)
  refine calls_of_CA hE hmix (hlaw H us (fun p hp => ?_) h3) h1 h2
  have hlt : p.1 < (heapG E l).next := by rw [heapG_next]; exact (hl p hp).1
  refine ⟨Nat.lt_of_lt_of_le hlt fr.1, ?_⟩
  rw [fr.2 _ hlt (by simp)]
  exact heapG_at E l hn p hp
end Go.AS
