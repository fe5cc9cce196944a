/-
  What the program's listed variables hold at the outset.
-/
import Derived.Test.YtmgkngdbphkmmaaDoorCards
import Derived.Test.YtmgkngdbphkmmaaDoorInsnM
import Derived.Test.YtmgkngdbphkmmaaDoorAs47
import Derived.ProofKit
import Derived.LaidMore
import Derived.OpenShut
import Derived.Stop.Joined
namespace Go.Proofs.YtmgkngdbphkmmaaDoor
open Go Go.AS Go.ChangeShapes Go.WideShapes Go.ChangeAt Go.RowKit
set_option linter.unusedVariables false

theorem laidOwn : ownKnob Tryd.prog.godebug = none := by kernel_rfl
def laidL : List (String × DataW Unit) := Rows.insnPutsRow.laid
def laidG : List (Nat × List Value) := [(0, gHalf), (1, gAtom)]

theorem laidG_ok : ∀ p ∈ laidG, p.1 < en.ng ∧ p.2.all one = true ∧ ∀ v ∈ p.2, ∃ k n, v = .int k n := by
  intro p hp
  have hng : en.ng = 2 := by kernel_rfl
  simp only [laidG, List.mem_cons, List.not_mem_nil, or_false] at hp
  rcases hp with rfl | rfl
  · refine ⟨by rw [hng]; decide, rfl, fun v hv => ?_⟩
    simp only [List.mem_cons, List.not_mem_nil, or_false] at hv
    rcases hv with rfl | rfl <;> exact ⟨_, _, rfl⟩
  · refine ⟨by rw [hng]; decide, rfl, fun v hv => ?_⟩
    simp only [List.mem_cons, List.not_mem_nil, or_false] at hv
    rcases hv with rfl | rfl | rfl | rfl | rfl | rfl | rfl | rfl | rfl | rfl <;> exact ⟨_, _, rfl⟩

theorem door_met (os : Os) (args : Array Value) : laidMetH Tryd.prog laidL ((World.doorLaid Tryd.prog 19 os).forCall (fun _ _ => 0) ⟨#[], args, []⟩).memory :=
  laidMetH_of_parts3 (fuel := 8) (laidMet_of_run' 8 (by kernel_rfl) (by kernel_rfl)) (by kernel_rfl) (by kernel_rfl)

theorem heap_of_var {P : Program} {w : World} {n : String} {g : Nat} {cs : Array Value} (hg : P.globalNamed n = some g) (h : w.var? P n = some cs) : ∃ el fr, w.heap[g]? = some (.cells cs el fr) := by
  simp only [World.var?, hg, Option.bind_some] at h
  split at h
  · rename_i hb
    cases h
    exact ⟨_, _, hb⟩
  · cases h

theorem one_cell {enc : TypeId × Value → Unit} {P : Program} {W : World} {spare : Nat → Bool} {hd : Bool} {m t : Nat} {cs : List Value} {j : Nat} {x : DataW Unit × List MemPlace} {k : Int} (ht : P.underlying t = some (.int .i64))
    (h : DataW.trod enc P W 0 spare hd m t ((cs.drop j).take 1) = some x) (hx : x.1 = .lit (.int .i64 k)) : cs[j]? = some (I k) := by
  obtain ⟨n, e1, e2, _⟩ := DataW.trod_int ht h
  rw [e2] at hx
  have hn : n = k := by simpa using hx
  subst hn
  have := congrArg (fun l => l[0]?) e1
  simpa using this

theorem cells_eq {cs : List Value} {ks : List Int} (hl : cs.length = ks.length) (h : ∀ (j : Nat) k, ks[j]? = some k → cs[j]? = some (I k)) : cs = ks.map fun k => I k := by
  apply List.ext_getElem?
  intro j
  rw [List.getElem?_map]
  rcases Nat.lt_or_ge j ks.length with hj | hj
  · rw [List.getElem?_eq_getElem hj]
    exact h j _ (List.getElem?_eq_getElem hj)
  · rw [List.getElem?_eq_none hj, List.getElem?_eq_none (by omega)]; rfl

theorem held {W : World} (h : laidMetH Tryd.prog laidL W) : HeldG W laidG := by
  rw [MakeChecks.laidMetH_plain _ _ _ (by kernel_rfl)] at h
  obtain ⟨ps, ⟨g0, t0, cs0, f0, p0, q0, hg0, ht0, hv0, hd0, ⟨g1, t1, cs1, f1, p1, q1, hg1, ht1, hv1, hd1, _, _⟩, _⟩, _, _⟩ := h
  obtain rfl : g0 = 1 := Option.some.inj (hg0.symm.trans (by kernel_rfl : Tryd.prog.globalNamed _ = some 1))
  obtain rfl : g1 = 0 := Option.some.inj (hg1.symm.trans (by kernel_rfl : Tryd.prog.globalNamed _ = some 0))
  obtain rfl : t0 = 101 := Option.some.inj (ht0.symm.trans (show (Tryd.prog.globals[1]?).map (·.type) = some 101 by kernel_rfl))
  obtain rfl : t1 = 70 := Option.some.inj (ht1.symm.trans (show (Tryd.prog.globals[0]?).map (·.type) = some 70 by kernel_rfl))
  have c3 : Tryd.prog.cellsOf 3 = 1 := by kernel_rfl
  have u3 : Tryd.prog.underlying 3 = some (.int .i64) := Tryd.underlying3
  obtain ⟨el0, fr0, hp0⟩ := heap_of_var hg0 hv0
  obtain ⟨el1, fr1, hp1⟩ := heap_of_var hg1 hv1
  obtain ⟨xs, m0, rfl, hx0, hl0, hn0, he0⟩ := DataW.trod_array Tryd.underlying101 hd0
  obtain ⟨ys, m1, rfl, hx1, hl1, hn1, he1⟩ := DataW.trod_struct Tryd.underlying70 hd1
  have c101 : Tryd.prog.cellsOf 101 = 10 := by kernel_rfl
  have c70 : Tryd.prog.cellsOf 70 = 2 := by kernel_rfl
  rw [c101] at hl0
  rw [c70] at hl1
  have eA : cs0.toList = gAtom := by
    have := cells_eq (cs := cs0.toList) (ks := [0, 64, 80, 160, 1, 65, 81, 161, 225, 241]) hl0 fun j k hj => by
      have hj10 : j < 10 := (List.getElem?_eq_some_iff.1 hj).1
      have he := he0 j hj10
      rw [c3, Nat.mul_one] at he
      obtain ⟨x, hx⟩ : ∃ x, xs[j]? = some x := ⟨_, List.getElem?_eq_getElem (by omega)⟩
      rw [hx] at he
      refine one_cell u3 he ?_
      simp only [Prod.mk.injEq] at hx0
      have hx0 := hx0.1
      simp only [Rows.laid_crossbar_insn_atomics, DataW.agg.injEq] at hx0
      have := congrArg (fun l => l[j]?) hx0
      simp only [List.getElem?_map, hx, Option.map_some] at this
      obtain rfl | rfl | rfl | rfl | rfl | rfl | rfl | rfl | rfl | rfl : j = 0 ∨ j = 1 ∨ j = 2 ∨ j = 3 ∨ j = 4 ∨ j = 5 ∨ j = 6 ∨ j = 7 ∨ j = 8 ∨ j = 9 := by omega
      all_goals (cases hj; exact (Option.some.inj this).symm)
    exact this
  have eH : cs1.toList = gHalf := by
    have := cells_eq (cs := cs1.toList) (ks := [-2147483648, 2147483647]) hl1 fun j k hj => by
      have hj2 : j < 2 := (List.getElem?_eq_some_iff.1 hj).1
      obtain ⟨y, hy⟩ : ∃ y, ys[j]? = some y := ⟨_, List.getElem?_eq_getElem (by rw [hn1]; exact hj2)⟩
      simp only [Prod.mk.injEq] at hx1
      have hx1 := hx1.1
      simp only [Rows.laid_crossbar_insn_half, DataW.agg.injEq] at hx1
      have := congrArg (fun l => l[j]?) hx1
      simp only [List.getElem?_map, hy, Option.map_some] at this
      obtain rfl | rfl : j = 0 ∨ j = 1 := by omega
      · have he : DataW.trod _ Tryd.prog W 0 _ false m1 3 (List.take (Tryd.prog.cellsOf 3) (List.drop 0 cs1.toList)) = ys[0]? := he1 0 _ rfl
        rw [c3, hy] at he
        cases hj
        exact one_cell (j := 0) u3 he (Option.some.inj this).symm
      · have he : DataW.trod _ Tryd.prog W 0 _ false m1 3 (List.take (Tryd.prog.cellsOf 3) (List.drop 1 cs1.toList)) = ys[1]? := he1 1 _ rfl
        rw [c3, hy] at he
        cases hj
        exact one_cell (j := 1) u3 he (Option.some.inj this).symm
    exact this
  intro p hp
  simp only [laidG, List.mem_cons, List.not_mem_nil, or_false] at hp
  rcases hp with rfl | rfl
  · exact ⟨cs1, el1, fr1, hp1, eH⟩
  · exact ⟨cs0, el0, fr0, hp0, eA⟩
end Go.Proofs.YtmgkngdbphkmmaaDoor
