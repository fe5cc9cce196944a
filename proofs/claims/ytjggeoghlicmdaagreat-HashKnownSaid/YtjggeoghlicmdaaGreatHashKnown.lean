/-
  'crossbarlaw15.HashKnown' returns true, whatever the memory and the tape: no condition.
-/
import Derived.Test.YtjggeoghlicmdaaGreatHashSmall
import Derived.WalkKit
import Derived.ProofKit
import Derived.OpenShut
namespace Go.Proofs.YtjggeoghlicmdaaGreat.hashKnown
open Go.AS Go.ChangeShapes Go.WideShapes Go.ChangeAt Go.RowKit
set_option linter.unusedVariables false      -- a walk need not use every 'w<i>' (that an integer argument fits its kind)

theorem own : ownKnob Tryz.prog.godebug = none := by kernel_rfl

theorem ran : (semF en2 1000 7 [] (heap0 en2)).map (·.1) = some (.bool true) := by kernel_rfl

theorem walk (w : World) : Calls Tryz.prog 7 #[] w fun e w' => e = .returned (.bool true) ∧ Below w.heap.size w w' :=
  closed_callsF en2_ok en2_mix ran w

set_option maxRecDepth 100000 in
theorem lifted (os : Os) (started : os.Started) (H : Type) (enc : TypeId × Value → H) :
    ReturnsInHanded {} Tryz.checked os 7 .any (Rows.hashKnownSpec.pre6 enc Tryz.prog Tryz.f7 Rows.hashKnownRow.domain false) (Rows.hashKnownSpec.post enc Tryz.prog Tryz.f7 false true false false) := by
  refine returnsInHanded_of_change (C := Tryz.checked) own started (by kernel_rfl) Tryz.func7
    (ChangeSpec.witness6 (enc := enc) (C := Tryz.checked) false ⟨#[], #[], []⟩ 8 (by kernel_rfl) (by kernel_rfl) (by kernel_rfl) (by kernel_rfl)) ?_
  intro W base args ds gs before hval0 hW hcnd _
  have hval : ∀ (j : Nat) t v, Tryz.f7.params[j]? = some t → args[j]? = some v → Value.okWide Tryz.prog W .any base t v := hval0
  have hW' := hW
  obtain ⟨p, q, hA0, hV, rfl, hfz, hnd⟩ := hW
  have hA : DataW.TrodAll enc Tryz.prog W 0 (fun _ => true) true Tryz.f7.params.toList args.toList ds p := hA0
  rw [Tryz.params7] at hA hval
  obtain ⟨rfl, rfl, rfl⟩ := trodAll_none hA
  obtain ⟨rfl, rfl⟩ := trodVars_none hV
  clear hA0 hval0
  simp only [List.append_nil] at hW'
  refine (walk  W).mono fun e W' ⟨he, hg⟩ => ?_
  subst he
  exact ⟨_, rfl, _, _, _, [], [] ++ [], [], hW', trodAll_cons_mk (shut_bool Tryz.underlying4 _) trodAll_mk0, trodAll_mk0, rfl, hg.frame _, fun h => by cases h⟩

theorem laid : laidOutB Tryz.prog = true := by kernel_rfl
theorem rowed : mapsRowed Tryz.prog = true := by kernel_rfl
theorem inpl : Tryz.prog.inPlace 7 = Rows.hashKnownRow.inPlace := by kernel_rfl
theorem unfo : Tryz.prog.unfollowed 7 = Rows.hashKnownRow.unfollowed := by kernel_rfl
theorem recu : Tryz.prog.recurses 7 = Rows.hashKnownRow.recurses := by kernel_rfl
theorem nmd : Tryz.prog.varsNamed 7 = Rows.hashKnownRow.named := by kernel_rfl
theorem facts : joinedFacts Tryz.prog 7 Tryz.f7 Rows.hashKnownSpec Rows.hashKnownRow = true := by
  unfold joinedFacts
  rw [laid, rowed, inpl, unfo, recu, nmd]
  kernel_rfl
theorem over : Rows.hashKnownRow.holds Tryz.pinned (OpenSpec.ofChange Rows.hashKnownSpec) :=
  OpenClaim.holds_of_wide 7 Tryz.f7 rfl rfl rfl rfl rfl rfl rfl ⟨rfl, rfl, rfl, rfl, rfl⟩ rfl rfl rfl rfl rfl (by kernel_rfl) Tryz.func7 facts
    (of_decide_eq_true (by kernel_rfl)) (by unfold Func.isWrapper; first | (rw [if_pos (by decide +kernel)]; kernel_rfl) | (rw [if_neg (by decide +kernel)]; exact ⟨rfl, rfl⟩))
    (fun os started H enc _ => lifted os started H enc)

theorem proved : Rows.HashKnownSaid :=
  over
#print axioms proved
end Go.Proofs.YtjggeoghlicmdaaGreat.hashKnown
