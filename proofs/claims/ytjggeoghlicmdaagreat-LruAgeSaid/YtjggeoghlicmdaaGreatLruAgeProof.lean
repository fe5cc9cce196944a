/-
  'crossbarlaw16.LruAge' returns true, whatever the arguments, the memory and the tape: no condition.
-/
import Derived.Test.YtjggeoghlicmdaaGreatRows
import Derived.Test.YtjggeoghlicmdaaGreatLruAge
import Derived.WalkKit
import Derived.ProofKit
import Derived.OpenShut
namespace Go.Proofs.YtjggeoghlicmdaaGreat.lruAge
open Go.AS Go.ChangeShapes Go.WideShapes Go.ChangeAt Go.RowKit
set_option linter.unusedVariables false

theorem own : ownKnob Tryz.prog.godebug = none := by kernel_rfl
theorem laid : laidOutB Tryz.prog = true := by kernel_rfl

set_option maxRecDepth 100000 in
theorem lifted (os : Os) (started : os.Started) (H : Type) (enc : TypeId × Value → H) :
    ReturnsInHanded {} Tryz.checked os 3 .any (Rows.lruAgeSpec.pre6 enc Tryz.prog Tryz.f3 Rows.lruAgeRow.domain false) (Rows.lruAgeSpec.post enc Tryz.prog Tryz.f3 false true false false) := by
  refine returnsInHanded_of_change (C := Tryz.checked) own started (by kernel_rfl) Tryz.func3
    (ChangeSpec.witness6 (enc := enc) (C := Tryz.checked) false ⟨#[], #[.int .i64 0, .slice none 0 0], []⟩ 8 (by kernel_rfl) (by kernel_rfl) (by kernel_rfl) (by kernel_rfl)) ?_
  intro W base args ds gs before hval0 hW hcnd _
  have hval : ∀ (j : Nat) t v, Tryz.f3.params[j]? = some t → args[j]? = some v → Value.okWide Tryz.prog W .any base t v := hval0
  have hW' := hW
  obtain ⟨p, q, hA0, hV, rfl, hfz, hnd⟩ := hW
  have hA : DataW.TrodAll enc Tryz.prog W 0 (fun _ => true) true Tryz.f3.params.toList args.toList ds p := hA0
  rw [Tryz.params3] at hA hval
  obtain ⟨rfl, rfl⟩ := trodVars_none hV
  have hrun := law_calls en_ok en_mix (f := 3) (fun H us h => LruAge_law H us h) (by kernel_rfl) hA (fun j t v a b => hval j t v (by simpa using a) b)
  obtain ⟨v0, vs0, d0, ds0, p0, q0, hargs, rfl, rfl, h0, r0⟩ := trodAll_cons hA
  obtain ⟨v1, vs1, d1, ds1, p1, q1, rfl, rfl, rfl, h1, r1⟩ := trodAll_cons r0
  obtain ⟨rfl, rfl, rfl⟩ := trodAll_nil r1
  obtain rfl : args = #[v0, v1] := by cases args; simp_all
  clear hA0 hval0
  simp only [List.append_nil] at hW'
  refine hrun.mono fun e W' ⟨he, hg⟩ => ?_
  subst he
  exact ⟨_, rfl, _, _, _, [], p0 ++ (p1 ++ ([])), [], hW', trodAll_cons_mk (shut_bool Tryz.underlying4 _) trodAll_mk0, trodAll_cons_mk (Below.trod laid (by kernel_rfl) (of_decide_eq_true (by kernel_rfl)) h0 hg fun x hx => by simpa using hW'.lt x (by simp [hx])) (trodAll_cons_mk (Below.trod laid (by kernel_rfl) (of_decide_eq_true (by kernel_rfl)) h1 hg fun x hx => by simpa using hW'.lt x (by simp [hx])) (trodAll_mk0)), rfl, hg.frame _, fun h => by cases h⟩

theorem rowed : mapsRowed Tryz.prog = true := by kernel_rfl
theorem inpl : Tryz.prog.inPlace 3 = Rows.lruAgeRow.inPlace := by kernel_rfl
theorem unfo : Tryz.prog.unfollowed 3 = Rows.lruAgeRow.unfollowed := by kernel_rfl
theorem recu : Tryz.prog.recurses 3 = Rows.lruAgeRow.recurses := by kernel_rfl
theorem nmd : Tryz.prog.varsNamed 3 = Rows.lruAgeRow.named := by kernel_rfl
theorem facts : joinedFacts Tryz.prog 3 Tryz.f3 Rows.lruAgeSpec Rows.lruAgeRow = true := by
  unfold joinedFacts
  rw [laid, rowed, inpl, unfo, recu, nmd]
  kernel_rfl
theorem over : Rows.lruAgeRow.holds Tryz.pinned (OpenSpec.ofChange Rows.lruAgeSpec) :=
  OpenClaim.holds_of_wide 3 Tryz.f3 rfl rfl rfl rfl rfl rfl rfl ⟨rfl, rfl, rfl, rfl, rfl⟩ rfl rfl rfl rfl rfl (by kernel_rfl) Tryz.func3 facts
    (of_decide_eq_true (by kernel_rfl)) (by unfold Func.isWrapper; first | (rw [if_pos (by decide +kernel)]; kernel_rfl) | (rw [if_neg (by decide +kernel)]; exact ⟨rfl, rfl⟩))
    (fun os started H enc _ => lifted os started H enc)

theorem proved : Rows.LruAgeSaid :=
  over
#print axioms proved
end Go.Proofs.YtjggeoghlicmdaaGreat.lruAge
