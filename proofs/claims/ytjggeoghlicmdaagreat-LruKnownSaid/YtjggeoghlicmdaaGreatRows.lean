/-
  No cell of these rows narrows 'for every input' (looked for: loops, veiled, ifaces, maps, wideKeys, modest, calm, conditions, laid).
  DERIVED. THE GIVEN ROWS OF THIS SEAT. 8 by the template 'for every input the law returns true; each argument reads behind the call as it read before'; 0 by the template 'total and deterministic' (their statements: YtjggeoghlicmdaaGreatTotals.lean).
  GIVEN WITH THE SEED: the statements are not yours to turn. If you find one false, say at which input.
  Laid BY PROGRAM, IN A SANDBOX (cutbox-rows.mjs): the forced cells as the released guide's own fill.sh prints them over the translation 6db655ddc530729d… (all of the seat's roots in one cut). By AI agents, Wed Nov 11 2026. No macro, syntax, notation, axiom, sorry.
-/
import Derived.Test.YtjggeoghlicmdaaGreatChecked
import GoSem.Claim
import GoSem.ClaimJoined
import GoSem.ClaimMapViews
import Derived.JoinedTies
import Derived.KernelRfl
namespace Go.Proofs.YtjggeoghlicmdaaGreat
/- THE CELL 'sum', in the pinned program and in every row, IS THE sha256 OF THE DUMP (.gsa) THAT YtjggeoghlicmdaaGreatProg.lean LOADS. Nothing in Lean hashes anything: it is a label: what it is worth is what the hold of that sum in a sandbox is worth. -/
noncomputable def Tryz.pinned : Pinned := { name := "ytjggeoghlicmdaagreat", sum := "6db655ddc530729dc927b59df6c95b70153a0e75f6179c8824460883aba1a1e9", checked := Tryz.checked }
namespace Rows
def none {H : Type} : Left H := { results := [], args := [] }

/-- 'crossbarlaw16.LruAge': WHATEVER THE INPUT: true; the input reads as it did. -/
def lruAgeSpec : ChangeSpec := { name := "lruAge", fn := fun _ => fun
  | [d1, d2] => { results := [.lit (.bool true)], args := [d1, d2] }
  | _ => none }
def lruAgeRow : OpenClaim := { program := "ytjggeoghlicmdaagreat", sum := "6db655ddc530729dc927b59df6c95b70153a0e75f6179c8824460883aba1a1e9", func := "crossbar/crossbarlaw16.LruAge", spec := "lruAge", inPlace := ["maps.clone"], unfollowed := true, recurses := true, apart := false }
def LruAgeSaid : Prop := lruAgeRow.holds Tryz.pinned (OpenSpec.ofChange lruAgeSpec)

/-- ITS FALSE NEIGHBOUR: 'it returns false'. Refute it at one input. -/
def lruAgeWrong : ChangeSpec := { name := "lruAge", fn := fun _ => fun
  | [d1, d2] => { results := [.lit (.bool false)], args := [d1, d2] }
  | _ => none }
def LruAgeWrongFalsely : Prop := lruAgeRow.holds Tryz.pinned (OpenSpec.ofChange lruAgeWrong)

/-- 'crossbarlaw16.LruGoes': WHATEVER THE INPUT: true; the input reads as it did. -/
def lruGoesSpec : ChangeSpec := { name := "lruGoes", fn := fun _ => fun
  | [d1, d2, d3] => { results := [.lit (.bool true)], args := [d1, d2, d3] }
  | _ => none }
def lruGoesRow : OpenClaim := { program := "ytjggeoghlicmdaagreat", sum := "6db655ddc530729dc927b59df6c95b70153a0e75f6179c8824460883aba1a1e9", func := "crossbar/crossbarlaw16.LruGoes", spec := "lruGoes", inPlace := ["maps.clone"], unfollowed := true, recurses := true, apart := false }
def LruGoesSaid : Prop := lruGoesRow.holds Tryz.pinned (OpenSpec.ofChange lruGoesSpec)

/-- ITS FALSE NEIGHBOUR: 'it returns false'. Refute it at one input. -/
def lruGoesWrong : ChangeSpec := { name := "lruGoes", fn := fun _ => fun
  | [d1, d2, d3] => { results := [.lit (.bool false)], args := [d1, d2, d3] }
  | _ => none }
def LruGoesWrongFalsely : Prop := lruGoesRow.holds Tryz.pinned (OpenSpec.ofChange lruGoesWrong)

/-- 'crossbarlaw15.HashSteps': WHATEVER THE INPUT: true; the input reads as it did. -/
def hashStepsSpec : ChangeSpec := { name := "hashSteps", fn := fun _ => fun
  | [d1, d2, d3, d4] => { results := [.lit (.bool true)], args := [d1, d2, d3, d4] }
  | _ => none }
def hashStepsRow : OpenClaim := { program := "ytjggeoghlicmdaagreat", sum := "6db655ddc530729dc927b59df6c95b70153a0e75f6179c8824460883aba1a1e9", func := "crossbar/crossbarlaw15.HashSteps", spec := "hashSteps", inPlace := ["maps.clone"], unfollowed := true, recurses := true, apart := false }
def HashStepsSaid : Prop := hashStepsRow.holds Tryz.pinned (OpenSpec.ofChange hashStepsSpec)

/-- ITS FALSE NEIGHBOUR: 'it returns false'. Refute it at one input. -/
def hashStepsWrong : ChangeSpec := { name := "hashSteps", fn := fun _ => fun
  | [d1, d2, d3, d4] => { results := [.lit (.bool false)], args := [d1, d2, d3, d4] }
  | _ => none }
def HashStepsWrongFalsely : Prop := hashStepsRow.holds Tryz.pinned (OpenSpec.ofChange hashStepsWrong)

/-- 'crossbarlaw15.HashOnce': WHATEVER THE INPUT: true; the input reads as it did. -/
def hashOnceSpec : ChangeSpec := { name := "hashOnce", fn := fun _ => fun
  | [d1, d2, d3] => { results := [.lit (.bool true)], args := [d1, d2, d3] }
  | _ => none }
def hashOnceRow : OpenClaim := { program := "ytjggeoghlicmdaagreat", sum := "6db655ddc530729dc927b59df6c95b70153a0e75f6179c8824460883aba1a1e9", func := "crossbar/crossbarlaw15.HashOnce", spec := "hashOnce", inPlace := ["maps.clone"], unfollowed := true, recurses := true, apart := false }
def HashOnceSaid : Prop := hashOnceRow.holds Tryz.pinned (OpenSpec.ofChange hashOnceSpec)

/-- ITS FALSE NEIGHBOUR: 'it returns false'. Refute it at one input. -/
def hashOnceWrong : ChangeSpec := { name := "hashOnce", fn := fun _ => fun
  | [d1, d2, d3] => { results := [.lit (.bool false)], args := [d1, d2, d3] }
  | _ => none }
def HashOnceWrongFalsely : Prop := hashOnceRow.holds Tryz.pinned (OpenSpec.ofChange hashOnceWrong)

/-- 'crossbarlaw15.HashKnown': WHATEVER THE INPUT: true; the input reads as it did. -/
def hashKnownSpec : ChangeSpec := { name := "hashKnown", fn := fun _ => fun
  | [] => { results := [.lit (.bool true)], args := [] }
  | _ => none }
def hashKnownRow : OpenClaim := { program := "ytjggeoghlicmdaagreat", sum := "6db655ddc530729dc927b59df6c95b70153a0e75f6179c8824460883aba1a1e9", func := "crossbar/crossbarlaw15.HashKnown", spec := "hashKnown", inPlace := ["maps.clone"], unfollowed := true, recurses := true, apart := false }
def HashKnownSaid : Prop := hashKnownRow.holds Tryz.pinned (OpenSpec.ofChange hashKnownSpec)

/-- ITS FALSE NEIGHBOUR: 'it returns false'. Refute it at one input. -/
def hashKnownWrong : ChangeSpec := { name := "hashKnown", fn := fun _ => fun
  | [] => { results := [.lit (.bool false)], args := [] }
  | _ => none }
def HashKnownWrongFalsely : Prop := hashKnownRow.holds Tryz.pinned (OpenSpec.ofChange hashKnownWrong)

/-- 'crossbarlaw15.HashAgrees': WHATEVER THE INPUT: true; the input reads as it did. -/
def hashAgreesSpec : ChangeSpec := { name := "hashAgrees", fn := fun _ => fun
  | [d] => { results := [.lit (.bool true)], args := [d] }
  | _ => none }
def hashAgreesRow : OpenClaim := { program := "ytjggeoghlicmdaagreat", sum := "6db655ddc530729dc927b59df6c95b70153a0e75f6179c8824460883aba1a1e9", func := "crossbar/crossbarlaw15.HashAgrees", spec := "hashAgrees", inPlace := ["maps.clone"], unfollowed := true, recurses := true, apart := false }
def HashAgreesSaid : Prop := hashAgreesRow.holds Tryz.pinned (OpenSpec.ofChange hashAgreesSpec)

/-- ITS FALSE NEIGHBOUR: 'it returns false'. Refute it at one input. -/
def hashAgreesWrong : ChangeSpec := { name := "hashAgrees", fn := fun _ => fun
  | [d] => { results := [.lit (.bool false)], args := [d] }
  | _ => none }
def HashAgreesWrongFalsely : Prop := hashAgreesRow.holds Tryz.pinned (OpenSpec.ofChange hashAgreesWrong)

/-- 'crossbarlaw16.LruKnown': WHATEVER THE INPUT: true; the input reads as it did. -/
def lruKnownSpec : ChangeSpec := { name := "lruKnown", fn := fun _ => fun
  | [] => { results := [.lit (.bool true)], args := [] }
  | _ => none }
def lruKnownRow : OpenClaim := { program := "ytjggeoghlicmdaagreat", sum := "6db655ddc530729dc927b59df6c95b70153a0e75f6179c8824460883aba1a1e9", func := "crossbar/crossbarlaw16.LruKnown", spec := "lruKnown", inPlace := ["maps.clone"], unfollowed := true, recurses := true, apart := false }
def LruKnownSaid : Prop := lruKnownRow.holds Tryz.pinned (OpenSpec.ofChange lruKnownSpec)

/-- ITS FALSE NEIGHBOUR: 'it returns false'. Refute it at one input. -/
def lruKnownWrong : ChangeSpec := { name := "lruKnown", fn := fun _ => fun
  | [] => { results := [.lit (.bool false)], args := [] }
  | _ => none }
def LruKnownWrongFalsely : Prop := lruKnownRow.holds Tryz.pinned (OpenSpec.ofChange lruKnownWrong)

/-- 'crossbarlaw16.LruRuns': WHATEVER THE INPUT: true; the input reads as it did. -/
def lruRunsSpec : ChangeSpec := { name := "lruRuns", fn := fun _ => fun
  | [d1, d2, d3] => { results := [.lit (.bool true)], args := [d1, d2, d3] }
  | _ => none }
def lruRunsRow : OpenClaim := { program := "ytjggeoghlicmdaagreat", sum := "6db655ddc530729dc927b59df6c95b70153a0e75f6179c8824460883aba1a1e9", func := "crossbar/crossbarlaw16.LruRuns", spec := "lruRuns", inPlace := ["maps.clone"], unfollowed := true, recurses := true, apart := false }
def LruRunsSaid : Prop := lruRunsRow.holds Tryz.pinned (OpenSpec.ofChange lruRunsSpec)

/-- ITS FALSE NEIGHBOUR: 'it returns false'. Refute it at one input. -/
def lruRunsWrong : ChangeSpec := { name := "lruRuns", fn := fun _ => fun
  | [d1, d2, d3] => { results := [.lit (.bool false)], args := [d1, d2, d3] }
  | _ => none }
def LruRunsWrongFalsely : Prop := lruRunsRow.holds Tryz.pinned (OpenSpec.ofChange lruRunsWrong)

/- THE SECOND FORM. 'bulk': how many values and letters a reading holds, each counted each time it is reached (what is shared counts as often as it is met; a slice's spare places count too). A statement '..UptoSaid' is the law's where the arguments, and the package variables that the reading takes, are together of bulk at most 1048576: NARROWER than '..Said'. Prove '..Said' where nothing that the law and all that it calls make is longer than what came in: it says more and counts as full. Else prove '..UptoSaid'. A law counts once. -/
mutual
def uptoBulk {H : Type} : DataW H → Nat
  | .lit (.string bytes) => bytes.length + 1
  | .lit _ => 1
  | .nil => 1
  | .ptr d => uptoBulk d + 1
  | .slice elems spare => uptoBulkAll elems + uptoBulkAll spare + 1
  | .agg parts => uptoBulkAll parts + 1
  | .iface _ d => uptoBulk d + 1
  | .map entries => uptoBulkEntries entries + 1
  | .held _ => 1
def uptoBulkAll {H : Type} : List (DataW H) → Nat
  | [] => 0
  | d :: r => uptoBulk d + uptoBulkAll r
def uptoBulkEntries {H : Type} : List (Lit × DataW H) → Nat
  | [] => 0
  | x :: r => uptoBulkEntry x + uptoBulkEntries r
def uptoBulkEntry {H : Type} : Lit × DataW H → Nat
  | (.string bytes, d) => bytes.length + uptoBulk d + 1
  | (_, d) => uptoBulk d + 1
 end
def uptoSmall : (H : Type) → List (DataW H) → Bool := fun _ ds => decide (uptoBulkAll ds ≤ 1048576)
def OpenSpec.upto (s : _root_.Go.ChangeSpec) : _root_.Go.OpenSpec := { _root_.Go.OpenSpec.ofChange s with cond := some uptoSmall }

/-- 'crossbarlaw16.LruAge', WHERE WHAT IT READS IS OF BULK AT MOST 1048576: true; the input reads as it did. -/
def lruAgeUptoRow : OpenClaim := { program := "ytjggeoghlicmdaagreat", sum := "6db655ddc530729dc927b59df6c95b70153a0e75f6179c8824460883aba1a1e9", func := "crossbar/crossbarlaw16.LruAge", spec := "lruAge", inPlace := ["maps.clone"], unfollowed := true, recurses := true, apart := false, narrowed := true }
def LruAgeUptoSaid : Prop := lruAgeUptoRow.holds Tryz.pinned (OpenSpec.upto lruAgeSpec)

/-- 'crossbarlaw16.LruGoes', WHERE WHAT IT READS IS OF BULK AT MOST 1048576: true; the input reads as it did. -/
def lruGoesUptoRow : OpenClaim := { program := "ytjggeoghlicmdaagreat", sum := "6db655ddc530729dc927b59df6c95b70153a0e75f6179c8824460883aba1a1e9", func := "crossbar/crossbarlaw16.LruGoes", spec := "lruGoes", inPlace := ["maps.clone"], unfollowed := true, recurses := true, apart := false, narrowed := true }
def LruGoesUptoSaid : Prop := lruGoesUptoRow.holds Tryz.pinned (OpenSpec.upto lruGoesSpec)

/-- 'crossbarlaw15.HashSteps', WHERE WHAT IT READS IS OF BULK AT MOST 1048576: true; the input reads as it did. -/
def hashStepsUptoRow : OpenClaim := { program := "ytjggeoghlicmdaagreat", sum := "6db655ddc530729dc927b59df6c95b70153a0e75f6179c8824460883aba1a1e9", func := "crossbar/crossbarlaw15.HashSteps", spec := "hashSteps", inPlace := ["maps.clone"], unfollowed := true, recurses := true, apart := false, narrowed := true }
def HashStepsUptoSaid : Prop := hashStepsUptoRow.holds Tryz.pinned (OpenSpec.upto hashStepsSpec)

/-- 'crossbarlaw15.HashOnce', WHERE WHAT IT READS IS OF BULK AT MOST 1048576: true; the input reads as it did. -/
def hashOnceUptoRow : OpenClaim := { program := "ytjggeoghlicmdaagreat", sum := "6db655ddc530729dc927b59df6c95b70153a0e75f6179c8824460883aba1a1e9", func := "crossbar/crossbarlaw15.HashOnce", spec := "hashOnce", inPlace := ["maps.clone"], unfollowed := true, recurses := true, apart := false, narrowed := true }
def HashOnceUptoSaid : Prop := hashOnceUptoRow.holds Tryz.pinned (OpenSpec.upto hashOnceSpec)

/-- 'crossbarlaw15.HashKnown', WHERE WHAT IT READS IS OF BULK AT MOST 1048576: true; the input reads as it did. -/
def hashKnownUptoRow : OpenClaim := { program := "ytjggeoghlicmdaagreat", sum := "6db655ddc530729dc927b59df6c95b70153a0e75f6179c8824460883aba1a1e9", func := "crossbar/crossbarlaw15.HashKnown", spec := "hashKnown", inPlace := ["maps.clone"], unfollowed := true, recurses := true, apart := false, narrowed := true }
def HashKnownUptoSaid : Prop := hashKnownUptoRow.holds Tryz.pinned (OpenSpec.upto hashKnownSpec)

/-- 'crossbarlaw15.HashAgrees', WHERE WHAT IT READS IS OF BULK AT MOST 1048576: true; the input reads as it did. -/
def hashAgreesUptoRow : OpenClaim := { program := "ytjggeoghlicmdaagreat", sum := "6db655ddc530729dc927b59df6c95b70153a0e75f6179c8824460883aba1a1e9", func := "crossbar/crossbarlaw15.HashAgrees", spec := "hashAgrees", inPlace := ["maps.clone"], unfollowed := true, recurses := true, apart := false, narrowed := true }
def HashAgreesUptoSaid : Prop := hashAgreesUptoRow.holds Tryz.pinned (OpenSpec.upto hashAgreesSpec)

/-- 'crossbarlaw16.LruKnown', WHERE WHAT IT READS IS OF BULK AT MOST 1048576: true; the input reads as it did. -/
def lruKnownUptoRow : OpenClaim := { program := "ytjggeoghlicmdaagreat", sum := "6db655ddc530729dc927b59df6c95b70153a0e75f6179c8824460883aba1a1e9", func := "crossbar/crossbarlaw16.LruKnown", spec := "lruKnown", inPlace := ["maps.clone"], unfollowed := true, recurses := true, apart := false, narrowed := true }
def LruKnownUptoSaid : Prop := lruKnownUptoRow.holds Tryz.pinned (OpenSpec.upto lruKnownSpec)

/-- 'crossbarlaw16.LruRuns', WHERE WHAT IT READS IS OF BULK AT MOST 1048576: true; the input reads as it did. -/
def lruRunsUptoRow : OpenClaim := { program := "ytjggeoghlicmdaagreat", sum := "6db655ddc530729dc927b59df6c95b70153a0e75f6179c8824460883aba1a1e9", func := "crossbar/crossbarlaw16.LruRuns", spec := "lruRuns", inPlace := ["maps.clone"], unfollowed := true, recurses := true, apart := false, narrowed := true }
def LruRunsUptoSaid : Prop := lruRunsUptoRow.holds Tryz.pinned (OpenSpec.upto lruRunsSpec)

end Rows
end Go.Proofs.YtjggeoghlicmdaaGreat
