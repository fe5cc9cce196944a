/-
  No cell of these rows narrows 'for every input' (looked for: loops, veiled, ifaces, maps, wideKeys, modest, calm, conditions, laid).
  DERIVED. THE GIVEN ROWS OF THIS SEAT. 7 by the template 'for every input the law returns true; each argument reads behind the call as it read before'; 0 by the template 'total and deterministic' (their statements: YthnifkjpkepbaaaTotals.lean).
  GIVEN WITH THE SEED: the statements are not yours to turn. If you find one false, say at which input.
  Laid BY PROGRAM, IN A SANDBOX (cutbox-rows.mjs): the forced cells as the released guide's own fill.sh prints them over the translation a6f572a4e4ddc8c0… (all of the seat's roots in one cut). By AI agents, Wed Nov 11 2026. No macro, syntax, notation, axiom, sorry.
-/
import Derived.Test.YthnifkjpkepbaaaChecked
import GoSem.Claim
import GoSem.ClaimJoined
import GoSem.ClaimMapViews
import Derived.JoinedTies
import Derived.KernelRfl
namespace Go.Proofs.Ythnifkjpkepbaaa
/- THE CELL 'sum', in the pinned program and in every row, IS THE sha256 OF THE DUMP (.gsa) THAT YthnifkjpkepbaaaProg.lean LOADS. Nothing in Lean hashes anything: it is a label: what it is worth is what the hold of that sum in a sandbox is worth. -/
noncomputable def Try.pinned : Pinned := { name := "ythnifkjpkepbaaa", sum := "a6f572a4e4ddc8c0e5e32d0a491c81dda8a40b1eeb1c2b66da75bcca874ef35e", checked := Try.checked }
namespace Rows
def none {H : Type} : Left H := { results := [], args := [] }

/-- 'crossbarlaw10.LockTurns': WHATEVER THE INPUT: true; the input reads as it did. -/
def lockTurnsSpec : ChangeSpec := { name := "lockTurns", fn := fun _ => fun
  | [d1, d2, d3] => { results := [.lit (.bool true)], args := [d1, d2, d3] }
  | _ => none }
def lockTurnsRow : OpenClaim := { program := "ythnifkjpkepbaaa", sum := "a6f572a4e4ddc8c0e5e32d0a491c81dda8a40b1eeb1c2b66da75bcca874ef35e", func := "crossbar/crossbarlaw10.LockTurns", spec := "lockTurns", unfollowed := true, recurses := true, apart := false }
def LockTurnsSaid : Prop := lockTurnsRow.holds Try.pinned (OpenSpec.ofChange lockTurnsSpec)

/-- ITS FALSE NEIGHBOUR: 'it returns false'. Refute it at one input. -/
def lockTurnsWrong : ChangeSpec := { name := "lockTurns", fn := fun _ => fun
  | [d1, d2, d3] => { results := [.lit (.bool false)], args := [d1, d2, d3] }
  | _ => none }
def LockTurnsWrongFalsely : Prop := lockTurnsRow.holds Try.pinned (OpenSpec.ofChange lockTurnsWrong)

/-- 'crossbarlaw10.LockBound': WHATEVER THE INPUT: true; the input reads as it did. -/
def lockBoundSpec : ChangeSpec := { name := "lockBound", fn := fun _ => fun
  | [d1, d2, d3] => { results := [.lit (.bool true)], args := [d1, d2, d3] }
  | _ => none }
def lockBoundRow : OpenClaim := { program := "ythnifkjpkepbaaa", sum := "a6f572a4e4ddc8c0e5e32d0a491c81dda8a40b1eeb1c2b66da75bcca874ef35e", func := "crossbar/crossbarlaw10.LockBound", spec := "lockBound", unfollowed := true, recurses := true, apart := false }
def LockBoundSaid : Prop := lockBoundRow.holds Try.pinned (OpenSpec.ofChange lockBoundSpec)

/-- ITS FALSE NEIGHBOUR: 'it returns false'. Refute it at one input. -/
def lockBoundWrong : ChangeSpec := { name := "lockBound", fn := fun _ => fun
  | [d1, d2, d3] => { results := [.lit (.bool false)], args := [d1, d2, d3] }
  | _ => none }
def LockBoundWrongFalsely : Prop := lockBoundRow.holds Try.pinned (OpenSpec.ofChange lockBoundWrong)

/-- 'crossbarlaw10.LockKnown': WHATEVER THE INPUT: true; the input reads as it did. -/
def lockKnownSpec : ChangeSpec := { name := "lockKnown", fn := fun _ => fun
  | [] => { results := [.lit (.bool true)], args := [] }
  | _ => none }
def lockKnownRow : OpenClaim := { program := "ythnifkjpkepbaaa", sum := "a6f572a4e4ddc8c0e5e32d0a491c81dda8a40b1eeb1c2b66da75bcca874ef35e", func := "crossbar/crossbarlaw10.LockKnown", spec := "lockKnown", unfollowed := true, recurses := true, apart := false }
def LockKnownSaid : Prop := lockKnownRow.holds Try.pinned (OpenSpec.ofChange lockKnownSpec)

/-- ITS FALSE NEIGHBOUR: 'it returns false'. Refute it at one input. -/
def lockKnownWrong : ChangeSpec := { name := "lockKnown", fn := fun _ => fun
  | [] => { results := [.lit (.bool false)], args := [] }
  | _ => none }
def LockKnownWrongFalsely : Prop := lockKnownRow.holds Try.pinned (OpenSpec.ofChange lockKnownWrong)

/-- 'crossbarlaw13.ArrayCells': WHATEVER THE INPUT: true; the input reads as it did. -/
def arrayCellsSpec : ChangeSpec := { name := "arrayCells", fn := fun _ => fun
  | [d1, d2, d3, d4, d5] => { results := [.lit (.bool true)], args := [d1, d2, d3, d4, d5] }
  | _ => none }
def arrayCellsRow : OpenClaim := { program := "ythnifkjpkepbaaa", sum := "a6f572a4e4ddc8c0e5e32d0a491c81dda8a40b1eeb1c2b66da75bcca874ef35e", func := "crossbar/crossbarlaw13.ArrayCells", spec := "arrayCells", unfollowed := true, recurses := true, apart := false }
def ArrayCellsSaid : Prop := arrayCellsRow.holds Try.pinned (OpenSpec.ofChange arrayCellsSpec)

/-- ITS FALSE NEIGHBOUR: 'it returns false'. Refute it at one input. -/
def arrayCellsWrong : ChangeSpec := { name := "arrayCells", fn := fun _ => fun
  | [d1, d2, d3, d4, d5] => { results := [.lit (.bool false)], args := [d1, d2, d3, d4, d5] }
  | _ => none }
def ArrayCellsWrongFalsely : Prop := arrayCellsRow.holds Try.pinned (OpenSpec.ofChange arrayCellsWrong)

/-- 'crossbarlaw13.ArrayKnown': WHATEVER THE INPUT: true; the input reads as it did. -/
def arrayKnownSpec : ChangeSpec := { name := "arrayKnown", fn := fun _ => fun
  | [] => { results := [.lit (.bool true)], args := [] }
  | _ => none }
def arrayKnownRow : OpenClaim := { program := "ythnifkjpkepbaaa", sum := "a6f572a4e4ddc8c0e5e32d0a491c81dda8a40b1eeb1c2b66da75bcca874ef35e", func := "crossbar/crossbarlaw13.ArrayKnown", spec := "arrayKnown", unfollowed := true, recurses := true, apart := false }
def ArrayKnownSaid : Prop := arrayKnownRow.holds Try.pinned (OpenSpec.ofChange arrayKnownSpec)

/-- ITS FALSE NEIGHBOUR: 'it returns false'. Refute it at one input. -/
def arrayKnownWrong : ChangeSpec := { name := "arrayKnown", fn := fun _ => fun
  | [] => { results := [.lit (.bool false)], args := [] }
  | _ => none }
def ArrayKnownWrongFalsely : Prop := arrayKnownRow.holds Try.pinned (OpenSpec.ofChange arrayKnownWrong)

/-- 'crossbarlaw13.ArrayAgrees': WHATEVER THE INPUT: true; the input reads as it did. -/
def arrayAgreesSpec : ChangeSpec := { name := "arrayAgrees", fn := fun _ => fun
  | [d] => { results := [.lit (.bool true)], args := [d] }
  | _ => none }
def arrayAgreesRow : OpenClaim := { program := "ythnifkjpkepbaaa", sum := "a6f572a4e4ddc8c0e5e32d0a491c81dda8a40b1eeb1c2b66da75bcca874ef35e", func := "crossbar/crossbarlaw13.ArrayAgrees", spec := "arrayAgrees", unfollowed := true, recurses := true, apart := false }
def ArrayAgreesSaid : Prop := arrayAgreesRow.holds Try.pinned (OpenSpec.ofChange arrayAgreesSpec)

/-- ITS FALSE NEIGHBOUR: 'it returns false'. Refute it at one input. -/
def arrayAgreesWrong : ChangeSpec := { name := "arrayAgrees", fn := fun _ => fun
  | [d] => { results := [.lit (.bool false)], args := [d] }
  | _ => none }
def ArrayAgreesWrongFalsely : Prop := arrayAgreesRow.holds Try.pinned (OpenSpec.ofChange arrayAgreesWrong)

/-- 'crossbarlaw10.LockWhole': WHATEVER THE INPUT: true; the input reads as it did. -/
def lockWholeSpec : ChangeSpec := { name := "lockWhole", fn := fun _ => fun
  | [d1, d2, d3] => { results := [.lit (.bool true)], args := [d1, d2, d3] }
  | _ => none }
def lockWholeRow : OpenClaim := { program := "ythnifkjpkepbaaa", sum := "a6f572a4e4ddc8c0e5e32d0a491c81dda8a40b1eeb1c2b66da75bcca874ef35e", func := "crossbar/crossbarlaw10.LockWhole", spec := "lockWhole", unfollowed := true, recurses := true, apart := false }
def LockWholeSaid : Prop := lockWholeRow.holds Try.pinned (OpenSpec.ofChange lockWholeSpec)

/-- ITS FALSE NEIGHBOUR: 'it returns false'. Refute it at one input. -/
def lockWholeWrong : ChangeSpec := { name := "lockWhole", fn := fun _ => fun
  | [d1, d2, d3] => { results := [.lit (.bool false)], args := [d1, d2, d3] }
  | _ => none }
def LockWholeWrongFalsely : Prop := lockWholeRow.holds Try.pinned (OpenSpec.ofChange lockWholeWrong)

/- THE SECOND FORM. 'bulk': how many values and letters a reading holds, each counted each time it is reached (what is shared counts as often as it is met; a slice's spare places count too). A statement '..UptoSaid' is the law's where the arguments, and the package variables that the reading takes, are together of bulk at most 1048576: NARROWER than '..Said'. Prove '..Said' where nothing that the law and all that it calls make is longer than what came in: it says more and counts as full. Else prove '..UptoSaid'. A law counts once. -/
mutual
def uptoBulk {H : Type} : DataW H → Nat
  | .lit (.string bytes) => bytes.length + 1
  | .lit _ => 1
  | .nil => 1
  | .ptr d => uptoBulk d + 1
  | .slice elems spare => uptoBulkAll elems + uptoBulkAll spare + 1
  | .agg parts => uptoBulkAll parts + 1
  | .iface _ d => uptoBulk d + 1
  | .map entries => uptoBulkEntries entries + 1
  | .held _ => 1
def uptoBulkAll {H : Type} : List (DataW H) → Nat
  | [] => 0
  | d :: r => uptoBulk d + uptoBulkAll r
def uptoBulkEntries {H : Type} : List (Lit × DataW H) → Nat
  | [] => 0
  | x :: r => uptoBulkEntry x + uptoBulkEntries r
def uptoBulkEntry {H : Type} : Lit × DataW H → Nat
  | (.string bytes, d) => bytes.length + uptoBulk d + 1
  | (_, d) => uptoBulk d + 1
 end
def uptoSmall : (H : Type) → List (DataW H) → Bool := fun _ ds => decide (uptoBulkAll ds ≤ 1048576)
def OpenSpec.upto (s : _root_.Go.ChangeSpec) : _root_.Go.OpenSpec := { _root_.Go.OpenSpec.ofChange s with cond := some uptoSmall }

/-- 'crossbarlaw10.LockTurns', WHERE WHAT IT READS IS OF BULK AT MOST 1048576: true; the input reads as it did. -/
def lockTurnsUptoRow : OpenClaim := { program := "ythnifkjpkepbaaa", sum := "a6f572a4e4ddc8c0e5e32d0a491c81dda8a40b1eeb1c2b66da75bcca874ef35e", func := "crossbar/crossbarlaw10.LockTurns", spec := "lockTurns", unfollowed := true, recurses := true, apart := false, narrowed := true }
def LockTurnsUptoSaid : Prop := lockTurnsUptoRow.holds Try.pinned (OpenSpec.upto lockTurnsSpec)

/-- 'crossbarlaw10.LockBound', WHERE WHAT IT READS IS OF BULK AT MOST 1048576: true; the input reads as it did. -/
def lockBoundUptoRow : OpenClaim := { program := "ythnifkjpkepbaaa", sum := "a6f572a4e4ddc8c0e5e32d0a491c81dda8a40b1eeb1c2b66da75bcca874ef35e", func := "crossbar/crossbarlaw10.LockBound", spec := "lockBound", unfollowed := true, recurses := true, apart := false, narrowed := true }
def LockBoundUptoSaid : Prop := lockBoundUptoRow.holds Try.pinned (OpenSpec.upto lockBoundSpec)

/-- 'crossbarlaw10.LockKnown', WHERE WHAT IT READS IS OF BULK AT MOST 1048576: true; the input reads as it did. -/
def lockKnownUptoRow : OpenClaim := { program := "ythnifkjpkepbaaa", sum := "a6f572a4e4ddc8c0e5e32d0a491c81dda8a40b1eeb1c2b66da75bcca874ef35e", func := "crossbar/crossbarlaw10.LockKnown", spec := "lockKnown", unfollowed := true, recurses := true, apart := false, narrowed := true }
def LockKnownUptoSaid : Prop := lockKnownUptoRow.holds Try.pinned (OpenSpec.upto lockKnownSpec)

/-- 'crossbarlaw13.ArrayCells', WHERE WHAT IT READS IS OF BULK AT MOST 1048576: true; the input reads as it did. -/
def arrayCellsUptoRow : OpenClaim := { program := "ythnifkjpkepbaaa", sum := "a6f572a4e4ddc8c0e5e32d0a491c81dda8a40b1eeb1c2b66da75bcca874ef35e", func := "crossbar/crossbarlaw13.ArrayCells", spec := "arrayCells", unfollowed := true, recurses := true, apart := false, narrowed := true }
def ArrayCellsUptoSaid : Prop := arrayCellsUptoRow.holds Try.pinned (OpenSpec.upto arrayCellsSpec)

/-- 'crossbarlaw13.ArrayKnown', WHERE WHAT IT READS IS OF BULK AT MOST 1048576: true; the input reads as it did. -/
def arrayKnownUptoRow : OpenClaim := { program := "ythnifkjpkepbaaa", sum := "a6f572a4e4ddc8c0e5e32d0a491c81dda8a40b1eeb1c2b66da75bcca874ef35e", func := "crossbar/crossbarlaw13.ArrayKnown", spec := "arrayKnown", unfollowed := true, recurses := true, apart := false, narrowed := true }
def ArrayKnownUptoSaid : Prop := arrayKnownUptoRow.holds Try.pinned (OpenSpec.upto arrayKnownSpec)

/-- 'crossbarlaw13.ArrayAgrees', WHERE WHAT IT READS IS OF BULK AT MOST 1048576: true; the input reads as it did. -/
def arrayAgreesUptoRow : OpenClaim := { program := "ythnifkjpkepbaaa", sum := "a6f572a4e4ddc8c0e5e32d0a491c81dda8a40b1eeb1c2b66da75bcca874ef35e", func := "crossbar/crossbarlaw13.ArrayAgrees", spec := "arrayAgrees", unfollowed := true, recurses := true, apart := false, narrowed := true }
def ArrayAgreesUptoSaid : Prop := arrayAgreesUptoRow.holds Try.pinned (OpenSpec.upto arrayAgreesSpec)

/-- 'crossbarlaw10.LockWhole', WHERE WHAT IT READS IS OF BULK AT MOST 1048576: true; the input reads as it did. -/
def lockWholeUptoRow : OpenClaim := { program := "ythnifkjpkepbaaa", sum := "a6f572a4e4ddc8c0e5e32d0a491c81dda8a40b1eeb1c2b66da75bcca874ef35e", func := "crossbar/crossbarlaw10.LockWhole", spec := "lockWhole", unfollowed := true, recurses := true, apart := false, narrowed := true }
def LockWholeUptoSaid : Prop := lockWholeUptoRow.holds Try.pinned (OpenSpec.upto lockWholeSpec)

end Rows
end Go.Proofs.Ythnifkjpkepbaaa
