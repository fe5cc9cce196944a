/-
  No cell of these rows narrows 'for every input' (looked for: loops, veiled, ifaces, maps, wideKeys, modest, calm, conditions, laid).
  DERIVED. THE GIVEN ROWS OF THIS SEAT. 5 by the template 'for every input the law returns true; each argument reads behind the call as it read before'; 0 by the template 'total and deterministic' (their statements: YtgpacebjbdhphaaTotals.lean).
  GIVEN WITH THE SEED: the statements are not yours to turn. If you find one false, say at which input.
  Laid BY PROGRAM, IN A SANDBOX (cutbox-rows.mjs): the forced cells as the released guide's own fill.sh prints them over the translation 1e609c29d680822d… (all of the seat's roots in one cut). By AI agents, Wed Nov 11 2026. No macro, syntax, notation, axiom, sorry.
-/
import Derived.Test.YtgpacebjbdhphaaChecked
import GoSem.Claim
import GoSem.ClaimJoined
import GoSem.ClaimMapViews
import Derived.JoinedTies
import Derived.KernelRfl
namespace Go.Proofs.Ytgpacebjbdhphaa
/- THE CELL 'sum', in the pinned program and in every row, IS THE sha256 OF THE DUMP (.gsa) THAT YtgpacebjbdhphaaProg.lean LOADS. Nothing in Lean hashes anything: it is a label: what it is worth is what the hold of that sum in a sandbox is worth. -/
noncomputable def Try.pinned : Pinned := { name := "ytgpacebjbdhphaa", sum := "1e609c29d680822de305863223fc2d836dbe70dfa558369724665cb8411100c9", checked := Try.checked }
namespace Rows
def none {H : Type} : Left H := { results := [], args := [] }

/-- 'crossbarlaw17.RingWhole': WHATEVER THE INPUT: true; the input reads as it did. -/
def ringWholeSpec : ChangeSpec := { name := "ringWhole", fn := fun _ => fun
  | [d1, d2, d3, d4, d5] => { results := [.lit (.bool true)], args := [d1, d2, d3, d4, d5] }
  | _ => none }
def ringWholeRow : OpenClaim := { program := "ytgpacebjbdhphaa", sum := "1e609c29d680822de305863223fc2d836dbe70dfa558369724665cb8411100c9", func := "crossbar/crossbarlaw17.RingWhole", spec := "ringWhole", unfollowed := true, recurses := true, apart := false }
def RingWholeSaid : Prop := ringWholeRow.holds Try.pinned (OpenSpec.ofChange ringWholeSpec)

/-- ITS FALSE NEIGHBOUR: 'it returns false'. Refute it at one input. -/
def ringWholeWrong : ChangeSpec := { name := "ringWhole", fn := fun _ => fun
  | [d1, d2, d3, d4, d5] => { results := [.lit (.bool false)], args := [d1, d2, d3, d4, d5] }
  | _ => none }
def RingWholeWrongFalsely : Prop := ringWholeRow.holds Try.pinned (OpenSpec.ofChange ringWholeWrong)

/-- 'crossbarlaw17.RingKnown': WHATEVER THE INPUT: true; the input reads as it did. -/
def ringKnownSpec : ChangeSpec := { name := "ringKnown", fn := fun _ => fun
  | [] => { results := [.lit (.bool true)], args := [] }
  | _ => none }
def ringKnownRow : OpenClaim := { program := "ytgpacebjbdhphaa", sum := "1e609c29d680822de305863223fc2d836dbe70dfa558369724665cb8411100c9", func := "crossbar/crossbarlaw17.RingKnown", spec := "ringKnown", unfollowed := true, recurses := true, apart := false }
def RingKnownSaid : Prop := ringKnownRow.holds Try.pinned (OpenSpec.ofChange ringKnownSpec)

/-- ITS FALSE NEIGHBOUR: 'it returns false'. Refute it at one input. -/
def ringKnownWrong : ChangeSpec := { name := "ringKnown", fn := fun _ => fun
  | [] => { results := [.lit (.bool false)], args := [] }
  | _ => none }
def RingKnownWrongFalsely : Prop := ringKnownRow.holds Try.pinned (OpenSpec.ofChange ringKnownWrong)

/-- 'crossbarlaw14.RecordWhole': WHATEVER THE INPUT: true; the input reads as it did. -/
def recordWholeSpec : ChangeSpec := { name := "recordWhole", fn := fun _ => fun
  | [d1, d2, d3, d4] => { results := [.lit (.bool true)], args := [d1, d2, d3, d4] }
  | _ => none }
def recordWholeRow : OpenClaim := { program := "ytgpacebjbdhphaa", sum := "1e609c29d680822de305863223fc2d836dbe70dfa558369724665cb8411100c9", func := "crossbar/crossbarlaw14.RecordWhole", spec := "recordWhole", unfollowed := true, recurses := true, apart := false }
def RecordWholeSaid : Prop := recordWholeRow.holds Try.pinned (OpenSpec.ofChange recordWholeSpec)

/-- ITS FALSE NEIGHBOUR: 'it returns false'. Refute it at one input. -/
def recordWholeWrong : ChangeSpec := { name := "recordWhole", fn := fun _ => fun
  | [d1, d2, d3, d4] => { results := [.lit (.bool false)], args := [d1, d2, d3, d4] }
  | _ => none }
def RecordWholeWrongFalsely : Prop := recordWholeRow.holds Try.pinned (OpenSpec.ofChange recordWholeWrong)

/-- 'crossbarlaw14.RecordAtomic': WHATEVER THE INPUT: true; the input reads as it did. -/
def recordAtomicSpec : ChangeSpec := { name := "recordAtomic", fn := fun _ => fun
  | [d1, d2, d3] => { results := [.lit (.bool true)], args := [d1, d2, d3] }
  | _ => none }
def recordAtomicRow : OpenClaim := { program := "ytgpacebjbdhphaa", sum := "1e609c29d680822de305863223fc2d836dbe70dfa558369724665cb8411100c9", func := "crossbar/crossbarlaw14.RecordAtomic", spec := "recordAtomic", unfollowed := true, recurses := true, apart := false }
def RecordAtomicSaid : Prop := recordAtomicRow.holds Try.pinned (OpenSpec.ofChange recordAtomicSpec)

/-- ITS FALSE NEIGHBOUR: 'it returns false'. Refute it at one input. -/
def recordAtomicWrong : ChangeSpec := { name := "recordAtomic", fn := fun _ => fun
  | [d1, d2, d3] => { results := [.lit (.bool false)], args := [d1, d2, d3] }
  | _ => none }
def RecordAtomicWrongFalsely : Prop := recordAtomicRow.holds Try.pinned (OpenSpec.ofChange recordAtomicWrong)

/-- 'crossbarlaw14.RecordRuns': WHATEVER THE INPUT: true; the input reads as it did. -/
def recordRunsSpec : ChangeSpec := { name := "recordRuns", fn := fun _ => fun
  | [d1, d2, d3] => { results := [.lit (.bool true)], args := [d1, d2, d3] }
  | _ => none }
def recordRunsRow : OpenClaim := { program := "ytgpacebjbdhphaa", sum := "1e609c29d680822de305863223fc2d836dbe70dfa558369724665cb8411100c9", func := "crossbar/crossbarlaw14.RecordRuns", spec := "recordRuns", unfollowed := true, recurses := true, apart := false }
def RecordRunsSaid : Prop := recordRunsRow.holds Try.pinned (OpenSpec.ofChange recordRunsSpec)

/-- ITS FALSE NEIGHBOUR: 'it returns false'. Refute it at one input. -/
def recordRunsWrong : ChangeSpec := { name := "recordRuns", fn := fun _ => fun
  | [d1, d2, d3] => { results := [.lit (.bool false)], args := [d1, d2, d3] }
  | _ => none }
def RecordRunsWrongFalsely : Prop := recordRunsRow.holds Try.pinned (OpenSpec.ofChange recordRunsWrong)

/- THE SECOND FORM. 'bulk': how many values and letters a reading holds, each counted each time it is reached (what is shared counts as often as it is met; a slice's spare places count too). A statement '..UptoSaid' is the law's where the arguments, and the package variables that the reading takes, are together of bulk at most 1048576: NARROWER than '..Said'. Prove '..Said' where nothing that the law and all that it calls make is longer than what came in: it says more and counts as full. Else prove '..UptoSaid'. A law counts once. -/
mutual
def uptoBulk {H : Type} : DataW H → Nat
  | .lit (.string bytes) => bytes.length + 1
  | .lit _ => 1
  | .nil => 1
  | .ptr d => uptoBulk d + 1
  | .slice elems spare => uptoBulkAll elems + uptoBulkAll spare + 1
  | .agg parts => uptoBulkAll parts + 1
  | .iface _ d => uptoBulk d + 1
  | .map entries => uptoBulkEntries entries + 1
  | .held _ => 1
def uptoBulkAll {H : Type} : List (DataW H) → Nat
  | [] => 0
  | d :: r => uptoBulk d + uptoBulkAll r
def uptoBulkEntries {H : Type} : List (Lit × DataW H) → Nat
  | [] => 0
  | x :: r => uptoBulkEntry x + uptoBulkEntries r
def uptoBulkEntry {H : Type} : Lit × DataW H → Nat
  | (.string bytes, d) => bytes.length + uptoBulk d + 1
  | (_, d) => uptoBulk d + 1
 end
def uptoSmall : (H : Type) → List (DataW H) → Bool := fun _ ds => decide (uptoBulkAll ds ≤ 1048576)
def OpenSpec.upto (s : _root_.Go.ChangeSpec) : _root_.Go.OpenSpec := { _root_.Go.OpenSpec.ofChange s with cond := some uptoSmall }

/-- 'crossbarlaw17.RingWhole', WHERE WHAT IT READS IS OF BULK AT MOST 1048576: true; the input reads as it did. -/
def ringWholeUptoRow : OpenClaim := { program := "ytgpacebjbdhphaa", sum := "1e609c29d680822de305863223fc2d836dbe70dfa558369724665cb8411100c9", func := "crossbar/crossbarlaw17.RingWhole", spec := "ringWhole", unfollowed := true, recurses := true, apart := false, narrowed := true }
def RingWholeUptoSaid : Prop := ringWholeUptoRow.holds Try.pinned (OpenSpec.upto ringWholeSpec)

/-- 'crossbarlaw17.RingKnown', WHERE WHAT IT READS IS OF BULK AT MOST 1048576: true; the input reads as it did. -/
def ringKnownUptoRow : OpenClaim := { program := "ytgpacebjbdhphaa", sum := "1e609c29d680822de305863223fc2d836dbe70dfa558369724665cb8411100c9", func := "crossbar/crossbarlaw17.RingKnown", spec := "ringKnown", unfollowed := true, recurses := true, apart := false, narrowed := true }
def RingKnownUptoSaid : Prop := ringKnownUptoRow.holds Try.pinned (OpenSpec.upto ringKnownSpec)

/-- 'crossbarlaw14.RecordWhole', WHERE WHAT IT READS IS OF BULK AT MOST 1048576: true; the input reads as it did. -/
def recordWholeUptoRow : OpenClaim := { program := "ytgpacebjbdhphaa", sum := "1e609c29d680822de305863223fc2d836dbe70dfa558369724665cb8411100c9", func := "crossbar/crossbarlaw14.RecordWhole", spec := "recordWhole", unfollowed := true, recurses := true, apart := false, narrowed := true }
def RecordWholeUptoSaid : Prop := recordWholeUptoRow.holds Try.pinned (OpenSpec.upto recordWholeSpec)

/-- 'crossbarlaw14.RecordAtomic', WHERE WHAT IT READS IS OF BULK AT MOST 1048576: true; the input reads as it did. -/
def recordAtomicUptoRow : OpenClaim := { program := "ytgpacebjbdhphaa", sum := "1e609c29d680822de305863223fc2d836dbe70dfa558369724665cb8411100c9", func := "crossbar/crossbarlaw14.RecordAtomic", spec := "recordAtomic", unfollowed := true, recurses := true, apart := false, narrowed := true }
def RecordAtomicUptoSaid : Prop := recordAtomicUptoRow.holds Try.pinned (OpenSpec.upto recordAtomicSpec)

/-- 'crossbarlaw14.RecordRuns', WHERE WHAT IT READS IS OF BULK AT MOST 1048576: true; the input reads as it did. -/
def recordRunsUptoRow : OpenClaim := { program := "ytgpacebjbdhphaa", sum := "1e609c29d680822de305863223fc2d836dbe70dfa558369724665cb8411100c9", func := "crossbar/crossbarlaw14.RecordRuns", spec := "recordRuns", unfollowed := true, recurses := true, apart := false, narrowed := true }
def RecordRunsUptoSaid : Prop := recordRunsUptoRow.holds Try.pinned (OpenSpec.upto recordRunsSpec)

end Rows
end Go.Proofs.Ytgpacebjbdhphaa
