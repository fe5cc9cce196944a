/-
  No cell of these rows narrows 'for every input' (looked for: loops, veiled, ifaces, maps, wideKeys, modest, calm, conditions, laid).
  DERIVED. THE GIVEN ROWS OF THIS SEAT. 9 by the template 'for every input the law returns true; each argument reads behind the call as it read before'; 0 by the template 'total and deterministic' (their statements: YtdkbgjhlpoibdaaTotals.lean).
  GIVEN WITH THE SEED: the statements are not yours to turn. If you find one false, say at which input.
  Laid BY PROGRAM, IN A SANDBOX (cutbox-rows.mjs): the forced cells as the released guide's own fill.sh prints them over the translation 84297f6b433d0d7d… (all of the seat's roots in one cut). By AI agents, Wed Nov 11 2026. No macro, syntax, notation, axiom, sorry.
-/
import Derived.Test.YtdkbgjhlpoibdaaChecked
import GoSem.Claim
import GoSem.ClaimJoined
import GoSem.ClaimMapViews
import Derived.JoinedTies
import Derived.KernelRfl
namespace Go.Proofs.Ytdkbgjhlpoibdaa
/- THE CELL 'sum', in the pinned program and in every row, IS THE sha256 OF THE DUMP (.gsa) THAT YtdkbgjhlpoibdaaProg.lean LOADS. Nothing in Lean hashes anything: it is a label: what it is worth is what the hold of that sum in a sandbox is worth. -/
noncomputable def Try.pinned : Pinned := { name := "ytdkbgjhlpoibdaa", sum := "84297f6b433d0d7d2ae39f5abfff2ab32cb76b2ad2d918e9e4587faa6f716335", checked := Try.checked }
namespace Rows
def none {H : Type} : Left H := { results := [], args := [] }

/-- 'crossbarlaw09.GraceFreed': WHATEVER THE INPUT: true; the input reads as it did. -/
def graceFreedSpec : ChangeSpec := { name := "graceFreed", fn := fun _ => fun
  | [d] => { results := [.lit (.bool true)], args := [d] }
  | _ => none }
def graceFreedRow : OpenClaim := { program := "ytdkbgjhlpoibdaa", sum := "84297f6b433d0d7d2ae39f5abfff2ab32cb76b2ad2d918e9e4587faa6f716335", func := "crossbar/crossbarlaw09.GraceFreed", spec := "graceFreed", inPlace := ["maps.clone"], unfollowed := true, recurses := true, apart := false }
def GraceFreedSaid : Prop := graceFreedRow.holds Try.pinned (OpenSpec.ofChange graceFreedSpec)

/-- ITS FALSE NEIGHBOUR: 'it returns false'. Refute it at one input. -/
def graceFreedWrong : ChangeSpec := { name := "graceFreed", fn := fun _ => fun
  | [d] => { results := [.lit (.bool false)], args := [d] }
  | _ => none }
def GraceFreedWrongFalsely : Prop := graceFreedRow.holds Try.pinned (OpenSpec.ofChange graceFreedWrong)

/-- 'crossbarlaw09.GraceKnown': WHATEVER THE INPUT: true; the input reads as it did. -/
def graceKnownSpec : ChangeSpec := { name := "graceKnown", fn := fun _ => fun
  | [] => { results := [.lit (.bool true)], args := [] }
  | _ => none }
def graceKnownRow : OpenClaim := { program := "ytdkbgjhlpoibdaa", sum := "84297f6b433d0d7d2ae39f5abfff2ab32cb76b2ad2d918e9e4587faa6f716335", func := "crossbar/crossbarlaw09.GraceKnown", spec := "graceKnown", inPlace := ["maps.clone"], unfollowed := true, recurses := true, apart := false }
def GraceKnownSaid : Prop := graceKnownRow.holds Try.pinned (OpenSpec.ofChange graceKnownSpec)

/-- ITS FALSE NEIGHBOUR: 'it returns false'. Refute it at one input. -/
def graceKnownWrong : ChangeSpec := { name := "graceKnown", fn := fun _ => fun
  | [] => { results := [.lit (.bool false)], args := [] }
  | _ => none }
def GraceKnownWrongFalsely : Prop := graceKnownRow.holds Try.pinned (OpenSpec.ofChange graceKnownWrong)

/-- 'crossbarlaw09.GracePlays': WHATEVER THE INPUT: true; the input reads as it did. -/
def gracePlaysSpec : ChangeSpec := { name := "gracePlays", fn := fun _ => fun
  | [d1, d2] => { results := [.lit (.bool true)], args := [d1, d2] }
  | _ => none }
def gracePlaysRow : OpenClaim := { program := "ytdkbgjhlpoibdaa", sum := "84297f6b433d0d7d2ae39f5abfff2ab32cb76b2ad2d918e9e4587faa6f716335", func := "crossbar/crossbarlaw09.GracePlays", spec := "gracePlays", inPlace := ["maps.clone"], unfollowed := true, recurses := true, apart := false }
def GracePlaysSaid : Prop := gracePlaysRow.holds Try.pinned (OpenSpec.ofChange gracePlaysSpec)

/-- ITS FALSE NEIGHBOUR: 'it returns false'. Refute it at one input. -/
def gracePlaysWrong : ChangeSpec := { name := "gracePlays", fn := fun _ => fun
  | [d1, d2] => { results := [.lit (.bool false)], args := [d1, d2] }
  | _ => none }
def GracePlaysWrongFalsely : Prop := gracePlaysRow.holds Try.pinned (OpenSpec.ofChange gracePlaysWrong)

/-- 'crossbarlaw09.GraceSafe': WHATEVER THE INPUT: true; the input reads as it did. -/
def graceSafeSpec : ChangeSpec := { name := "graceSafe", fn := fun _ => fun
  | [d1, d2] => { results := [.lit (.bool true)], args := [d1, d2] }
  | _ => none }
def graceSafeRow : OpenClaim := { program := "ytdkbgjhlpoibdaa", sum := "84297f6b433d0d7d2ae39f5abfff2ab32cb76b2ad2d918e9e4587faa6f716335", func := "crossbar/crossbarlaw09.GraceSafe", spec := "graceSafe", inPlace := ["maps.clone"], unfollowed := true, recurses := true, apart := false }
def GraceSafeSaid : Prop := graceSafeRow.holds Try.pinned (OpenSpec.ofChange graceSafeSpec)

/-- ITS FALSE NEIGHBOUR: 'it returns false'. Refute it at one input. -/
def graceSafeWrong : ChangeSpec := { name := "graceSafe", fn := fun _ => fun
  | [d1, d2] => { results := [.lit (.bool false)], args := [d1, d2] }
  | _ => none }
def GraceSafeWrongFalsely : Prop := graceSafeRow.holds Try.pinned (OpenSpec.ofChange graceSafeWrong)

/-- 'crossbarlaw08.SmemLaws': WHATEVER THE INPUT: true; the input reads as it did. -/
def smemLawsSpec : ChangeSpec := { name := "smemLaws", fn := fun _ => fun
  | [d1, d2, d3] => { results := [.lit (.bool true)], args := [d1, d2, d3] }
  | _ => none }
def smemLawsRow : OpenClaim := { program := "ytdkbgjhlpoibdaa", sum := "84297f6b433d0d7d2ae39f5abfff2ab32cb76b2ad2d918e9e4587faa6f716335", func := "crossbar/crossbarlaw08.SmemLaws", spec := "smemLaws", unfollowed := true, recurses := true, apart := false }
def SmemLawsSaid : Prop := smemLawsRow.holds Try.pinned (OpenSpec.ofChange smemLawsSpec)

/-- ITS FALSE NEIGHBOUR: 'it returns false'. Refute it at one input. -/
def smemLawsWrong : ChangeSpec := { name := "smemLaws", fn := fun _ => fun
  | [d1, d2, d3] => { results := [.lit (.bool false)], args := [d1, d2, d3] }
  | _ => none }
def SmemLawsWrongFalsely : Prop := smemLawsRow.holds Try.pinned (OpenSpec.ofChange smemLawsWrong)

/-- 'crossbarlaw08.SmemApart': WHATEVER THE INPUT: true; the input reads as it did. -/
def smemApartSpec : ChangeSpec := { name := "smemApart", fn := fun _ => fun
  | [d1, d2] => { results := [.lit (.bool true)], args := [d1, d2] }
  | _ => none }
def smemApartRow : OpenClaim := { program := "ytdkbgjhlpoibdaa", sum := "84297f6b433d0d7d2ae39f5abfff2ab32cb76b2ad2d918e9e4587faa6f716335", func := "crossbar/crossbarlaw08.SmemApart", spec := "smemApart", unfollowed := true, recurses := true, apart := false }
def SmemApartSaid : Prop := smemApartRow.holds Try.pinned (OpenSpec.ofChange smemApartSpec)

/-- ITS FALSE NEIGHBOUR: 'it returns false'. Refute it at one input. -/
def smemApartWrong : ChangeSpec := { name := "smemApart", fn := fun _ => fun
  | [d1, d2] => { results := [.lit (.bool false)], args := [d1, d2] }
  | _ => none }
def SmemApartWrongFalsely : Prop := smemApartRow.holds Try.pinned (OpenSpec.ofChange smemApartWrong)

/-- 'crossbarlaw08.SmemKnown': WHATEVER THE INPUT: true; the input reads as it did. -/
def smemKnownSpec : ChangeSpec := { name := "smemKnown", fn := fun _ => fun
  | [] => { results := [.lit (.bool true)], args := [] }
  | _ => none }
def smemKnownRow : OpenClaim := { program := "ytdkbgjhlpoibdaa", sum := "84297f6b433d0d7d2ae39f5abfff2ab32cb76b2ad2d918e9e4587faa6f716335", func := "crossbar/crossbarlaw08.SmemKnown", spec := "smemKnown", unfollowed := true, recurses := true, apart := false }
def SmemKnownSaid : Prop := smemKnownRow.holds Try.pinned (OpenSpec.ofChange smemKnownSpec)

/-- ITS FALSE NEIGHBOUR: 'it returns false'. Refute it at one input. -/
def smemKnownWrong : ChangeSpec := { name := "smemKnown", fn := fun _ => fun
  | [] => { results := [.lit (.bool false)], args := [] }
  | _ => none }
def SmemKnownWrongFalsely : Prop := smemKnownRow.holds Try.pinned (OpenSpec.ofChange smemKnownWrong)

/-- 'crossbarlaw08.SmemPlays': WHATEVER THE INPUT: true; the input reads as it did. -/
def smemPlaysSpec : ChangeSpec := { name := "smemPlays", fn := fun _ => fun
  | [d1, d2] => { results := [.lit (.bool true)], args := [d1, d2] }
  | _ => none }
def smemPlaysRow : OpenClaim := { program := "ytdkbgjhlpoibdaa", sum := "84297f6b433d0d7d2ae39f5abfff2ab32cb76b2ad2d918e9e4587faa6f716335", func := "crossbar/crossbarlaw08.SmemPlays", spec := "smemPlays", unfollowed := true, recurses := true, apart := false }
def SmemPlaysSaid : Prop := smemPlaysRow.holds Try.pinned (OpenSpec.ofChange smemPlaysSpec)

/-- ITS FALSE NEIGHBOUR: 'it returns false'. Refute it at one input. -/
def smemPlaysWrong : ChangeSpec := { name := "smemPlays", fn := fun _ => fun
  | [d1, d2] => { results := [.lit (.bool false)], args := [d1, d2] }
  | _ => none }
def SmemPlaysWrongFalsely : Prop := smemPlaysRow.holds Try.pinned (OpenSpec.ofChange smemPlaysWrong)

/-- 'crossbarlaw08.SmemWhole': WHATEVER THE INPUT: true; the input reads as it did. -/
def smemWholeSpec : ChangeSpec := { name := "smemWhole", fn := fun _ => fun
  | [d1, d2] => { results := [.lit (.bool true)], args := [d1, d2] }
  | _ => none }
def smemWholeRow : OpenClaim := { program := "ytdkbgjhlpoibdaa", sum := "84297f6b433d0d7d2ae39f5abfff2ab32cb76b2ad2d918e9e4587faa6f716335", func := "crossbar/crossbarlaw08.SmemWhole", spec := "smemWhole", unfollowed := true, recurses := true, apart := false }
def SmemWholeSaid : Prop := smemWholeRow.holds Try.pinned (OpenSpec.ofChange smemWholeSpec)

/-- ITS FALSE NEIGHBOUR: 'it returns false'. Refute it at one input. -/
def smemWholeWrong : ChangeSpec := { name := "smemWhole", fn := fun _ => fun
  | [d1, d2] => { results := [.lit (.bool false)], args := [d1, d2] }
  | _ => none }
def SmemWholeWrongFalsely : Prop := smemWholeRow.holds Try.pinned (OpenSpec.ofChange smemWholeWrong)

/- THE SECOND FORM. 'bulk': how many values and letters a reading holds, each counted each time it is reached (what is shared counts as often as it is met; a slice's spare places count too). A statement '..UptoSaid' is the law's where the arguments, and the package variables that the reading takes, are together of bulk at most 1048576: NARROWER than '..Said'. Prove '..Said' where nothing that the law and all that it calls make is longer than what came in: it says more and counts as full. Else prove '..UptoSaid'. A law counts once. -/
mutual
def uptoBulk {H : Type} : DataW H → Nat
  | .lit (.string bytes) => bytes.length + 1
  | .lit _ => 1
  | .nil => 1
  | .ptr d => uptoBulk d + 1
  | .slice elems spare => uptoBulkAll elems + uptoBulkAll spare + 1
  | .agg parts => uptoBulkAll parts + 1
  | .iface _ d => uptoBulk d + 1
  | .map entries => uptoBulkEntries entries + 1
  | .held _ => 1
def uptoBulkAll {H : Type} : List (DataW H) → Nat
  | [] => 0
  | d :: r => uptoBulk d + uptoBulkAll r
def uptoBulkEntries {H : Type} : List (Lit × DataW H) → Nat
  | [] => 0
  | x :: r => uptoBulkEntry x + uptoBulkEntries r
def uptoBulkEntry {H : Type} : Lit × DataW H → Nat
  | (.string bytes, d) => bytes.length + uptoBulk d + 1
  | (_, d) => uptoBulk d + 1
 end
def uptoSmall : (H : Type) → List (DataW H) → Bool := fun _ ds => decide (uptoBulkAll ds ≤ 1048576)
def OpenSpec.upto (s : _root_.Go.ChangeSpec) : _root_.Go.OpenSpec := { _root_.Go.OpenSpec.ofChange s with cond := some uptoSmall }

/-- 'crossbarlaw09.GraceFreed', WHERE WHAT IT READS IS OF BULK AT MOST 1048576: true; the input reads as it did. -/
def graceFreedUptoRow : OpenClaim := { program := "ytdkbgjhlpoibdaa", sum := "84297f6b433d0d7d2ae39f5abfff2ab32cb76b2ad2d918e9e4587faa6f716335", func := "crossbar/crossbarlaw09.GraceFreed", spec := "graceFreed", inPlace := ["maps.clone"], unfollowed := true, recurses := true, apart := false, narrowed := true }
def GraceFreedUptoSaid : Prop := graceFreedUptoRow.holds Try.pinned (OpenSpec.upto graceFreedSpec)

/-- 'crossbarlaw09.GraceKnown', WHERE WHAT IT READS IS OF BULK AT MOST 1048576: true; the input reads as it did. -/
def graceKnownUptoRow : OpenClaim := { program := "ytdkbgjhlpoibdaa", sum := "84297f6b433d0d7d2ae39f5abfff2ab32cb76b2ad2d918e9e4587faa6f716335", func := "crossbar/crossbarlaw09.GraceKnown", spec := "graceKnown", inPlace := ["maps.clone"], unfollowed := true, recurses := true, apart := false, narrowed := true }
def GraceKnownUptoSaid : Prop := graceKnownUptoRow.holds Try.pinned (OpenSpec.upto graceKnownSpec)

/-- 'crossbarlaw09.GracePlays', WHERE WHAT IT READS IS OF BULK AT MOST 1048576: true; the input reads as it did. -/
def gracePlaysUptoRow : OpenClaim := { program := "ytdkbgjhlpoibdaa", sum := "84297f6b433d0d7d2ae39f5abfff2ab32cb76b2ad2d918e9e4587faa6f716335", func := "crossbar/crossbarlaw09.GracePlays", spec := "gracePlays", inPlace := ["maps.clone"], unfollowed := true, recurses := true, apart := false, narrowed := true }
def GracePlaysUptoSaid : Prop := gracePlaysUptoRow.holds Try.pinned (OpenSpec.upto gracePlaysSpec)

/-- 'crossbarlaw09.GraceSafe', WHERE WHAT IT READS IS OF BULK AT MOST 1048576: true; the input reads as it did. -/
def graceSafeUptoRow : OpenClaim := { program := "ytdkbgjhlpoibdaa", sum := "84297f6b433d0d7d2ae39f5abfff2ab32cb76b2ad2d918e9e4587faa6f716335", func := "crossbar/crossbarlaw09.GraceSafe", spec := "graceSafe", inPlace := ["maps.clone"], unfollowed := true, recurses := true, apart := false, narrowed := true }
def GraceSafeUptoSaid : Prop := graceSafeUptoRow.holds Try.pinned (OpenSpec.upto graceSafeSpec)

/-- 'crossbarlaw08.SmemLaws', WHERE WHAT IT READS IS OF BULK AT MOST 1048576: true; the input reads as it did. -/
def smemLawsUptoRow : OpenClaim := { program := "ytdkbgjhlpoibdaa", sum := "84297f6b433d0d7d2ae39f5abfff2ab32cb76b2ad2d918e9e4587faa6f716335", func := "crossbar/crossbarlaw08.SmemLaws", spec := "smemLaws", unfollowed := true, recurses := true, apart := false, narrowed := true }
def SmemLawsUptoSaid : Prop := smemLawsUptoRow.holds Try.pinned (OpenSpec.upto smemLawsSpec)

/-- 'crossbarlaw08.SmemApart', WHERE WHAT IT READS IS OF BULK AT MOST 1048576: true; the input reads as it did. -/
def smemApartUptoRow : OpenClaim := { program := "ytdkbgjhlpoibdaa", sum := "84297f6b433d0d7d2ae39f5abfff2ab32cb76b2ad2d918e9e4587faa6f716335", func := "crossbar/crossbarlaw08.SmemApart", spec := "smemApart", unfollowed := true, recurses := true, apart := false, narrowed := true }
def SmemApartUptoSaid : Prop := smemApartUptoRow.holds Try.pinned (OpenSpec.upto smemApartSpec)

/-- 'crossbarlaw08.SmemKnown', WHERE WHAT IT READS IS OF BULK AT MOST 1048576: true; the input reads as it did. -/
def smemKnownUptoRow : OpenClaim := { program := "ytdkbgjhlpoibdaa", sum := "84297f6b433d0d7d2ae39f5abfff2ab32cb76b2ad2d918e9e4587faa6f716335", func := "crossbar/crossbarlaw08.SmemKnown", spec := "smemKnown", unfollowed := true, recurses := true, apart := false, narrowed := true }
def SmemKnownUptoSaid : Prop := smemKnownUptoRow.holds Try.pinned (OpenSpec.upto smemKnownSpec)

/-- 'crossbarlaw08.SmemPlays', WHERE WHAT IT READS IS OF BULK AT MOST 1048576: true; the input reads as it did. -/
def smemPlaysUptoRow : OpenClaim := { program := "ytdkbgjhlpoibdaa", sum := "84297f6b433d0d7d2ae39f5abfff2ab32cb76b2ad2d918e9e4587faa6f716335", func := "crossbar/crossbarlaw08.SmemPlays", spec := "smemPlays", unfollowed := true, recurses := true, apart := false, narrowed := true }
def SmemPlaysUptoSaid : Prop := smemPlaysUptoRow.holds Try.pinned (OpenSpec.upto smemPlaysSpec)

/-- 'crossbarlaw08.SmemWhole', WHERE WHAT IT READS IS OF BULK AT MOST 1048576: true; the input reads as it did. -/
def smemWholeUptoRow : OpenClaim := { program := "ytdkbgjhlpoibdaa", sum := "84297f6b433d0d7d2ae39f5abfff2ab32cb76b2ad2d918e9e4587faa6f716335", func := "crossbar/crossbarlaw08.SmemWhole", spec := "smemWhole", unfollowed := true, recurses := true, apart := false, narrowed := true }
def SmemWholeUptoSaid : Prop := smemWholeUptoRow.holds Try.pinned (OpenSpec.upto smemWholeSpec)

end Rows
end Go.Proofs.Ytdkbgjhlpoibdaa
