/-
  NARROWER THAN 'FOR EVERY INPUT', by the rows' own cells (each row's printed sentence says how): InsnPuts: laid · InsnGets: laid · InsnBack: laid · InsnAgain: laid · InsnKnown: laid · FlowTells: laid · FlowClosed: laid · FlowPlaces: laid · FlowPads: laid.
  DERIVED. THE GIVEN ROWS OF THIS SEAT. 9 by the template 'for every input the law returns true; each argument reads behind the call as it read before'; 0 by the template 'total and deterministic' (their statements: YtmgkngdbphkmmaaDoorTotals.lean).
  GIVEN WITH THE SEED: the statements are not yours to turn. If you find one false, say at which input.
  Laid BY PROGRAM, IN A SANDBOX (cutbox-rows.mjs): the forced cells as the released guide's own fill.sh prints them over the translation b22081f6a75070b3… (all of the seat's roots in one cut). By AI agents, Wed Nov 11 2026. No macro, syntax, notation, axiom, sorry.
-/
import Derived.Test.YtmgkngdbphkmmaaDoorChecked
import GoSem.Claim
import GoSem.ClaimJoined
import GoSem.ClaimMapViews
import Derived.JoinedTies
import Derived.KernelRfl
namespace Go.Proofs.YtmgkngdbphkmmaaDoor
/- THE CELL 'sum', in the pinned program and in every row, IS THE sha256 OF THE DUMP (.gsa) THAT YtmgkngdbphkmmaaDoorProg.lean LOADS. Nothing in Lean hashes anything: it is a label: what it is worth is what the hold of that sum in a sandbox is worth. -/
noncomputable def Tryd.pinned : Pinned := { name := "ytmgkngdbphkmmaadoor", sum := "b22081f6a75070b3368243ce71908a1e695fb9b1904513c9edeef4d1769b6fe6", checked := Tryd.checked }
namespace Rows
def none {H : Type} : Left H := { results := [], args := [] }

/- WHAT THE LISTED PACKAGE-LEVEL VARIABLES READ AS WHEN THE CALL BEGINS. Each datum BY PROGRAM (the guide's laid-datum.mjs) off the statement by which the dump's own 'gosem.cut.vars' lays the variable. In a bare row this is a premise. The card (YtmgkngdbphkmmaaDoorCards.lean) ties it to the program's text. -/
def laid_crossbar_insn_atomics {H : Type} : DataW H := .agg [.lit (.int .i64 0), .lit (.int .i64 64), .lit (.int .i64 80), .lit (.int .i64 160), .lit (.int .i64 1), .lit (.int .i64 65), .lit (.int .i64 81), .lit (.int .i64 161), .lit (.int .i64 225), .lit (.int .i64 241)]
def laid_crossbar_insn_half {H : Type} : DataW H := .agg [.lit (.int .i64 (-2147483648)), .lit (.int .i64 2147483647)]

/-- 'crossbarlaw02.InsnPuts': WHATEVER THE INPUT: true; the input reads as it did. -/
def insnPutsSpec : ChangeSpec := { name := "insnPuts", fn := fun _ => fun
  | [d] => { results := [.lit (.bool true)], args := [d] }
  | _ => none }
def insnPutsRow : OpenClaim := { program := "ytmgkngdbphkmmaadoor", sum := "b22081f6a75070b3368243ce71908a1e695fb9b1904513c9edeef4d1769b6fe6", func := "crossbar/crossbarlaw02.InsnPuts", spec := "insnPuts", unfollowed := true, recurses := true, named := ["crossbar/insn.half", "crossbar/insn.atomics"], apart := false, laid := [("crossbar/insn.atomics", laid_crossbar_insn_atomics), ("crossbar/insn.half", laid_crossbar_insn_half)] }
def InsnPutsSaid : Prop := insnPutsRow.holds Tryd.pinned (OpenSpec.ofChange insnPutsSpec)

/-- ITS FALSE NEIGHBOUR: 'it returns false'. Refute it at one input. -/
def insnPutsWrong : ChangeSpec := { name := "insnPuts", fn := fun _ => fun
  | [d] => { results := [.lit (.bool false)], args := [d] }
  | _ => none }
def InsnPutsWrongFalsely : Prop := insnPutsRow.holds Tryd.pinned (OpenSpec.ofChange insnPutsWrong)

/-- 'crossbarlaw02.InsnGets': WHATEVER THE INPUT: true; the input reads as it did. -/
def insnGetsSpec : ChangeSpec := { name := "insnGets", fn := fun _ => fun
  | [d] => { results := [.lit (.bool true)], args := [d] }
  | _ => none }
def insnGetsRow : OpenClaim := { program := "ytmgkngdbphkmmaadoor", sum := "b22081f6a75070b3368243ce71908a1e695fb9b1904513c9edeef4d1769b6fe6", func := "crossbar/crossbarlaw02.InsnGets", spec := "insnGets", unfollowed := true, recurses := true, named := ["crossbar/insn.half", "crossbar/insn.atomics"], apart := false, laid := [("crossbar/insn.atomics", laid_crossbar_insn_atomics), ("crossbar/insn.half", laid_crossbar_insn_half)] }
def InsnGetsSaid : Prop := insnGetsRow.holds Tryd.pinned (OpenSpec.ofChange insnGetsSpec)

/-- ITS FALSE NEIGHBOUR: 'it returns false'. Refute it at one input. -/
def insnGetsWrong : ChangeSpec := { name := "insnGets", fn := fun _ => fun
  | [d] => { results := [.lit (.bool false)], args := [d] }
  | _ => none }
def InsnGetsWrongFalsely : Prop := insnGetsRow.holds Tryd.pinned (OpenSpec.ofChange insnGetsWrong)

/-- 'crossbarlaw02.InsnBack': WHATEVER THE INPUT: true; the input reads as it did. -/
def insnBackSpec : ChangeSpec := { name := "insnBack", fn := fun _ => fun
  | [d1, d2] => { results := [.lit (.bool true)], args := [d1, d2] }
  | _ => none }
def insnBackRow : OpenClaim := { program := "ytmgkngdbphkmmaadoor", sum := "b22081f6a75070b3368243ce71908a1e695fb9b1904513c9edeef4d1769b6fe6", func := "crossbar/crossbarlaw02.InsnBack", spec := "insnBack", unfollowed := true, recurses := true, named := ["crossbar/insn.half", "crossbar/insn.atomics"], apart := false, laid := [("crossbar/insn.atomics", laid_crossbar_insn_atomics), ("crossbar/insn.half", laid_crossbar_insn_half)] }
def InsnBackSaid : Prop := insnBackRow.holds Tryd.pinned (OpenSpec.ofChange insnBackSpec)

/-- ITS FALSE NEIGHBOUR: 'it returns false'. Refute it at one input. -/
def insnBackWrong : ChangeSpec := { name := "insnBack", fn := fun _ => fun
  | [d1, d2] => { results := [.lit (.bool false)], args := [d1, d2] }
  | _ => none }
def InsnBackWrongFalsely : Prop := insnBackRow.holds Tryd.pinned (OpenSpec.ofChange insnBackWrong)

/-- 'crossbarlaw02.InsnAgain': WHATEVER THE INPUT: true; the input reads as it did. -/
def insnAgainSpec : ChangeSpec := { name := "insnAgain", fn := fun _ => fun
  | [d1, d2] => { results := [.lit (.bool true)], args := [d1, d2] }
  | _ => none }
def insnAgainRow : OpenClaim := { program := "ytmgkngdbphkmmaadoor", sum := "b22081f6a75070b3368243ce71908a1e695fb9b1904513c9edeef4d1769b6fe6", func := "crossbar/crossbarlaw02.InsnAgain", spec := "insnAgain", unfollowed := true, recurses := true, named := ["crossbar/insn.half", "crossbar/insn.atomics"], apart := false, laid := [("crossbar/insn.atomics", laid_crossbar_insn_atomics), ("crossbar/insn.half", laid_crossbar_insn_half)] }
def InsnAgainSaid : Prop := insnAgainRow.holds Tryd.pinned (OpenSpec.ofChange insnAgainSpec)

/-- ITS FALSE NEIGHBOUR: 'it returns false'. Refute it at one input. -/
def insnAgainWrong : ChangeSpec := { name := "insnAgain", fn := fun _ => fun
  | [d1, d2] => { results := [.lit (.bool false)], args := [d1, d2] }
  | _ => none }
def InsnAgainWrongFalsely : Prop := insnAgainRow.holds Tryd.pinned (OpenSpec.ofChange insnAgainWrong)

/-- 'crossbarlaw02.InsnKnown': WHATEVER THE INPUT: true; the input reads as it did. -/
def insnKnownSpec : ChangeSpec := { name := "insnKnown", fn := fun _ => fun
  | [] => { results := [.lit (.bool true)], args := [] }
  | _ => none }
def insnKnownRow : OpenClaim := { program := "ytmgkngdbphkmmaadoor", sum := "b22081f6a75070b3368243ce71908a1e695fb9b1904513c9edeef4d1769b6fe6", func := "crossbar/crossbarlaw02.InsnKnown", spec := "insnKnown", unfollowed := true, recurses := true, named := ["crossbar/insn.half", "crossbar/insn.atomics"], apart := false, laid := [("crossbar/insn.atomics", laid_crossbar_insn_atomics), ("crossbar/insn.half", laid_crossbar_insn_half)] }
def InsnKnownSaid : Prop := insnKnownRow.holds Tryd.pinned (OpenSpec.ofChange insnKnownSpec)

/-- ITS FALSE NEIGHBOUR: 'it returns false'. Refute it at one input. -/
def insnKnownWrong : ChangeSpec := { name := "insnKnown", fn := fun _ => fun
  | [] => { results := [.lit (.bool false)], args := [] }
  | _ => none }
def InsnKnownWrongFalsely : Prop := insnKnownRow.holds Tryd.pinned (OpenSpec.ofChange insnKnownWrong)

/-- 'crossbarlaw06.FlowTells': WHATEVER THE INPUT: true; the input reads as it did. -/
def flowTellsSpec : ChangeSpec := { name := "flowTells", fn := fun _ => fun
  | [d] => { results := [.lit (.bool true)], args := [d] }
  | _ => none }
def flowTellsRow : OpenClaim := { program := "ytmgkngdbphkmmaadoor", sum := "b22081f6a75070b3368243ce71908a1e695fb9b1904513c9edeef4d1769b6fe6", func := "crossbar/crossbarlaw06.FlowTells", spec := "flowTells", unfollowed := true, recurses := true, named := ["crossbar/insn.half", "crossbar/insn.atomics"], apart := false, laid := [("crossbar/insn.atomics", laid_crossbar_insn_atomics), ("crossbar/insn.half", laid_crossbar_insn_half)] }
def FlowTellsSaid : Prop := flowTellsRow.holds Tryd.pinned (OpenSpec.ofChange flowTellsSpec)

/-- ITS FALSE NEIGHBOUR: 'it returns false'. Refute it at one input. -/
def flowTellsWrong : ChangeSpec := { name := "flowTells", fn := fun _ => fun
  | [d] => { results := [.lit (.bool false)], args := [d] }
  | _ => none }
def FlowTellsWrongFalsely : Prop := flowTellsRow.holds Tryd.pinned (OpenSpec.ofChange flowTellsWrong)

/-- 'crossbarlaw06.FlowClosed': WHATEVER THE INPUT: true; the input reads as it did. -/
def flowClosedSpec : ChangeSpec := { name := "flowClosed", fn := fun _ => fun
  | [d1, d2] => { results := [.lit (.bool true)], args := [d1, d2] }
  | _ => none }
def flowClosedRow : OpenClaim := { program := "ytmgkngdbphkmmaadoor", sum := "b22081f6a75070b3368243ce71908a1e695fb9b1904513c9edeef4d1769b6fe6", func := "crossbar/crossbarlaw06.FlowClosed", spec := "flowClosed", unfollowed := true, recurses := true, named := ["crossbar/insn.half", "crossbar/insn.atomics"], apart := false, laid := [("crossbar/insn.atomics", laid_crossbar_insn_atomics), ("crossbar/insn.half", laid_crossbar_insn_half)] }
def FlowClosedSaid : Prop := flowClosedRow.holds Tryd.pinned (OpenSpec.ofChange flowClosedSpec)

/-- ITS FALSE NEIGHBOUR: 'it returns false'. Refute it at one input. -/
def flowClosedWrong : ChangeSpec := { name := "flowClosed", fn := fun _ => fun
  | [d1, d2] => { results := [.lit (.bool false)], args := [d1, d2] }
  | _ => none }
def FlowClosedWrongFalsely : Prop := flowClosedRow.holds Tryd.pinned (OpenSpec.ofChange flowClosedWrong)

/-- 'crossbarlaw06.FlowPlaces': WHATEVER THE INPUT: true; the input reads as it did. -/
def flowPlacesSpec : ChangeSpec := { name := "flowPlaces", fn := fun _ => fun
  | [d] => { results := [.lit (.bool true)], args := [d] }
  | _ => none }
def flowPlacesRow : OpenClaim := { program := "ytmgkngdbphkmmaadoor", sum := "b22081f6a75070b3368243ce71908a1e695fb9b1904513c9edeef4d1769b6fe6", func := "crossbar/crossbarlaw06.FlowPlaces", spec := "flowPlaces", unfollowed := true, recurses := true, named := ["crossbar/insn.half", "crossbar/insn.atomics"], apart := false, laid := [("crossbar/insn.atomics", laid_crossbar_insn_atomics), ("crossbar/insn.half", laid_crossbar_insn_half)] }
def FlowPlacesSaid : Prop := flowPlacesRow.holds Tryd.pinned (OpenSpec.ofChange flowPlacesSpec)

/-- ITS FALSE NEIGHBOUR: 'it returns false'. Refute it at one input. -/
def flowPlacesWrong : ChangeSpec := { name := "flowPlaces", fn := fun _ => fun
  | [d] => { results := [.lit (.bool false)], args := [d] }
  | _ => none }
def FlowPlacesWrongFalsely : Prop := flowPlacesRow.holds Tryd.pinned (OpenSpec.ofChange flowPlacesWrong)

/-- 'crossbarlaw06.FlowPads': WHATEVER THE INPUT: true; the input reads as it did. -/
def flowPadsSpec : ChangeSpec := { name := "flowPads", fn := fun _ => fun
  | [d1, d2] => { results := [.lit (.bool true)], args := [d1, d2] }
  | _ => none }
def flowPadsRow : OpenClaim := { program := "ytmgkngdbphkmmaadoor", sum := "b22081f6a75070b3368243ce71908a1e695fb9b1904513c9edeef4d1769b6fe6", func := "crossbar/crossbarlaw06.FlowPads", spec := "flowPads", unfollowed := true, recurses := true, named := ["crossbar/insn.half", "crossbar/insn.atomics"], apart := false, laid := [("crossbar/insn.atomics", laid_crossbar_insn_atomics), ("crossbar/insn.half", laid_crossbar_insn_half)] }
def FlowPadsSaid : Prop := flowPadsRow.holds Tryd.pinned (OpenSpec.ofChange flowPadsSpec)

/-- ITS FALSE NEIGHBOUR: 'it returns false'. Refute it at one input. -/
def flowPadsWrong : ChangeSpec := { name := "flowPads", fn := fun _ => fun
  | [d1, d2] => { results := [.lit (.bool false)], args := [d1, d2] }
  | _ => none }
def FlowPadsWrongFalsely : Prop := flowPadsRow.holds Tryd.pinned (OpenSpec.ofChange flowPadsWrong)

/- THE SECOND FORM. 'bulk': how many values and letters a reading holds, each counted each time it is reached (what is shared counts as often as it is met; a slice's spare places count too). A statement '..UptoSaid' is the law's where the arguments, and the package variables that the reading takes, are together of bulk at most 1048576: NARROWER than '..Said'. Prove '..Said' where nothing that the law and all that it calls make is longer than what came in: it says more and counts as full. Else prove '..UptoSaid'. A law counts once. -/
mutual
def uptoBulk {H : Type} : DataW H → Nat
  | .lit (.string bytes) => bytes.length + 1
  | .lit _ => 1
  | .nil => 1
  | .ptr d => uptoBulk d + 1
  | .slice elems spare => uptoBulkAll elems + uptoBulkAll spare + 1
  | .agg parts => uptoBulkAll parts + 1
  | .iface _ d => uptoBulk d + 1
  | .map entries => uptoBulkEntries entries + 1
  | .held _ => 1
def uptoBulkAll {H : Type} : List (DataW H) → Nat
  | [] => 0
  | d :: r => uptoBulk d + uptoBulkAll r
def uptoBulkEntries {H : Type} : List (Lit × DataW H) → Nat
  | [] => 0
  | x :: r => uptoBulkEntry x + uptoBulkEntries r
def uptoBulkEntry {H : Type} : Lit × DataW H → Nat
  | (.string bytes, d) => bytes.length + uptoBulk d + 1
  | (_, d) => uptoBulk d + 1
 end
def uptoSmall : (H : Type) → List (DataW H) → Bool := fun _ ds => decide (uptoBulkAll ds ≤ 1048576)
def OpenSpec.upto (s : _root_.Go.ChangeSpec) : _root_.Go.OpenSpec := { _root_.Go.OpenSpec.ofChange s with cond := some uptoSmall }

/-- 'crossbarlaw02.InsnPuts', WHERE WHAT IT READS IS OF BULK AT MOST 1048576: true; the input reads as it did. -/
def insnPutsUptoRow : OpenClaim := { program := "ytmgkngdbphkmmaadoor", sum := "b22081f6a75070b3368243ce71908a1e695fb9b1904513c9edeef4d1769b6fe6", func := "crossbar/crossbarlaw02.InsnPuts", spec := "insnPuts", unfollowed := true, recurses := true, named := ["crossbar/insn.half", "crossbar/insn.atomics"], apart := false, laid := [("crossbar/insn.atomics", laid_crossbar_insn_atomics), ("crossbar/insn.half", laid_crossbar_insn_half)], narrowed := true }
def InsnPutsUptoSaid : Prop := insnPutsUptoRow.holds Tryd.pinned (OpenSpec.upto insnPutsSpec)

/-- 'crossbarlaw02.InsnGets', WHERE WHAT IT READS IS OF BULK AT MOST 1048576: true; the input reads as it did. -/
def insnGetsUptoRow : OpenClaim := { program := "ytmgkngdbphkmmaadoor", sum := "b22081f6a75070b3368243ce71908a1e695fb9b1904513c9edeef4d1769b6fe6", func := "crossbar/crossbarlaw02.InsnGets", spec := "insnGets", unfollowed := true, recurses := true, named := ["crossbar/insn.half", "crossbar/insn.atomics"], apart := false, laid := [("crossbar/insn.atomics", laid_crossbar_insn_atomics), ("crossbar/insn.half", laid_crossbar_insn_half)], narrowed := true }
def InsnGetsUptoSaid : Prop := insnGetsUptoRow.holds Tryd.pinned (OpenSpec.upto insnGetsSpec)

/-- 'crossbarlaw02.InsnBack', WHERE WHAT IT READS IS OF BULK AT MOST 1048576: true; the input reads as it did. -/
def insnBackUptoRow : OpenClaim := { program := "ytmgkngdbphkmmaadoor", sum := "b22081f6a75070b3368243ce71908a1e695fb9b1904513c9edeef4d1769b6fe6", func := "crossbar/crossbarlaw02.InsnBack", spec := "insnBack", unfollowed := true, recurses := true, named := ["crossbar/insn.half", "crossbar/insn.atomics"], apart := false, laid := [("crossbar/insn.atomics", laid_crossbar_insn_atomics), ("crossbar/insn.half", laid_crossbar_insn_half)], narrowed := true }
def InsnBackUptoSaid : Prop := insnBackUptoRow.holds Tryd.pinned (OpenSpec.upto insnBackSpec)

/-- 'crossbarlaw02.InsnAgain', WHERE WHAT IT READS IS OF BULK AT MOST 1048576: true; the input reads as it did. -/
def insnAgainUptoRow : OpenClaim := { program := "ytmgkngdbphkmmaadoor", sum := "b22081f6a75070b3368243ce71908a1e695fb9b1904513c9edeef4d1769b6fe6", func := "crossbar/crossbarlaw02.InsnAgain", spec := "insnAgain", unfollowed := true, recurses := true, named := ["crossbar/insn.half", "crossbar/insn.atomics"], apart := false, laid := [("crossbar/insn.atomics", laid_crossbar_insn_atomics), ("crossbar/insn.half", laid_crossbar_insn_half)], narrowed := true }
def InsnAgainUptoSaid : Prop := insnAgainUptoRow.holds Tryd.pinned (OpenSpec.upto insnAgainSpec)

/-- 'crossbarlaw02.InsnKnown', WHERE WHAT IT READS IS OF BULK AT MOST 1048576: true; the input reads as it did. -/
def insnKnownUptoRow : OpenClaim := { program := "ytmgkngdbphkmmaadoor", sum := "b22081f6a75070b3368243ce71908a1e695fb9b1904513c9edeef4d1769b6fe6", func := "crossbar/crossbarlaw02.InsnKnown", spec := "insnKnown", unfollowed := true, recurses := true, named := ["crossbar/insn.half", "crossbar/insn.atomics"], apart := false, laid := [("crossbar/insn.atomics", laid_crossbar_insn_atomics), ("crossbar/insn.half", laid_crossbar_insn_half)], narrowed := true }
def InsnKnownUptoSaid : Prop := insnKnownUptoRow.holds Tryd.pinned (OpenSpec.upto insnKnownSpec)

/-- 'crossbarlaw06.FlowTells', WHERE WHAT IT READS IS OF BULK AT MOST 1048576: true; the input reads as it did. -/
def flowTellsUptoRow : OpenClaim := { program := "ytmgkngdbphkmmaadoor", sum := "b22081f6a75070b3368243ce71908a1e695fb9b1904513c9edeef4d1769b6fe6", func := "crossbar/crossbarlaw06.FlowTells", spec := "flowTells", unfollowed := true, recurses := true, named := ["crossbar/insn.half", "crossbar/insn.atomics"], apart := false, laid := [("crossbar/insn.atomics", laid_crossbar_insn_atomics), ("crossbar/insn.half", laid_crossbar_insn_half)], narrowed := true }
def FlowTellsUptoSaid : Prop := flowTellsUptoRow.holds Tryd.pinned (OpenSpec.upto flowTellsSpec)

/-- 'crossbarlaw06.FlowClosed', WHERE WHAT IT READS IS OF BULK AT MOST 1048576: true; the input reads as it did. -/
def flowClosedUptoRow : OpenClaim := { program := "ytmgkngdbphkmmaadoor", sum := "b22081f6a75070b3368243ce71908a1e695fb9b1904513c9edeef4d1769b6fe6", func := "crossbar/crossbarlaw06.FlowClosed", spec := "flowClosed", unfollowed := true, recurses := true, named := ["crossbar/insn.half", "crossbar/insn.atomics"], apart := false, laid := [("crossbar/insn.atomics", laid_crossbar_insn_atomics), ("crossbar/insn.half", laid_crossbar_insn_half)], narrowed := true }
def FlowClosedUptoSaid : Prop := flowClosedUptoRow.holds Tryd.pinned (OpenSpec.upto flowClosedSpec)

/-- 'crossbarlaw06.FlowPlaces', WHERE WHAT IT READS IS OF BULK AT MOST 1048576: true; the input reads as it did. -/
def flowPlacesUptoRow : OpenClaim := { program := "ytmgkngdbphkmmaadoor", sum := "b22081f6a75070b3368243ce71908a1e695fb9b1904513c9edeef4d1769b6fe6", func := "crossbar/crossbarlaw06.FlowPlaces", spec := "flowPlaces", unfollowed := true, recurses := true, named := ["crossbar/insn.half", "crossbar/insn.atomics"], apart := false, laid := [("crossbar/insn.atomics", laid_crossbar_insn_atomics), ("crossbar/insn.half", laid_crossbar_insn_half)], narrowed := true }
def FlowPlacesUptoSaid : Prop := flowPlacesUptoRow.holds Tryd.pinned (OpenSpec.upto flowPlacesSpec)

/-- 'crossbarlaw06.FlowPads', WHERE WHAT IT READS IS OF BULK AT MOST 1048576: true; the input reads as it did. -/
def flowPadsUptoRow : OpenClaim := { program := "ytmgkngdbphkmmaadoor", sum := "b22081f6a75070b3368243ce71908a1e695fb9b1904513c9edeef4d1769b6fe6", func := "crossbar/crossbarlaw06.FlowPads", spec := "flowPads", unfollowed := true, recurses := true, named := ["crossbar/insn.half", "crossbar/insn.atomics"], apart := false, laid := [("crossbar/insn.atomics", laid_crossbar_insn_atomics), ("crossbar/insn.half", laid_crossbar_insn_half)], narrowed := true }
def FlowPadsUptoSaid : Prop := flowPadsUptoRow.holds Tryd.pinned (OpenSpec.upto flowPadsSpec)

end Rows
end Go.Proofs.YtmgkngdbphkmmaaDoor
