/-
  No cell of these rows narrows 'for every input' (looked for: loops, veiled, ifaces, maps, wideKeys, modest, calm, conditions, laid).
  DERIVED. THE GIVEN ROWS OF THIS SEAT. 9 by the template 'for every input the law returns true; each argument reads behind the call as it read before'; 0 by the template 'total and deterministic' (their statements: YtlkmdcncpdadbaaTotals.lean).
  GIVEN WITH THE SEED: the statements are not yours to turn. If you find one false, say at which input.
  Laid BY PROGRAM, IN A SANDBOX (cutbox-rows.mjs): the forced cells as the released guide's own fill.sh prints them over the translation d1cd83fbea7c58c8… (all of the seat's roots in one cut). By AI agents, Wed Nov 11 2026. No macro, syntax, notation, axiom, sorry.
-/
import Derived.Test.YtlkmdcncpdadbaaChecked
import GoSem.Claim
import GoSem.ClaimJoined
import GoSem.ClaimMapViews
import Derived.JoinedTies
import Derived.KernelRfl
namespace Go.Proofs.Ytlkmdcncpdadbaa
/- THE CELL 'sum', in the pinned program and in every row, IS THE sha256 OF THE DUMP (.gsa) THAT YtlkmdcncpdadbaaProg.lean LOADS. Nothing in Lean hashes anything: it is a label: what it is worth is what the hold of that sum in a sandbox is worth. -/
noncomputable def Try.pinned : Pinned := { name := "ytlkmdcncpdadbaa", sum := "d1cd83fbea7c58c8617b72d38c9740ee3cfeb9ef7a2854598386c84fe85d10b0", checked := Try.checked }
namespace Rows
def none {H : Type} : Left H := { results := [], args := [] }

/-- 'crossbarlaw07.DeclChecks': WHATEVER THE INPUT: true; the input reads as it did. -/
def declChecksSpec : ChangeSpec := { name := "declChecks", fn := fun _ => fun
  | [d] => { results := [.lit (.bool true)], args := [d] }
  | _ => none }
def declChecksRow : OpenClaim := { program := "ytlkmdcncpdadbaa", sum := "d1cd83fbea7c58c8617b72d38c9740ee3cfeb9ef7a2854598386c84fe85d10b0", func := "crossbar/crossbarlaw07.DeclChecks", spec := "declChecks", apart := false }
def DeclChecksSaid : Prop := declChecksRow.holds Try.pinned (OpenSpec.ofChange declChecksSpec)

/-- ITS FALSE NEIGHBOUR: 'it returns false'. Refute it at one input. -/
def declChecksWrong : ChangeSpec := { name := "declChecks", fn := fun _ => fun
  | [d] => { results := [.lit (.bool false)], args := [d] }
  | _ => none }
def DeclChecksWrongFalsely : Prop := declChecksRow.holds Try.pinned (OpenSpec.ofChange declChecksWrong)

/-- 'crossbarlaw07.DeclBits': WHATEVER THE INPUT: true; the input reads as it did. -/
def declBitsSpec : ChangeSpec := { name := "declBits", fn := fun _ => fun
  | [d1, d2] => { results := [.lit (.bool true)], args := [d1, d2] }
  | _ => none }
def declBitsRow : OpenClaim := { program := "ytlkmdcncpdadbaa", sum := "d1cd83fbea7c58c8617b72d38c9740ee3cfeb9ef7a2854598386c84fe85d10b0", func := "crossbar/crossbarlaw07.DeclBits", spec := "declBits", apart := false }
def DeclBitsSaid : Prop := declBitsRow.holds Try.pinned (OpenSpec.ofChange declBitsSpec)

/-- ITS FALSE NEIGHBOUR: 'it returns false'. Refute it at one input. -/
def declBitsWrong : ChangeSpec := { name := "declBits", fn := fun _ => fun
  | [d1, d2] => { results := [.lit (.bool false)], args := [d1, d2] }
  | _ => none }
def DeclBitsWrongFalsely : Prop := declBitsRow.holds Try.pinned (OpenSpec.ofChange declBitsWrong)

/-- 'crossbarlaw07.DeclOrder': WHATEVER THE INPUT: true; the input reads as it did. -/
def declOrderSpec : ChangeSpec := { name := "declOrder", fn := fun _ => fun
  | [d1, d2, d3, d4] => { results := [.lit (.bool true)], args := [d1, d2, d3, d4] }
  | _ => none }
def declOrderRow : OpenClaim := { program := "ytlkmdcncpdadbaa", sum := "d1cd83fbea7c58c8617b72d38c9740ee3cfeb9ef7a2854598386c84fe85d10b0", func := "crossbar/crossbarlaw07.DeclOrder", spec := "declOrder", apart := false }
def DeclOrderSaid : Prop := declOrderRow.holds Try.pinned (OpenSpec.ofChange declOrderSpec)

/-- ITS FALSE NEIGHBOUR: 'it returns false'. Refute it at one input. -/
def declOrderWrong : ChangeSpec := { name := "declOrder", fn := fun _ => fun
  | [d1, d2, d3, d4] => { results := [.lit (.bool false)], args := [d1, d2, d3, d4] }
  | _ => none }
def DeclOrderWrongFalsely : Prop := declOrderRow.holds Try.pinned (OpenSpec.ofChange declOrderWrong)

/-- 'crossbarlaw07.DeclTells': WHATEVER THE INPUT: true; the input reads as it did. -/
def declTellsSpec : ChangeSpec := { name := "declTells", fn := fun _ => fun
  | [d1, d2, d3, d4, d5] => { results := [.lit (.bool true)], args := [d1, d2, d3, d4, d5] }
  | _ => none }
def declTellsRow : OpenClaim := { program := "ytlkmdcncpdadbaa", sum := "d1cd83fbea7c58c8617b72d38c9740ee3cfeb9ef7a2854598386c84fe85d10b0", func := "crossbar/crossbarlaw07.DeclTells", spec := "declTells", apart := false }
def DeclTellsSaid : Prop := declTellsRow.holds Try.pinned (OpenSpec.ofChange declTellsSpec)

/-- ITS FALSE NEIGHBOUR: 'it returns false'. Refute it at one input. -/
def declTellsWrong : ChangeSpec := { name := "declTells", fn := fun _ => fun
  | [d1, d2, d3, d4, d5] => { results := [.lit (.bool false)], args := [d1, d2, d3, d4, d5] }
  | _ => none }
def DeclTellsWrongFalsely : Prop := declTellsRow.holds Try.pinned (OpenSpec.ofChange declTellsWrong)

/-- 'crossbarlaw07.DeclKnown': WHATEVER THE INPUT: true; the input reads as it did. -/
def declKnownSpec : ChangeSpec := { name := "declKnown", fn := fun _ => fun
  | [] => { results := [.lit (.bool true)], args := [] }
  | _ => none }
def declKnownRow : OpenClaim := { program := "ytlkmdcncpdadbaa", sum := "d1cd83fbea7c58c8617b72d38c9740ee3cfeb9ef7a2854598386c84fe85d10b0", func := "crossbar/crossbarlaw07.DeclKnown", spec := "declKnown", apart := false }
def DeclKnownSaid : Prop := declKnownRow.holds Try.pinned (OpenSpec.ofChange declKnownSpec)

/-- ITS FALSE NEIGHBOUR: 'it returns false'. Refute it at one input. -/
def declKnownWrong : ChangeSpec := { name := "declKnown", fn := fun _ => fun
  | [] => { results := [.lit (.bool false)], args := [] }
  | _ => none }
def DeclKnownWrongFalsely : Prop := declKnownRow.holds Try.pinned (OpenSpec.ofChange declKnownWrong)

/-- 'crossbarlaw18.BloomFinds': WHATEVER THE INPUT: true; the input reads as it did. -/
def bloomFindsSpec : ChangeSpec := { name := "bloomFinds", fn := fun _ => fun
  | [d1, d2, d3] => { results := [.lit (.bool true)], args := [d1, d2, d3] }
  | _ => none }
def bloomFindsRow : OpenClaim := { program := "ytlkmdcncpdadbaa", sum := "d1cd83fbea7c58c8617b72d38c9740ee3cfeb9ef7a2854598386c84fe85d10b0", func := "crossbar/crossbarlaw18.BloomFinds", spec := "bloomFinds", unfollowed := true, recurses := true, apart := false }
def BloomFindsSaid : Prop := bloomFindsRow.holds Try.pinned (OpenSpec.ofChange bloomFindsSpec)

/-- ITS FALSE NEIGHBOUR: 'it returns false'. Refute it at one input. -/
def bloomFindsWrong : ChangeSpec := { name := "bloomFinds", fn := fun _ => fun
  | [d1, d2, d3] => { results := [.lit (.bool false)], args := [d1, d2, d3] }
  | _ => none }
def BloomFindsWrongFalsely : Prop := bloomFindsRow.holds Try.pinned (OpenSpec.ofChange bloomFindsWrong)

/-- 'crossbarlaw18.BloomKnown': WHATEVER THE INPUT: true; the input reads as it did. -/
def bloomKnownSpec : ChangeSpec := { name := "bloomKnown", fn := fun _ => fun
  | [] => { results := [.lit (.bool true)], args := [] }
  | _ => none }
def bloomKnownRow : OpenClaim := { program := "ytlkmdcncpdadbaa", sum := "d1cd83fbea7c58c8617b72d38c9740ee3cfeb9ef7a2854598386c84fe85d10b0", func := "crossbar/crossbarlaw18.BloomKnown", spec := "bloomKnown", unfollowed := true, recurses := true, apart := false }
def BloomKnownSaid : Prop := bloomKnownRow.holds Try.pinned (OpenSpec.ofChange bloomKnownSpec)

/-- ITS FALSE NEIGHBOUR: 'it returns false'. Refute it at one input. -/
def bloomKnownWrong : ChangeSpec := { name := "bloomKnown", fn := fun _ => fun
  | [] => { results := [.lit (.bool false)], args := [] }
  | _ => none }
def BloomKnownWrongFalsely : Prop := bloomKnownRow.holds Try.pinned (OpenSpec.ofChange bloomKnownWrong)

/-- 'crossbarlaw18.BloomOrder': WHATEVER THE INPUT: true; the input reads as it did. -/
def bloomOrderSpec : ChangeSpec := { name := "bloomOrder", fn := fun _ => fun
  | [d1, d2, d3] => { results := [.lit (.bool true)], args := [d1, d2, d3] }
  | _ => none }
def bloomOrderRow : OpenClaim := { program := "ytlkmdcncpdadbaa", sum := "d1cd83fbea7c58c8617b72d38c9740ee3cfeb9ef7a2854598386c84fe85d10b0", func := "crossbar/crossbarlaw18.BloomOrder", spec := "bloomOrder", unfollowed := true, recurses := true, apart := false }
def BloomOrderSaid : Prop := bloomOrderRow.holds Try.pinned (OpenSpec.ofChange bloomOrderSpec)

/-- ITS FALSE NEIGHBOUR: 'it returns false'. Refute it at one input. -/
def bloomOrderWrong : ChangeSpec := { name := "bloomOrder", fn := fun _ => fun
  | [d1, d2, d3] => { results := [.lit (.bool false)], args := [d1, d2, d3] }
  | _ => none }
def BloomOrderWrongFalsely : Prop := bloomOrderRow.holds Try.pinned (OpenSpec.ofChange bloomOrderWrong)

/-- 'crossbarlaw18.BloomRuns': WHATEVER THE INPUT: true; the input reads as it did. -/
def bloomRunsSpec : ChangeSpec := { name := "bloomRuns", fn := fun _ => fun
  | [d1, d2, d3] => { results := [.lit (.bool true)], args := [d1, d2, d3] }
  | _ => none }
def bloomRunsRow : OpenClaim := { program := "ytlkmdcncpdadbaa", sum := "d1cd83fbea7c58c8617b72d38c9740ee3cfeb9ef7a2854598386c84fe85d10b0", func := "crossbar/crossbarlaw18.BloomRuns", spec := "bloomRuns", unfollowed := true, recurses := true, apart := false }
def BloomRunsSaid : Prop := bloomRunsRow.holds Try.pinned (OpenSpec.ofChange bloomRunsSpec)

/-- ITS FALSE NEIGHBOUR: 'it returns false'. Refute it at one input. -/
def bloomRunsWrong : ChangeSpec := { name := "bloomRuns", fn := fun _ => fun
  | [d1, d2, d3] => { results := [.lit (.bool false)], args := [d1, d2, d3] }
  | _ => none }
def BloomRunsWrongFalsely : Prop := bloomRunsRow.holds Try.pinned (OpenSpec.ofChange bloomRunsWrong)

/- THE SECOND FORM. 'bulk': how many values and letters a reading holds, each counted each time it is reached (what is shared counts as often as it is met; a slice's spare places count too). A statement '..UptoSaid' is the law's where the arguments, and the package variables that the reading takes, are together of bulk at most 1048576: NARROWER than '..Said'. Prove '..Said' where nothing that the law and all that it calls make is longer than what came in: it says more and counts as full. Else prove '..UptoSaid'. A law counts once. -/
mutual
def uptoBulk {H : Type} : DataW H → Nat
  | .lit (.string bytes) => bytes.length + 1
  | .lit _ => 1
  | .nil => 1
  | .ptr d => uptoBulk d + 1
  | .slice elems spare => uptoBulkAll elems + uptoBulkAll spare + 1
  | .agg parts => uptoBulkAll parts + 1
  | .iface _ d => uptoBulk d + 1
  | .map entries => uptoBulkEntries entries + 1
  | .held _ => 1
def uptoBulkAll {H : Type} : List (DataW H) → Nat
  | [] => 0
  | d :: r => uptoBulk d + uptoBulkAll r
def uptoBulkEntries {H : Type} : List (Lit × DataW H) → Nat
  | [] => 0
  | x :: r => uptoBulkEntry x + uptoBulkEntries r
def uptoBulkEntry {H : Type} : Lit × DataW H → Nat
  | (.string bytes, d) => bytes.length + uptoBulk d + 1
  | (_, d) => uptoBulk d + 1
 end
def uptoSmall : (H : Type) → List (DataW H) → Bool := fun _ ds => decide (uptoBulkAll ds ≤ 1048576)
def OpenSpec.upto (s : _root_.Go.ChangeSpec) : _root_.Go.OpenSpec := { _root_.Go.OpenSpec.ofChange s with cond := some uptoSmall }

/-- 'crossbarlaw07.DeclChecks', WHERE WHAT IT READS IS OF BULK AT MOST 1048576: true; the input reads as it did. -/
def declChecksUptoRow : OpenClaim := { program := "ytlkmdcncpdadbaa", sum := "d1cd83fbea7c58c8617b72d38c9740ee3cfeb9ef7a2854598386c84fe85d10b0", func := "crossbar/crossbarlaw07.DeclChecks", spec := "declChecks", apart := false, narrowed := true }
def DeclChecksUptoSaid : Prop := declChecksUptoRow.holds Try.pinned (OpenSpec.upto declChecksSpec)

/-- 'crossbarlaw07.DeclBits', WHERE WHAT IT READS IS OF BULK AT MOST 1048576: true; the input reads as it did. -/
def declBitsUptoRow : OpenClaim := { program := "ytlkmdcncpdadbaa", sum := "d1cd83fbea7c58c8617b72d38c9740ee3cfeb9ef7a2854598386c84fe85d10b0", func := "crossbar/crossbarlaw07.DeclBits", spec := "declBits", apart := false, narrowed := true }
def DeclBitsUptoSaid : Prop := declBitsUptoRow.holds Try.pinned (OpenSpec.upto declBitsSpec)

/-- 'crossbarlaw07.DeclOrder', WHERE WHAT IT READS IS OF BULK AT MOST 1048576: true; the input reads as it did. -/
def declOrderUptoRow : OpenClaim := { program := "ytlkmdcncpdadbaa", sum := "d1cd83fbea7c58c8617b72d38c9740ee3cfeb9ef7a2854598386c84fe85d10b0", func := "crossbar/crossbarlaw07.DeclOrder", spec := "declOrder", apart := false, narrowed := true }
def DeclOrderUptoSaid : Prop := declOrderUptoRow.holds Try.pinned (OpenSpec.upto declOrderSpec)

/-- 'crossbarlaw07.DeclTells', WHERE WHAT IT READS IS OF BULK AT MOST 1048576: true; the input reads as it did. -/
def declTellsUptoRow : OpenClaim := { program := "ytlkmdcncpdadbaa", sum := "d1cd83fbea7c58c8617b72d38c9740ee3cfeb9ef7a2854598386c84fe85d10b0", func := "crossbar/crossbarlaw07.DeclTells", spec := "declTells", apart := false, narrowed := true }
def DeclTellsUptoSaid : Prop := declTellsUptoRow.holds Try.pinned (OpenSpec.upto declTellsSpec)

/-- 'crossbarlaw07.DeclKnown', WHERE WHAT IT READS IS OF BULK AT MOST 1048576: true; the input reads as it did. -/
def declKnownUptoRow : OpenClaim := { program := "ytlkmdcncpdadbaa", sum := "d1cd83fbea7c58c8617b72d38c9740ee3cfeb9ef7a2854598386c84fe85d10b0", func := "crossbar/crossbarlaw07.DeclKnown", spec := "declKnown", apart := false, narrowed := true }
def DeclKnownUptoSaid : Prop := declKnownUptoRow.holds Try.pinned (OpenSpec.upto declKnownSpec)

/-- 'crossbarlaw18.BloomFinds', WHERE WHAT IT READS IS OF BULK AT MOST 1048576: true; the input reads as it did. -/
def bloomFindsUptoRow : OpenClaim := { program := "ytlkmdcncpdadbaa", sum := "d1cd83fbea7c58c8617b72d38c9740ee3cfeb9ef7a2854598386c84fe85d10b0", func := "crossbar/crossbarlaw18.BloomFinds", spec := "bloomFinds", unfollowed := true, recurses := true, apart := false, narrowed := true }
def BloomFindsUptoSaid : Prop := bloomFindsUptoRow.holds Try.pinned (OpenSpec.upto bloomFindsSpec)

/-- 'crossbarlaw18.BloomKnown', WHERE WHAT IT READS IS OF BULK AT MOST 1048576: true; the input reads as it did. -/
def bloomKnownUptoRow : OpenClaim := { program := "ytlkmdcncpdadbaa", sum := "d1cd83fbea7c58c8617b72d38c9740ee3cfeb9ef7a2854598386c84fe85d10b0", func := "crossbar/crossbarlaw18.BloomKnown", spec := "bloomKnown", unfollowed := true, recurses := true, apart := false, narrowed := true }
def BloomKnownUptoSaid : Prop := bloomKnownUptoRow.holds Try.pinned (OpenSpec.upto bloomKnownSpec)

/-- 'crossbarlaw18.BloomOrder', WHERE WHAT IT READS IS OF BULK AT MOST 1048576: true; the input reads as it did. -/
def bloomOrderUptoRow : OpenClaim := { program := "ytlkmdcncpdadbaa", sum := "d1cd83fbea7c58c8617b72d38c9740ee3cfeb9ef7a2854598386c84fe85d10b0", func := "crossbar/crossbarlaw18.BloomOrder", spec := "bloomOrder", unfollowed := true, recurses := true, apart := false, narrowed := true }
def BloomOrderUptoSaid : Prop := bloomOrderUptoRow.holds Try.pinned (OpenSpec.upto bloomOrderSpec)

/-- 'crossbarlaw18.BloomRuns', WHERE WHAT IT READS IS OF BULK AT MOST 1048576: true; the input reads as it did. -/
def bloomRunsUptoRow : OpenClaim := { program := "ytlkmdcncpdadbaa", sum := "d1cd83fbea7c58c8617b72d38c9740ee3cfeb9ef7a2854598386c84fe85d10b0", func := "crossbar/crossbarlaw18.BloomRuns", spec := "bloomRuns", unfollowed := true, recurses := true, apart := false, narrowed := true }
def BloomRunsUptoSaid : Prop := bloomRunsUptoRow.holds Try.pinned (OpenSpec.upto bloomRunsSpec)

end Rows
end Go.Proofs.Ytlkmdcncpdadbaa
