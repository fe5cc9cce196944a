/-
  Closed functions of this seat's program that return true, and the machine that knows it.
-/
import Derived.Test.YtmgkngdbphkmmaaEnv
namespace Go.Proofs.Ytmgkngdbphkmmaa
open Go.AS Go.RowKit
noncomputable def en : Env := env.knows []
theorem en_ok : en.Ok := by
  refine Env.knows_ok env_ok ?_
  intro f hf w
  simp at hf
theorem en_mix : en.prog.follows .mixedOrders = true := Checked.mixed Try.checked
end Go.Proofs.Ytmgkngdbphkmmaa
