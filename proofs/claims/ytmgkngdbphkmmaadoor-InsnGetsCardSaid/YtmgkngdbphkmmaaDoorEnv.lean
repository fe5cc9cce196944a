/-
  The plain machine over this seat's program.
-/
import Derived.Test.YtmgkngdbphkmmaaDoorRows
import Derived.Test.YtmgkngdbphkmmaaDoorAs13
import Derived.Eval
namespace Go.Proofs.YtmgkngdbphkmmaaDoor
open Go.AS
noncomputable def tys : Tr TypeInfo := Tr.ofListFrom Tryd.prog.types.toList 0 .nil
noncomputable def fns : Tr Func := Tr.ofListFrom Tryd.prog.funcs.toList 0 .nil
noncomputable def env : Env := Env.of Tryd.prog tys fns [39] []
theorem env_ok : env.Ok := by
  refine Env.of_ok rfl rfl (by kernel_rfl) (by kernel_rfl) ?_
  intro f hf
  simp at hf
theorem env_mix : env.prog.follows .mixedOrders = true := Checked.mixed Tryd.checked
end Go.Proofs.YtmgkngdbphkmmaaDoor
