/-
  The plain machine over this seat's program.
-/
import Derived.Test.YtlkmdcncpdadbaaRows
import Derived.Test.YtlkmdcncpdadbaaAs13
import Derived.Eval
namespace Go.Proofs.Ytlkmdcncpdadbaa
open Go.AS
noncomputable def tys : Tr TypeInfo := Tr.ofListFrom Try.prog.types.toList 0 .nil
noncomputable def fns : Tr Func := Tr.ofListFrom Try.prog.funcs.toList 0 .nil
noncomputable def env : Env := Env.of Try.prog tys fns [35] []
theorem env_ok : env.Ok := by
  refine Env.of_ok rfl rfl (by kernel_rfl) (by kernel_rfl) ?_
  intro f hf
  simp at hf
theorem env_mix : env.prog.follows .mixedOrders = true := Checked.mixed Try.checked
end Go.Proofs.Ytlkmdcncpdadbaa
