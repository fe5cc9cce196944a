/-
  The plain machine over this seat's program.
-/
import Derived.Test.YtjggeoghlicmdaaGreatRows
import Derived.Test.YtjggeoghlicmdaaGreatAs13
import Derived.Eval
namespace Go.Proofs.YtjggeoghlicmdaaGreat
open Go.AS
noncomputable def tys : Tr TypeInfo := Tr.ofListFrom Tryz.prog.types.toList 0 .nil
noncomputable def fns : Tr Func := Tr.ofListFrom Tryz.prog.funcs.toList 0 .nil
noncomputable def env : Env := Env.of Tryz.prog tys fns [166] [297]
theorem env_ok : env.Ok := by
  refine Env.of_ok rfl rfl (by kernel_rfl) (by kernel_rfl) ?_
  intro f hf
  simp only [List.mem_cons, List.not_mem_nil, or_false] at hf
  subst hf
  exact ⟨Tryz.f297, by kernel_rfl, by kernel_rfl, by kernel_rfl, by kernel_rfl, by kernel_rfl⟩
theorem env_mix : env.prog.follows .mixedOrders = true := Checked.mixed Tryz.checked
end Go.Proofs.YtjggeoghlicmdaaGreat
