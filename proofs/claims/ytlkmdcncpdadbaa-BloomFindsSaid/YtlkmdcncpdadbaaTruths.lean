/-
  Closed functions of this seat's program that return true, and the machine that knows it.
-/
import Derived.Test.YtlkmdcncpdadbaaEnv
namespace Go.Proofs.Ytlkmdcncpdadbaa
open Go.AS Go.RowKit
theorem ran12 : (semF env 1000 12 [] (heap0 env)).map (·.1) = some (.bool true) := by kernel_rfl
theorem ran27 : (semF env 1000 27 [] (heap0 env)).map (·.1) = some (.bool true) := by kernel_rfl
noncomputable def en : Env := env.knows [12, 27]
theorem en_ok : en.Ok := by
  refine Env.knows_ok env_ok ?_
  intro f hf w
  simp only [List.mem_cons, List.not_mem_nil, or_false] at hf
  rcases hf with rfl | rfl
  · exact closed_callsF env_ok env_mix ran12 w
  · exact closed_callsF env_ok env_mix ran27 w
theorem en_mix : en.prog.follows .mixedOrders = true := Checked.mixed Try.checked
end Go.Proofs.Ytlkmdcncpdadbaa
