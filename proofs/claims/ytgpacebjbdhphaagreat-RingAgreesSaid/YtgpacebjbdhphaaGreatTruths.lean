/-
  Closed functions of this seat's program that return true, and the machine that knows it.
-/
import Derived.Test.YtgpacebjbdhphaaGreatEnv
namespace Go.Proofs.YtgpacebjbdhphaaGreat
open Go.AS Go.RowKit
theorem ran5 : (semF env 1000 5 [] (heap0 env)).map (·.1) = some (.bool true) := by kernel_rfl
noncomputable def en : Env := env.knows [5]
theorem en_ok : en.Ok := by
  refine Env.knows_ok env_ok ?_
  intro f hf w
  simp only [List.mem_cons, List.not_mem_nil, or_false] at hf
  subst hf
  exact closed_callsF env_ok env_mix ran5 w
theorem en_mix : en.prog.follows .mixedOrders = true := Checked.mixed Tryz.checked
end Go.Proofs.YtgpacebjbdhphaaGreat
