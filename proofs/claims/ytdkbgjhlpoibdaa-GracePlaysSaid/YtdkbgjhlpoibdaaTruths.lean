/-
  Closed functions of this seat's program that return true, and the machine that knows it.
-/
import Derived.Test.YtdkbgjhlpoibdaaEnv
namespace Go.Proofs.Ytdkbgjhlpoibdaa
open Go.AS Go.RowKit
theorem ran13 : (semF env 1000 13 [] (heap0 env)).map (·.1) = some (.bool true) := by kernel_rfl
theorem ran39 : (semF env 1000 39 [] (heap0 env)).map (·.1) = some (.bool true) := by kernel_rfl
noncomputable def en : Env := env.knows [13, 39]
theorem en_ok : en.Ok := by
  refine Env.knows_ok env_ok ?_
  intro f hf w
  simp only [List.mem_cons, List.not_mem_nil, or_false] at hf
  rcases hf with rfl | rfl
  · exact closed_callsF env_ok env_mix ran13 w
  · exact closed_callsF env_ok env_mix ran39 w
theorem en_mix : en.prog.follows .mixedOrders = true := Checked.mixed Try.checked
end Go.Proofs.Ytdkbgjhlpoibdaa
