/-
  Closed functions of this seat's program that return true, and the machine that knows it.
-/
import Derived.Test.YtjggeoghlicmdaaGreatEnv
namespace Go.Proofs.YtjggeoghlicmdaaGreat
open Go.AS Go.RowKit
theorem ran11 : (semF env 1000 11 [] (heap0 env)).map (·.1) = some (.bool true) := by kernel_rfl
theorem ran30 : (semF env 1000 30 [] (heap0 env)).map (·.1) = some (.bool true) := by kernel_rfl
noncomputable def en : Env := env.knows [11, 30]
theorem en_ok : en.Ok := by
  refine Env.knows_ok env_ok ?_
  intro f hf w
  simp only [List.mem_cons, List.not_mem_nil, or_false] at hf
  rcases hf with rfl | rfl
  · exact closed_callsF env_ok env_mix ran11 w
  · exact closed_callsF env_ok env_mix ran30 w
theorem en_mix : en.prog.follows .mixedOrders = true := Checked.mixed Tryz.checked
end Go.Proofs.YtjggeoghlicmdaaGreat
