/-
  Closed functions that return true (the kernel runs them): the machine that knows 'small', too.
-/
import Derived.Test.YtjggeoghlicmdaaGreatTruths
namespace Go.Proofs.YtjggeoghlicmdaaGreat
open Go.AS Go.RowKit
theorem ran41 : (semF en 1000 41 [] (heap0 en)).map (·.1) = some (.bool true) := by kernel_rfl
noncomputable def en2 : Env := en.knows [41]
theorem en2_ok : en2.Ok := by
  refine Env.knows_ok en_ok ?_
  intro f hf w
  simp only [List.mem_cons, List.not_mem_nil, or_false] at hf
  subst hf
  exact closed_callsF en_ok en_mix ran41 w
theorem en2_mix : en2.prog.follows .mixedOrders = true := Checked.mixed Tryz.checked
end Go.Proofs.YtjggeoghlicmdaaGreat
