/-
  What functions of this seat's program need (printed by a program, checked by the kernel).
-/
import Derived.Test.YtmgkngdbphkmmaaNames
import Derived.Test.YtmgkngdbphkmmaaAs41
namespace Go.Proofs.Ytmgkngdbphkmmaa
open Go Go.AS Go.RowKit
set_option linter.unusedVariables false
set_option maxRecDepth 100000
set_option maxHeartbeats 2000000
end Go.Proofs.Ytmgkngdbphkmmaa
