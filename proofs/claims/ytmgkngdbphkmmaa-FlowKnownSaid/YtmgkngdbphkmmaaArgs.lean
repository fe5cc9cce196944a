/-
  What the shapes of the laws' arguments say (printed by a program, checked by the kernel).
-/
import Derived.Test.YtmgkngdbphkmmaaNames
import Derived.Test.YtmgkngdbphkmmaaAs31
namespace Go.Proofs.Ytmgkngdbphkmmaa
open Go Go.AS Go.RowKit
set_option linter.unusedVariables false
set_option maxRecDepth 100000
end Go.Proofs.Ytmgkngdbphkmmaa
