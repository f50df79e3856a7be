/-
  The examples: the end, part five.
-/
import Derived.Test.YtfpnjpbdaniomaaWsconnH
import Derived.Test.YtfpnjpbdaniomaaAmSlim
import Derived.KernelRfl
set_option linter.unusedVariables false
open Go Go.Am
namespace Go.Proofs.Ytfpnjpbdaniomaa
theorem fin : AEnds EP 8 0 m4 (.bool true) [] := ends_q KF_ok 2000 1095 none [] [0] [] (ok := true) rfl
end Go.Proofs.Ytfpnjpbdaniomaa
