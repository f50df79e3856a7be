/-
  The examples: the end, part four.
-/
import Derived.Test.YtfpnjpbdaniomaaWsconnH
import Derived.Test.YtfpnjpbdaniomaaAmSlim
import Derived.KernelRfl
set_option linter.unusedVariables false
open Go Go.Am
namespace Go.Proofs.Ytfpnjpbdaniomaa
theorem s4 : Gets EP 0 m3 m4 := reach_q KF_ok 2000 582 none [] [] [0, 2, 3] [11, 13, 15] [] [] [] rfl
end Go.Proofs.Ytfpnjpbdaniomaa
