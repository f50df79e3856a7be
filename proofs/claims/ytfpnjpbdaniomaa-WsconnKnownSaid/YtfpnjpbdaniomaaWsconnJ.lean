/-
  The examples: the end, part three.
-/
import Derived.Test.YtfpnjpbdaniomaaWsconnH
import Derived.Test.YtfpnjpbdaniomaaAmSlim
import Derived.KernelRfl
set_option linter.unusedVariables false
open Go Go.Am
namespace Go.Proofs.Ytfpnjpbdaniomaa
theorem s3 : Gets EP 0 m2 m3 := reach_q KF_ok 2000 1069 none [[11, 13, 170]] [] [0, 1, 2, 3] [0, 2] [] [] [] rfl
end Go.Proofs.Ytfpnjpbdaniomaa
