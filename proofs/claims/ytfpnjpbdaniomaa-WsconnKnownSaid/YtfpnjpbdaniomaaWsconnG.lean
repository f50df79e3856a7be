/-
  The examples, one after the other: the runs 17 to 18.
-/
import Derived.Test.YtfpnjpbdaniomaaWsconnB
import Derived.Test.YtfpnjpbdaniomaaAmSlim
import Derived.KernelRfl
set_option linter.unusedVariables false
open Go Go.Am
namespace Go.Proofs.Ytfpnjpbdaniomaa
theorem r17 : Gets EP 0 (hd 17) (hd 18) := reach_q KF_ok 2000 2757 none [] [] [0] [5, 6] [] [] [] rfl
theorem r18 : Gets EP 0 (hd 18) (hd 19) := reach_q KF_ok 2000 1294 none [] [] [0] [5, 6] [] [] [] rfl
end Go.Proofs.Ytfpnjpbdaniomaa
