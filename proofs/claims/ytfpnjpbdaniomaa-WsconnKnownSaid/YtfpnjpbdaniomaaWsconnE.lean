/-
  The examples, one after the other: the runs 11 to 13.
-/
import Derived.Test.YtfpnjpbdaniomaaWsconnB
import Derived.Test.YtfpnjpbdaniomaaAmSlim
import Derived.KernelRfl
set_option linter.unusedVariables false
open Go Go.Am
namespace Go.Proofs.Ytfpnjpbdaniomaa
theorem r11 : Gets EP 0 (hd 11) (hd 12) := reach_q KF_ok 2000 2157 none [] [] [0] [5, 6] [] [] [] rfl
theorem r12 : Gets EP 0 (hd 12) (hd 13) := reach_q KF_ok 2000 1426 none [] [] [0] [5, 6] [] [] [] rfl
theorem r13 : Gets EP 0 (hd 13) (hd 14) := reach_q KF_ok 2000 1486 none [] [] [0] [5, 6] [] [] [] rfl
end Go.Proofs.Ytfpnjpbdaniomaa
