/-
  The examples, one after the other: the runs 14 to 16.
-/
import Derived.Test.YtfpnjpbdaniomaaWsconnB
import Derived.Test.YtfpnjpbdaniomaaAmSlim
import Derived.KernelRfl
set_option linter.unusedVariables false
open Go Go.Am
namespace Go.Proofs.Ytfpnjpbdaniomaa
theorem r14 : Gets EP 0 (hd 14) (hd 15) := reach_q KF_ok 2000 1652 none [] [] [0] [5, 6] [] [] [] rfl
theorem r15 : Gets EP 0 (hd 15) (hd 16) := reach_q KF_ok 2000 1087 none [] [] [0] [5, 6] [] [] [] rfl
theorem r16 : Gets EP 0 (hd 16) (hd 17) := reach_q KF_ok 2000 2068 none [] [] [0] [5, 6] [] [] [] rfl
end Go.Proofs.Ytfpnjpbdaniomaa
