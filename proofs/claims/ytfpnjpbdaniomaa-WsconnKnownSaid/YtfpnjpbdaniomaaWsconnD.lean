/-
  The examples, one after the other: the runs 8 to 10.
-/
import Derived.Test.YtfpnjpbdaniomaaWsconnB
import Derived.Test.YtfpnjpbdaniomaaAmSlim
import Derived.KernelRfl
set_option linter.unusedVariables false
open Go Go.Am
namespace Go.Proofs.Ytfpnjpbdaniomaa
theorem r8 : Gets EP 0 (hd 8) (hd 9) := reach_q KF_ok 2000 2157 none [] [] [0] [5, 6] [] [] [] rfl
theorem r9 : Gets EP 0 (hd 9) (hd 10) := reach_q KF_ok 2000 1151 none [] [] [0] [5, 6] [] [] [] rfl
theorem r10 : Gets EP 0 (hd 10) (hd 11) := reach_q KF_ok 2000 1664 none [] [] [0] [5, 6] [] [] [] rfl
end Go.Proofs.Ytfpnjpbdaniomaa
