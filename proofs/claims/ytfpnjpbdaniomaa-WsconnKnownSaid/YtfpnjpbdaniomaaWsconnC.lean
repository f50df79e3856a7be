/-
  The examples, one after the other: the runs 0 to 7.
-/
import Derived.Test.YtfpnjpbdaniomaaWsconnB
import Derived.Test.YtfpnjpbdaniomaaAmSlim
import Derived.KernelRfl
set_option linter.unusedVariables false
open Go Go.Am
namespace Go.Proofs.Ytfpnjpbdaniomaa
theorem r0 : Gets EP 0 known_h1 (hd 1) := reach_q KF_ok 2000 788 none [] [] [0] [5, 6] [] [] [] rfl
theorem r1 : Gets EP 0 (hd 1) (hd 2) := reach_q KF_ok 2000 701 none [] [] [0] [5, 6] [] [] [] rfl
theorem r2 : Gets EP 0 (hd 2) (hd 3) := reach_q KF_ok 2000 705 none [] [] [0] [5, 6] [] [] [] rfl
theorem r3 : Gets EP 0 (hd 3) (hd 4) := reach_q KF_ok 2000 705 none [] [] [0] [5, 6] [] [] [] rfl
theorem r4 : Gets EP 0 (hd 4) (hd 5) := reach_q KF_ok 2000 790 none [] [] [0] [5, 6] [] [] [] rfl
theorem r5 : Gets EP 0 (hd 5) (hd 6) := reach_q KF_ok 2000 705 none [] [] [0] [5, 6] [] [] [] rfl
theorem r6 : Gets EP 0 (hd 6) (hd 7) := reach_q KF_ok 2000 797 none [] [] [0] [5, 6] [] [] [] rfl
theorem r7 : Gets EP 0 (hd 7) (hd 8) := reach_q KF_ok 2000 788 none [] [] [0] [5, 6] [] [] [] rfl
end Go.Proofs.Ytfpnjpbdaniomaa
