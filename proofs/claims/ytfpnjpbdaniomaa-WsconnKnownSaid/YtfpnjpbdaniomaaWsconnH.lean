/-
  The examples: the end, in parts.
-/
import Derived.Test.YtfpnjpbdaniomaaWsconnB
import Derived.Test.YtfpnjpbdaniomaaAmSlim
import Derived.KernelRfl
set_option linter.unusedVariables false
open Go Go.Am
namespace Go.Proofs.Ytfpnjpbdaniomaa
noncomputable def m1 : Cfg := cfgOf (goNil EP KF 2000 1171 none [[11, 13, 170]] [] [3, 4, 2, 1] [0, 2] [] [] [] (hd 19))
noncomputable def m2 : Cfg := cfgOf (goNil EP KF 2000 1059 none [[11, 13, 170]] [] [0, 1, 2, 3] [0, 2] [] [] [] m1)
noncomputable def m3 : Cfg := cfgOf (goNil EP KF 2000 1069 none [[11, 13, 170]] [] [0, 1, 2, 3] [0, 2] [] [] [] m2)
noncomputable def m4 : Cfg := cfgOf (goNil EP KF 2000 582 none [] [] [0, 2, 3] [11, 13, 15] [] [] [] m3)
theorem s1 : Gets EP 0 (hd 19) m1 := reach_q KF_ok 2000 1171 none [[11, 13, 170]] [] [3, 4, 2, 1] [0, 2] [] [] [] rfl
end Go.Proofs.Ytfpnjpbdaniomaa
