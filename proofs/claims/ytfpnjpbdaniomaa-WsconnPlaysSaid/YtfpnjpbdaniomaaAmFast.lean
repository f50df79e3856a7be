/-
  The abstract machine: runs that are carried out value by value: the same runs.
-/
import Derived.Test.YtfpnjpbdaniomaaAmLift
namespace Go.Am
set_option linter.unusedVariables false

end Go.Am
