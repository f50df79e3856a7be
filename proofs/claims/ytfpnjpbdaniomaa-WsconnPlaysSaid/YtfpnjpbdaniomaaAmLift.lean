/-
  The abstract machine: a call that is proved elsewhere, as a call of the abstract machine's.
-/
import Derived.Test.YtfpnjpbdaniomaaAmRen
import Derived.Lib.Repeat
namespace Go.Am
open Go.RowKit

end Go.Am
