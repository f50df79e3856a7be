/-
  The reference's box: Next as a contract.
-/
import Derived.Test.YticpjnmoiepafaaOutboxT
import Derived.Test.YticpjnmoiepafaaAmMove
import Derived.Test.YticpjnmoiepafaaAmSlim
set_option linter.unusedVariables false
set_option linter.unusedSimpArgs false
open Go Go.Am
namespace Go.Proofs.Yticpjnmoiepafaa

section
variable (l : List mT) (hm : l.length ≤ 100000) (mq : Int) (c e t : Bool)
include hm
end
end Go.Proofs.Yticpjnmoiepafaa
