/-
  The reference's box: Put, Next: the ways.
-/
import Derived.Test.YticpjnmoiepafaaOutboxR
import Derived.Test.YticpjnmoiepafaaAmSlim
import Derived.Test.YticpjnmoiepafaaAmMove
set_option linter.unusedVariables false
set_option linter.unusedSimpArgs false
open Go Go.Am
namespace Go.Proofs.Yticpjnmoiepafaa

end Go.Proofs.Yticpjnmoiepafaa

/-
  The reference's box: Put as a contract.
-/
set_option linter.unusedVariables false
set_option linter.unusedSimpArgs false
open Go Go.Am
namespace Go.Proofs.Yticpjnmoiepafaa

section
variable {n : Nat} {L : List Value} {l : List mT} (h : IsL n L l) (mq : Int) (c e t : Bool) (k o : Int) (x : ByteArray)
include h
end
end Go.Proofs.Yticpjnmoiepafaa
