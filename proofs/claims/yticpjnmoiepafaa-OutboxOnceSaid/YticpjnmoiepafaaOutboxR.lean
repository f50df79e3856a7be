/-
  The reference's box: Count, drop, Put, Next: the ways.
-/
import Derived.Test.YticpjnmoiepafaaOutboxP
import Derived.Test.YticpjnmoiepafaaAmSlim
import Derived.Test.YticpjnmoiepafaaOutboxD
set_option linter.unusedVariables false
set_option linter.unusedSimpArgs false
open Go Go.Am
namespace Go.Proofs.Yticpjnmoiepafaa

noncomputable def E2 : Env := { E with symP := true }

end Go.Proofs.Yticpjnmoiepafaa

/-
  The reference's box: count, drop: contracts.
-/
set_option linter.unusedVariables false
set_option linter.unusedSimpArgs false
open Go Go.Am
namespace Go.Proofs.Yticpjnmoiepafaa

structure IsL (n : Nat) (L : List Value) (l : List mT) : Prop where
 n : n = l.length
 L : L = (mQ l).flatten
 m : l.length ≤ 100000
theorem IsL.flat {n : Nat} {L : List Value} {l : List mT} (h : IsL n L l) : L.all flat = true := by rw [h.L]; exact mQ_flat l
theorem IsL.len {n : Nat} {L : List Value} {l : List mT} (h : IsL n L l) : L.length = n * 3 := by rw [h.L, h.n]; exact mQ_flen l
theorem IsL.get {n : Nat} {L : List Value} {l : List mT} (h : IsL n L l) {i : Nat} {x : mT} (hx : l[i]? = some x) : L.getD (0 + i * 3 + 0) undef = .int .i64 x.1 ∧ L.getD (0 + i * 3 + 1) undef = .int .i64 x.2.1 ∧ L.getD (0 + i * 3 + 2) undef = .string x.2.2 := by
 rw [h.L]; exact mQ_getD hx
end Go.Proofs.Yticpjnmoiepafaa
