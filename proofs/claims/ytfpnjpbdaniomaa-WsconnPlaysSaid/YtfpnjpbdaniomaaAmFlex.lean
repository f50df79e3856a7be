/-
  The abstract machine: a row of a known number of places taken as one that may have more: a contract's memory with it.
-/
import Derived.Test.YtfpnjpbdaniomaaAmMove
set_option linter.unusedVariables false
set_option linter.unusedSimpArgs false
namespace Go.Am

section
variable {Pr : Prot} {A : Nat → Prop} {ρ ρ' : Nat → Nm} {b z len : Nat}
structure FlexN (ρ ρ' : Nat → Nm) (b z len : Nat) : Prop where
 other : ∀ i, i ≠ b → ρ' i = ρ i
 blk : (ρ' b).blk = (ρ b).blk
 base : (ρ' b).base = (ρ b).base
 tot : (ρ' b).tot = (ρ b).tot
 ph : (ρ' b).ph = (ρ b).ph
 flex : (ρ' b).flex = some z
 was : (ρ b).flex = none
 notph : (ρ b).ph = false
 base0 : (ρ b).base = 0
 len : (ρ b).tot = len
theorem FlexN.addr (h : FlexN ρ ρ' b z len) (i o : Nat) : addr (ρ' i) o = addr (ρ i) o := by
 unfold Am.addr
 by_cases hi : i = b
 ·subst hi; rw [h.blk, h.base]
 ·rw [h.other i hi]
end

end Go.Am
