/-
  A joiner of frames: the codes that its calls tell, as plain functions; bytes in a row.
-/
import Derived.Test.YtgaedhpeiamdfaaUtfO18
import Derived.Test.YtgaedhpeiamdfaaAmFlex
import Derived.Test.YtgaedhpeiamdfaaAmSlim
set_option linter.unusedVariables false
set_option linter.unusedSimpArgs false
open Go Go.Am
namespace Go.Proofs.Ytgaedhpeiamdfaa

/-- A cell of an act. -/
abbrev g5 (A : List Value) (t : Int) (k : Nat) : Value := A.getD (t.toNat * 5 + k) undef
def bop (o op : Int) : Bool := !(o == 0) == (op != 0)
def bcode (lim bad op sum : Int) (begun : Bool) (o n : Int) : Int :=
  bif bad != 0 then bad else bif begun then 1002 else bif decide (n < 0) then 1002 else bif (o != 0) && ((o != 1) && (o != 2)) then 1002 else bif bop o op then 1002 else bif decide (IntKind.wrap .i64 (lim - sum) < n) then 1009 else 0
def pcode (bad lacks : Int) (begun : Bool) (s : ByteArray) : Int :=
  bif bad != 0 then bad else bif !begun then 1002 else bif decide (lacks < (slen s : Int)) then 1002 else 0
def ecode (bad op lacks left : Int) (begun last cbad : Bool) : Int :=
  bif bad != 0 then bad else bif !begun then 1002 else bif decide (0 < lacks) then 1002 else bif last && ((op == 1) && (cbad || !left == 0)) then 1007 else 0
def fedP (op left low high x at' : Int) (cbad : Bool) (s : ByteArray) : Q × Int × Bool :=
  bif op == 1 then feedL (left, low, high, x) at' cbad (toL s) else ((left, low, high, x), at', cbad)

theorem bS : (∀ b : Bool, (b && true) = b) ∧ (∀ b : Bool, (true && b) = b) ∧ (∀ b : Bool, (b && false) = false) ∧ (∀ b : Bool, (false && b) = false) ∧ (∀ b : Bool, (b || true) = true) ∧ (∀ b : Bool, (b || false) = b) ∧ (∀ b : Bool, (true || b) = true) ∧ (∀ b : Bool, (false || b) = b) ∧ (!true) = false ∧ (!false) = true ∧ (∀ (α : Type) (x y : α), cond true x y = x) ∧ (∀ (α : Type) (x y : α), cond false x y = y) := by simp
theorem ob_len (s : ByteArray) : (ofBytes s).length = slen s := by simp [ofBytes, slen]
theorem take_ob (s : ByteArray) : List.take (slen s) (ofBytes s) = ofBytes s := List.take_of_length_le (by rw [ob_len]; exact Nat.le_refl _)
theorem ob_flat (s : ByteArray) : (ofBytes s).all flat = true := by simp [ofBytes, flat]
theorem ob_one (s : ByteArray) : (ofBytes s).all one = true := by simp [ofBytes, one]
theorem ob_int (s : ByteArray) : (ofBytes s).all (isInt .u8) = true := by simp [ofBytes, isInt]
theorem ob_tf (s : ByteArray) : (List.take (slen s) (ofBytes s)).all flat = true := by rw [take_ob]; exact ob_flat s
theorem ob_to (s : ByteArray) : (List.take (slen s) (ofBytes s)).all one = true := by rw [take_ob]; exact ob_one s
theorem ob_app (b s : ByteArray) : (ofBytes b ++ List.take (slen s) (ofBytes s)).all flat = true := by rw [take_ob, List.all_append, ob_flat, ob_flat]; rfl
theorem ob_cat (b s : ByteArray) : ofBytes b ++ ofBytes s = ofBytes (cat b s) := by
  unfold cat
  simp [ofBytes, toL, ofL]
theorem slen_cat (b s : ByteArray) : slen (cat b s) = slen b + slen s := by simp [slen, cat, toL, ofL]
theorem ob_back (b : ByteArray) : bytesOf (ofBytes b) = b := by
  unfold bytesOf ofBytes
  rw [List.map_map]
  have : (toL b).map ((fun v => UInt8.ofNat (toInt v).toNat) ∘ fun b => Value.int IntKind.u8 b.toNat) = toL b := by
    refine List.map_id'' (fun x => ?_) _
    simp [toInt]
  rw [this]
  rfl
end Go.Proofs.Ytgaedhpeiamdfaa
