/-
  Plain laws of masks.
-/
import Derived.Test.YtfmcohbagbafmaaFrameGp16
set_option linter.unusedVariables false
set_option linter.unusedSimpArgs false
open Go Go.Am
namespace Go.Proofs.Ytfmcohbagbafmaa

theorem slen_cat (a b : ByteArray) : slen (cat a b) = slen a + slen b := by simp [slen, cat, toL, ofL]
theorem xb_xor (b c : UInt8) : xb b (c.toNat : Int) = b ^^^ c := by
 have h := xb_val b (c.toNat : Int)
 rw [← UInt8.toNat_inj, UInt8.toNat_xor]
 have e : ixor .u8 (b.toNat : Int) (c.toNat : Int) = ((b.toNat ^^^ c.toNat : Nat) : Int) := by
  unfold ixor
  rw [BitVec.toNat_xor, show IntKind.u8.bits = 8 from rfl, BitVec.toNat_ofInt, BitVec.toNat_ofInt]
  have hb := b.toNat_lt
  have hc := c.toNat_lt
  have e1 : ((b.toNat : Int) % ((2 ^ 8 : Nat) : Int)).toNat = b.toNat := by omega
  have e2 : ((c.toNat : Int) % ((2 ^ 8 : Nat) : Int)).toNat = c.toNat := by omega
  rw [e1, e2]
  have h3 : b.toNat ^^^ c.toNat < 2 ^ 8 := Nat.xor_lt_two_pow (by omega) (by omega)
  rw [wrapU8v]
  omega
 omega
theorem xb_xb (b : UInt8) (k : Int) (h0 : 0 ≤ k) (h1 : k ≤ 255) : xb (xb b k) k = b := by
 obtain ⟨c, rfl⟩ : ∃ c : UInt8, k = c.toNat := ⟨UInt8.ofNat k.toNat, by rw [UInt8.toNat_ofNat']; omega⟩
 rw [xb_xor, xb_xor, UInt8.xor_assoc, UInt8.xor_self, UInt8.xor_zero]
def keyOk (k : List Int) : Prop := ∀ j, 0 ≤ k.getD j 0 ∧ k.getD j 0 ≤ 255
theorem keyOk4 {k0 k1 k2 k3 : Int} (h0 : 0 ≤ k0 ∧ k0 ≤ 255) (h1 : 0 ≤ k1 ∧ k1 ≤ 255) (h2 : 0 ≤ k2 ∧ k2 ≤ 255) (h3 : 0 ≤ k3 ∧ k3 ≤ 255) : keyOk [k0, k1, k2, k3] := by
 intro j
 match j with
 | 0 => exact h0
 | 1 => exact h1
 | 2 => exact h2
 | 3 => exact h3
 | n + 4 => simp
theorem maskL_twice {k : List Int} (hk : keyOk k) : ∀ (l : List UInt8) (a : Nat), maskL k a (maskL k a l) = l
 | [], a => rfl
 | b :: r, a => by
  rw [maskL, maskL, maskL_twice hk r, xb_xb _ _ (hk _).1 (hk _).2]
theorem toL_cat (a b : ByteArray) : toL (cat a b) = toL a ++ toL b := by simp [cat, toL, ofL]
theorem maskD_nat (k : List Int) (a : Nat) (s : ByteArray) : maskD k (a : Int) s = ofL (maskL k a (toL s)) := by
 unfold maskD
 rw [decide_eq_false (by omega)]
 simp
end Go.Proofs.Ytfmcohbagbafmaa
