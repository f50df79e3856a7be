/-
  Plain laws of masks.
-/
import Derived.Test.YtkpkompmfijgkaaFrameK
set_option linter.unusedVariables false
set_option linter.unusedSimpArgs false
open Go Go.Am
namespace Go.Proofs.Ytkpkompmfijgkaa

theorem xb_xor (b c : UInt8) : xb b (c.toNat : Int) = b ^^^ c := by
  have h := xb_val b (c.toNat : Int)
  rw [← UInt8.toNat_inj, UInt8.toNat_xor]
  have e : ixor .u8 (b.toNat : Int) (c.toNat : Int) = ((b.toNat ^^^ c.toNat : Nat) : Int) := by
    unfold ixor
    rw [BitVec.toNat_xor, show IntKind.u8.bits = 8 from rfl, BitVec.toNat_ofInt, BitVec.toNat_ofInt]
    have hb := b.toNat_lt
    have hc := c.toNat_lt
    have e1 : ((b.toNat : Int) % ((2 ^ 8 : Nat) : Int)).toNat = b.toNat := by omega
    have e2 : ((c.toNat : Int) % ((2 ^ 8 : Nat) : Int)).toNat = c.toNat := by omega
    rw [e1, e2]
    have h3 : b.toNat ^^^ c.toNat < 2 ^ 8 := Nat.xor_lt_two_pow (by omega) (by omega)
    rw [wrapU8v]
    omega
  omega
theorem xb_xb (b : UInt8) (k : Int) (h0 : 0 ≤ k) (h1 : k ≤ 255) : xb (xb b k) k = b := by
  obtain ⟨c, rfl⟩ : ∃ c : UInt8, k = c.toNat := ⟨UInt8.ofNat k.toNat, by rw [UInt8.toNat_ofNat']; omega⟩
  rw [xb_xor, xb_xor, UInt8.xor_assoc, UInt8.xor_self, UInt8.xor_zero]
theorem xb_zero (b : UInt8) : xb b 0 = b := by
  have := xb_xor b 0
  simpa using this
def keyOk (k : List Int) : Prop := ∀ j, 0 ≤ k.getD j 0 ∧ k.getD j 0 ≤ 255
theorem keyOk4 {k0 k1 k2 k3 : Int} (h0 : 0 ≤ k0 ∧ k0 ≤ 255) (h1 : 0 ≤ k1 ∧ k1 ≤ 255) (h2 : 0 ≤ k2 ∧ k2 ≤ 255) (h3 : 0 ≤ k3 ∧ k3 ≤ 255) : keyOk [k0, k1, k2, k3] := by
  intro j
  match j with
  | 0 => exact h0
  | 1 => exact h1
  | 2 => exact h2
  | 3 => exact h3
  | n + 4 => simp
theorem maskL_twice {k : List Int} (hk : keyOk k) : ∀ (l : List UInt8) (a : Nat), maskL k a (maskL k a l) = l
  | [], a => rfl
  | b :: r, a => by
    rw [maskL, maskL, maskL_twice hk r, xb_xb _ _ (hk _).1 (hk _).2]
theorem maskL_append (k : List Int) : ∀ (l m : List UInt8) (a : Nat), maskL k a (l ++ m) = maskL k a l ++ maskL k (a + l.length) m
  | [], m, a => by simp [maskL]
  | b :: r, m, a => by
    rw [List.cons_append, maskL, maskL, maskL_append k r]
    simp only [List.cons_append, List.length_cons]
    rw [show a + 1 + r.length = a + (r.length + 1) by omega]
theorem maskL_four (k : List Int) : ∀ (l : List UInt8) (a : Nat), maskL k (a + 4) l = maskL k a l
  | [], a => rfl
  | b :: r, a => by
    rw [maskL, maskL, show a + 4 + 1 = (a + 1) + 4 by omega, maskL_four k r, show (a + 4) % 4 = a % 4 by omega]
theorem maskL_zero : ∀ (l : List UInt8) (a : Nat), maskL [0, 0, 0, 0] a l = l
  | [], a => rfl
  | b :: r, a => by
    have h : [(0 : Int), 0, 0, 0].getD (a % 4) 0 = 0 := by
      have : a % 4 = 0 ∨ a % 4 = 1 ∨ a % 4 = 2 ∨ a % 4 = 3 := by omega
      rcases this with h | h | h | h <;> rw [h] <;> rfl
    rw [maskL, h, xb_zero, maskL_zero r]
theorem toL_cat (a b : ByteArray) : toL (cat a b) = toL a ++ toL b := by simp [cat, toL, ofL]
theorem maskD_nat (k : List Int) (a : Nat) (s : ByteArray) : maskD k (a : Int) s = ofL (maskL k a (toL s)) := by
  unfold maskD
  rw [decide_eq_false (by omega)]
  simp
end Go.Proofs.Ytkpkompmfijgkaa
