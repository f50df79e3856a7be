/-
  The sums of three texts, worked out.
-/
import Derived.Test.YtncldppnmkbklaaShaP
set_option linter.unusedVariables false
set_option linter.unusedSimpArgs false
open Go Go.Am
namespace Go.Proofs.Ytncldppnmkbklaa

/-- The same, without names that nothing unfolds. -/
def eatC : Nat → S5 → ByteArray → S5 × ByteArray
  | 0, a, s => (a, s)
  | n + 1, a, s => bif decide (64 ≤ slen s) then eatC n (afterF a (sub s 0 64)) (sub s 64 (slen s)) else (a, s)
theorem eat_C : ∀ n a s, eat n a s = eatC n a s
  | 0, a, s => rfl
  | n + 1, a, s => by simp only [eat, eatC, aF_eq, eat_C n]
def wC (b : Bool) (a : S5) (rest s : ByteArray) : S5 × ByteArray := eatC (slen (cat rest s) / 64 + 1) (bif b then a else firstF) (cat rest s)
theorem wF_C (b : Bool) (a : S5) (r s : ByteArray) : wF b a r s = wC b a r s := by rw [wF_eq, writeF, eat_C, wC]
def sumC (s : ByteArray) : S5 :=
  let x := wC false (0, 0, 0, 0, 0) { data := #[] } s
  let y := wC true x.1 x.2 { data := #[128] }
  let z := wC true y.1 y.2 (zer (padI (slen y.2)).toNat)
  (wC true z.1 z.2 (b8 (IntKind.i64.wrap (0 + slen s)))).1
theorem sumP_C (s : ByteArray) : sumP s = sumC s := by
  unfold sumP z3 z2 z1 sumC
  simp only [wF_C]
set_option maxRecDepth 100000 in
theorem abc : sumC { data := #[97, 98, 99] } = (0xa9993e36, 0x4706816a, 0xba3e2571, 0x7850c26c, 0x9cd0d89d) := by decide +kernel
set_option maxRecDepth 100000 in
theorem empty : sumC { data := #[] } = (0xda39a3ee, 0x5e6b4b0d, 0x3255bfef, 0x95601890, 0xafd80709) := by decide +kernel
set_option maxRecDepth 100000 in
theorem long : sumC { data := #[97, 98, 99, 100, 98, 99, 100, 101, 99, 100, 101, 102, 100, 101, 102, 103, 101, 102, 103, 104, 102, 103, 104, 105, 103, 104, 105, 106, 104, 105, 106, 107, 105, 106, 107, 108, 106, 107, 108, 109, 107, 108, 109, 110, 108, 109, 110, 111, 109, 110, 111, 112, 110, 111, 112, 113] } = (0x84983e44, 0x1c3bd26e, 0xbaae4aa1, 0xf95129e5, 0xe54670f1) := by decide +kernel

end Go.Proofs.Ytncldppnmkbklaa
