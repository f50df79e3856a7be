/-
  Whole blocks taken in, cut anywhere; words out of four bytes. No program here.
-/
import Derived.Test.YtncldppnmkbklaaAmSlim
import Derived.Test.YtncldppnmkbklaaShaR
set_option linter.unusedVariables false
set_option linter.unusedSimpArgs false
open Go Go.Am
namespace Go.Proofs.Ytncldppnmkbklaa

theorem toL_cat (a b : ByteArray) : toL (cat a b) = toL a ++ toL b := by simp [cat, toL, ofL]
theorem toL_inj' {a b : ByteArray} (h : toL a = toL b) : a = b := toL_inj h
theorem eat_step (n : Nat) (a : S5) (s : ByteArray) (h : 64 ≤ slen s) : eat (n + 1) a s = eat n (aF a (sub s 0 64)) (sub s 64 (slen s)) := by
  rw [eat, show decide (64 ≤ slen s) = true by simpa using h, cond_true]
theorem eat_stop (n : Nat) (a : S5) (s : ByteArray) (h : slen s < 64) : eat n a s = (a, s) := by
  cases n with
  | zero => rfl
  | succ n => rw [eat, show decide (64 ≤ slen s) = false by simpa using h, cond_false]
theorem eat_more : ∀ (k m : Nat) (a : S5) (s : ByteArray), slen s < k * 64 → slen s < m * 64 → eat k a s = eat m a s
  | 0, m, a, s, h, _ => by omega
  | k + 1, 0, a, s, _, h => by omega
  | k + 1, m + 1, a, s, h1, h2 => by
    by_cases hc : 64 ≤ slen s
    · rw [eat_step k a s hc, eat_step m a s hc]
      exact eat_more k m _ _ (by rw [slen_sub]; omega) (by rw [slen_sub]; omega)
    · rw [eat_stop _ a s (by omega), eat_stop _ a s (by omega)]
theorem eat_cat (t : ByteArray) : ∀ (k m : Nat) (a : S5) (s : ByteArray), slen s < k * 64 → slen (cat s t) < m * 64 → eat m a (cat s t) = eat m (eat k a s).1 (cat (eat k a s).2 t)
  | 0, m, a, s, h, _ => by omega
  | k + 1, m, a, s, h1, h2 => by
    by_cases hc : 64 ≤ slen s
    · rw [eat_step k a s hc]
      rw [slen_cat] at h2
      obtain ⟨m', rfl⟩ : ∃ m', m = m' + 1 := ⟨m - 1, by omega⟩
      rw [eat_step m' a (cat s t) (by rw [slen_cat]; omega)]
      have e1 : sub (cat s t) 0 64 = sub s 0 64 := toL_inj (by
        rw [toL_sub, toL_sub, toL_cat, List.drop_zero, List.drop_zero, List.take_append_of_le_length (by unfold slen at hc; omega)])
      have e2 : sub (cat s t) 64 (slen (cat s t)) = cat (sub s 64 (slen s)) t := toL_inj (by
        rw [toL_sub, toL_cat, toL_cat, toL_sub, slen_cat, List.drop_append_of_le_length (by unfold slen at hc; omega)]
        rw [List.take_of_length_le (by rw [List.length_append, List.length_drop]; show (slen s - 64) + slen t ≤ _; omega), List.take_of_length_le (by rw [List.length_drop]; exact Nat.le_refl _)])
      rw [e1, e2, eat_cat t k m' _ _ (by rw [slen_sub]; omega) (by rw [slen_cat, slen_sub]; omega)]
      exact eat_more _ _ _ _ (by rw [slen_cat]; have := eat_small k (aF a (sub s 0 64)) (sub s 64 (slen s)) (by rw [slen_sub]; omega); have := eat_le k (aF a (sub s 0 64)) (sub s 64 (slen s)); rw [slen_sub] at this; omega) (by rw [slen_cat]; have := eat_le k (aF a (sub s 0 64)) (sub s 64 (slen s)); rw [slen_sub] at this; omega)
    · rw [eat_stop _ a s (by omega)]
where
  eat_le : ∀ (k : Nat) (a : S5) (s : ByteArray), slen (eat k a s).2 ≤ slen s
  | 0, a, s => Nat.le_refl _
  | k + 1, a, s => by
    by_cases hc : 64 ≤ slen s
    · rw [eat_step k a s hc]
      exact Nat.le_trans (eat_le k _ _) (by rw [slen_sub]; omega)
    · rw [eat_stop _ a s (by omega)]; exact Nat.le_refl _
theorem eat_len : ∀ (k : Nat) (a : S5) (s : ByteArray), slen s < k * 64 → slen (eat k a s).2 = slen s % 64
  | 0, a, s, h => by omega
  | k + 1, a, s, h => by
    by_cases hc : 64 ≤ slen s
    · rw [eat_step k a s hc, eat_len k _ _ (by rw [slen_sub]; omega), slen_sub]; omega
    · rw [eat_stop _ a s (by omega)]; show slen s = _; omega
/-- All in one. -/
def fuel (s : ByteArray) : Nat := slen s / 64 + 1
theorem fuel_ok (s : ByteArray) : slen s < fuel s * 64 := by unfold fuel; omega
/-- What was taken in of a text. -/
noncomputable def ate (a : S5) (s : ByteArray) : S5 × ByteArray := eat (fuel s) a s
theorem ate_small (a : S5) (s : ByteArray) : slen (ate a s).2 = slen s % 64 := eat_len _ _ _ (fuel_ok s)
theorem ate_cat (a : S5) (s t : ByteArray) : ate (ate a s).1 (cat (ate a s).2 t) = ate a (cat s t) := by
  unfold ate
  rw [eat_cat t (fuel s) (fuel (cat s t)) a s (fuel_ok s) (fuel_ok _)]
  refine eat_more _ _ _ _ (fuel_ok _) ?_
  have h1 := eat_len (fuel s) a s (fuel_ok s)
  have h2 := fuel_ok (cat s t)
  rw [slen_cat] at h2 ⊢
  omega
theorem wF_ate (a : S5) (r s : ByteArray) : wF true a r s = ate a (cat r s) := by
  rw [wF_eq, writeF]; rfl
theorem wF_ate0 (a : S5) (r s : ByteArray) : wF false a r s = ate firstF (cat r s) := by
  rw [wF_eq, writeF]; rfl
/-- The padded text. -/
def padded (s : ByteArray) : ByteArray := cat (cat (cat s { data := #[128] }) (zer (padI ((slen s + 1) % 64)).toNat)) (b8 (slen s))
theorem cat_nil (s : ByteArray) : cat { data := #[] } s = s := toL_inj (by rw [toL_cat]; rfl)
theorem sumP_ate (s : ByteArray) (h : slen s ≤ 20000) : sumP s = (ate firstF (padded s)).1 := by
  unfold sumP z3 z2 z1
  simp only [wF_ate0, wF_ate, cat_nil, ate_cat, ate_small, slen_cat, show slen { data := #[128] } = 1 from rfl]
  rw [Int.zero_add, wrap64_in (by omega) (by omega)]
  rfl

/-! ### words -/
theorem u32_wrap (x : Int) : IntKind.u32.wrap x = x % 4294967296 := by simp [IntKind.wrap, IntKind.bits, IntKind.signed]
theorem u64_wrap (x : Int) : IntKind.u64.wrap x = x % 18446744073709551616 := by simp [IntKind.wrap, IntKind.bits, IntKind.signed]
theorem or_add (m y i : Nat) (h : y < 2 ^ i) : m * 2 ^ i ||| y = m * 2 ^ i + y := by
  have := Nat.shiftLeft_add_eq_or_of_lt h m
  rw [Nat.shiftLeft_eq] at this
  exact this.symm
theorem ior32 (x y : Nat) (hx : x < 4294967296) (hy : y < 4294967296) : ior .u32 (x : Int) (y : Int) = ((x ||| y : Nat) : Int) := by
  unfold ior
  rw [u32_wrap]
  show (((BitVec.ofInt 32 (x : Int) ||| BitVec.ofInt 32 (y : Int)).toNat : Nat) : Int) % 4294967296 = _
  have h : x ||| y < 2 ^ 32 := Nat.or_lt_two_pow (by omega) (by omega)
  rw [BitVec.toNat_or, BitVec.ofInt_natCast, BitVec.ofInt_natCast, BitVec.toNat_ofNat, BitVec.toNat_ofNat, Nat.mod_eq_of_lt (by omega), Nat.mod_eq_of_lt (by omega)]
  omega
theorem ior64 (x y : Nat) (hx : x < 18446744073709551616) (hy : y < 18446744073709551616) : ior .u64 (x : Int) (y : Int) = ((x ||| y : Nat) : Int) := by
  unfold ior
  rw [u64_wrap]
  show (((BitVec.ofInt 64 (x : Int) ||| BitVec.ofInt 64 (y : Int)).toNat : Nat) : Int) % 18446744073709551616 = _
  have h : x ||| y < 2 ^ 64 := Nat.or_lt_two_pow (by omega) (by omega)
  rw [BitVec.toNat_or, BitVec.ofInt_natCast, BitVec.ofInt_natCast, BitVec.toNat_ofNat, BitVec.toNat_ofNat, Nat.mod_eq_of_lt (by omega), Nat.mod_eq_of_lt (by omega)]
  omega
theorem ishl32 (x k p : Nat) (hp : 2 ^ (min k 32) = p) (hx : x * p < 4294967296) : ishl .u32 (x : Int) (k : Int) = ((x * p : Nat) : Int) := by
  unfold ishl
  rw [u32_wrap]
  show ((x : Int) * 2 ^ (min ((k : Int).toNat) 32)) % 4294967296 = _
  have e : (2 : Int) ^ (min k 32) = ((p : Nat) : Int) := by rw [← hp]; simp
  rw [Int.toNat_natCast, e, ← Int.natCast_mul]
  omega
theorem ishl64 (x k p : Nat) (hp : 2 ^ (min k 64) = p) (hx : x * p < 18446744073709551616) : ishl .u64 (x : Int) (k : Int) = ((x * p : Nat) : Int) := by
  unfold ishl
  rw [u64_wrap]
  show ((x : Int) * 2 ^ (min ((k : Int).toNat) 64)) % 18446744073709551616 = _
  have e : (2 : Int) ^ (min k 64) = ((p : Nat) : Int) := by rw [← hp]; simp
  rw [Int.toNat_natCast, e, ← Int.natCast_mul]
  omega
theorem four (a b c d : Nat) (ha : a < 256) (hb : b < 256) (hc : c < 256) (hd : d < 256) :
    ior .u32 (ior .u32 (ior .u32 (ishl .u32 (IntKind.u32.wrap (a : Int)) 24) (ishl .u32 (IntKind.u32.wrap (b : Int)) 16)) (ishl .u32 (IntKind.u32.wrap (c : Int)) 8)) (IntKind.u32.wrap (d : Int))
      = IntKind.u32.wrap (ior IntKind.u64 (ishl IntKind.u64 (ior IntKind.u64 (ishl IntKind.u64 (ior IntKind.u64 (ishl IntKind.u64 (ior IntKind.u64 0 (IntKind.u64.wrap (a : Int))) 8) (IntKind.u64.wrap (b : Int))) 8) (IntKind.u64.wrap (c : Int))) 8) (IntKind.u64.wrap (d : Int))) := by
  have w32 : ∀ x : Nat, x < 256 → IntKind.u32.wrap (x : Int) = x := fun x h => by rw [u32_wrap]; omega
  have w64 : ∀ x : Nat, x < 256 → IntKind.u64.wrap (x : Int) = x := fun x h => by rw [u64_wrap]; omega
  rw [w32 a ha, w32 b hb, w32 c hc, w32 d hd, w64 a ha, w64 b hb, w64 c hc, w64 d hd]
  have e24 := ishl32 a 24 16777216 (by decide) (by omega)
  have e16 := ishl32 b 16 65536 (by decide) (by omega)
  have e8 := ishl32 c 8 256 (by decide) (by omega)
  rw [show ((24 : Nat) : Int) = 24 from rfl] at e24
  rw [show ((16 : Nat) : Int) = 16 from rfl] at e16
  rw [show ((8 : Nat) : Int) = 8 from rfl] at e8
  rw [e24, e16, e8, ior32 _ _ (by omega) (by omega), show a * 16777216 ||| b * 65536 = a * 16777216 + b * 65536 from or_add a (b * 65536) 24 (by omega)]
  rw [show a * 16777216 + b * 65536 = (a * 256 + b) * 2 ^ 16 by omega, ior32 _ _ (by omega) (by omega), or_add (a * 256 + b) (c * 256) 16 (by omega)]
  rw [show (a * 256 + b) * 2 ^ 16 + c * 256 = (a * 65536 + b * 256 + c) * 2 ^ 8 by omega, ior32 _ _ (by omega) (by omega), or_add (a * 65536 + b * 256 + c) d 8 (by omega)]
  have z := ior64 0 a (by omega) (by omega)
  rw [show ((0 : Nat) : Int) = 0 from rfl, Nat.zero_or] at z
  rw [z]
  have s8 : ∀ x : Nat, x < 16777216 → ishl .u64 (x : Int) 8 = ((x * 2 ^ 8 : Nat) : Int) := fun x h => ishl64 x 8 256 (by decide) (by omega)
  rw [s8 a (by omega), ior64 _ _ (by omega) (by omega), or_add a b 8 (by omega), s8 _ (by omega), ior64 _ _ (by omega) (by omega), or_add _ c 8 (by omega), s8 _ (by omega), ior64 _ _ (by omega) (by omega), or_add _ d 8 (by omega), u32_wrap]
  omega
theorem byt_eq {x : Int} (h0 : 0 ≤ x) (h1 : x < 4294967296) (k : Int) : byt x k = IntKind.u8.wrap (ishr .u64 x k) := by
  unfold byt; rw [u64_wrap]; congr 2; omega
theorem byt24 {x : Int} (h0 : 0 ≤ x) (h1 : x < 4294967296) : byt x 24 = IntKind.u8.wrap (ishr .u32 x 24) := by rw [byt_eq h0 h1]; rfl
theorem byt16 {x : Int} (h0 : 0 ≤ x) (h1 : x < 4294967296) : byt x 16 = IntKind.u8.wrap (ishr .u32 x 16) := by rw [byt_eq h0 h1]; rfl
theorem byt8 {x : Int} (h0 : 0 ≤ x) (h1 : x < 4294967296) : byt x 8 = IntKind.u8.wrap (ishr .u32 x 8) := by rw [byt_eq h0 h1]; rfl
theorem byt0 {x : Int} (h0 : 0 ≤ x) (h1 : x < 4294967296) : byt x 0 = IntKind.u8.wrap (ishr .u32 x 0) := by rw [byt_eq h0 h1]; rfl

end Go.Proofs.Ytncldppnmkbklaa
