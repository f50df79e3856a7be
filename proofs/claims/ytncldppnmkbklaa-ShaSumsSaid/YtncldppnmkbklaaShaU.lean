/-
  The document's sum: the walk.
-/
import Derived.Test.YtncldppnmkbklaaAmSlim
import Derived.Test.YtncldppnmkbklaaShaT
import Derived.Test.YtncldppnmkbklaaShaS
set_option linter.unusedVariables false
set_option linter.unusedSimpArgs false
open Go Go.Am
namespace Go.Proofs.Ytncldppnmkbklaa

def vb (l : List UInt8) : List Value := l.map fun b => Value.int .u8 b.toNat
theorem vb_len (l : List UInt8) : (vb l).length = l.length := by simp [vb]
theorem vb_flat (l : List UInt8) : (vb l).all flat = true := by simp [vb, flat]
theorem vb_app (l : List UInt8) (b : UInt8) : vb l ++ [Value.int .u8 b.toNat] = vb (l ++ [b]) := by simp [vb]
theorem vb_get (l : List UInt8) (i : Nat) (h : i < l.length) : (vb l).getD i undef = Value.int .u8 ((l.getD i 0).toNat : Int) := by
  simp [vb, List.getD_eq_getElem?_getD, h]
theorem tk1 (A : List Value) (n : Nat) (h : A.length = n) : List.take (n * 1) (List.drop 0 A) = A := by
  rw [Nat.mul_one, List.drop_zero, List.take_of_length_le (Nat.le_of_eq h)]
theorem u8_wrap (x : Int) : IntKind.u8.wrap x = x % 256 := by simp [IntKind.wrap, IntKind.bits, IntKind.signed]
theorem u8v (z : Int) : Value.int .u8 (IntKind.u8.wrap z) = Value.int .u8 ((UInt8.ofNat (IntKind.u8.wrap z).toNat).toNat : Int) := by
  have h : 0 ≤ IntKind.u8.wrap z ∧ IntKind.u8.wrap z < 256 := by rw [u8_wrap]; omega
  congr 1
  rw [UInt8.toNat_ofNat']
  omega

section
variable (s : ByteArray)
theorem start (hs : slen s ≤ 20000) : Gets E2 0 (startC E2 7 [.string s] []) (rsum_h1 s (vb (toL s ++ [128])) (toL s ++ [128]).length) := by
  have w := rsum_w0_0 s
  have q0 := tk1 (ofBytes s) (slen s) (by simp [ofBytes, slen])
  rw [q0] at w
  have e : ofBytes s ++ [Value.int .u8 128] = vb (toL s ++ [128]) := vb_app (toL s) 128
  rw [e] at w
  have hl : (toL s ++ [(128 : UInt8)]).length = slen s + 1 := by simp [slen]
  rw [hl]
  exact w (vb_flat _) (by simp [ofBytes, slen]) (by omega) (by omega) (by omega)
theorem pad_run : ∀ (n : Nat) (l : List UInt8), n < 64 → (l.length + n) % 64 = 56 → l.length + n ≤ 30000 →
    Gets E2 0 (rsum_h1 s (vb l) l.length) (rsum_h1 s (vb (l ++ List.replicate n 0)) (l ++ List.replicate n 0).length)
  | 0, l, _, _, _ => by rw [List.replicate_zero, List.append_nil]; exact Gets.refl _
  | n + 1, l, h1, h2, h3 => by
    have w := rsum_w1_0 s (vb l) l.length
    rw [tk1 (vb l) _ (vb_len l), show vb l ++ [Value.int .u8 0] = vb (l ++ [0]) from vb_app l 0, vb_len] at w
    have w := w (vb_flat _) (by omega) (by omega) (by omega) (by
      have : ((l.length : Int).tmod 64) = ((l.length % 64 : Nat) : Int) := by rw [Int.tmod_eq_emod_of_nonneg (by omega)]; omega
      rw [this]
      simp
      omega)
    have ih := pad_run n (l ++ [0]) (by omega) (by rw [List.length_append]; show (l.length + 1 + n) % 64 = 56; omega) (by rw [List.length_append]; show l.length + 1 + n ≤ 30000; omega)
    rw [show l ++ [0] ++ List.replicate n 0 = l ++ List.replicate (n + 1) 0 by rw [List.append_assoc]; rfl] at ih
    have hl : (l ++ [0]).length = l.length + 1 := by simp
    rw [hl] at ih
    exact w.trans ih
theorem put_run (l : List UInt8) (h1 : l.length % 64 = 56) (h2 : l.length ≤ 30000) :
    Gets E2 0 (rsum_h1 s (vb l) l.length) (rsum_h2 s l.length (vb (l ++ toL (b8 (slen s)))) 1732584193 4023233417 2562383102 271733878 3285377520 0) := by
  have w := rsum_w1_1 s (vb l) l.length
  have hm : ((l.length : Int).tmod 64) = 56 := by rw [Int.tmod_eq_emod_of_nonneg (by omega)]; omega
  simp only [u8v, tk1 (vb l) _ (vb_len l), vb_app] at w
  have t : ∀ (A : List UInt8) (n : Nat), A.length = n → List.take (n * 1) (List.drop 0 (vb A)) = vb A := fun A n h => tk1 _ _ (by rw [vb_len]; exact h)
  simp only [t (l ++ [_]) (l.length + 1) (by simp), vb_app] at w
  simp only [t (l ++ [_] ++ [_]) (l.length + 1 + 1) (by simp), vb_app] at w
  simp only [t (l ++ [_] ++ [_] ++ [_]) (l.length + 1 + 1 + 1) (by simp), vb_app] at w
  simp only [t (l ++ [_] ++ [_] ++ [_] ++ [_]) (l.length + 1 + 1 + 1 + 1) (by simp), vb_app] at w
  simp only [t (l ++ [_] ++ [_] ++ [_] ++ [_] ++ [_]) (l.length + 1 + 1 + 1 + 1 + 1) (by simp), vb_app] at w
  simp only [t (l ++ [_] ++ [_] ++ [_] ++ [_] ++ [_] ++ [_]) (l.length + 1 + 1 + 1 + 1 + 1 + 1) (by simp), vb_app] at w
  simp only [t (l ++ [_] ++ [_] ++ [_] ++ [_] ++ [_] ++ [_] ++ [_]) (l.length + 1 + 1 + 1 + 1 + 1 + 1 + 1) (by simp), vb_app] at w
  have e : l ++ toL (b8 (slen s)) = l ++ [UInt8.ofNat (IntKind.u8.wrap (ishr IntKind.u64 (IntKind.u64.wrap (IntKind.u64.wrap (slen s : Int) * 8)) 56)).toNat] ++ [UInt8.ofNat (IntKind.u8.wrap (ishr IntKind.u64 (IntKind.u64.wrap (IntKind.u64.wrap (slen s : Int) * 8)) 48)).toNat] ++ [UInt8.ofNat (IntKind.u8.wrap (ishr IntKind.u64 (IntKind.u64.wrap (IntKind.u64.wrap (slen s : Int) * 8)) 40)).toNat] ++ [UInt8.ofNat (IntKind.u8.wrap (ishr IntKind.u64 (IntKind.u64.wrap (IntKind.u64.wrap (slen s : Int) * 8)) 32)).toNat] ++ [UInt8.ofNat (IntKind.u8.wrap (ishr IntKind.u64 (IntKind.u64.wrap (IntKind.u64.wrap (slen s : Int) * 8)) 24)).toNat] ++ [UInt8.ofNat (IntKind.u8.wrap (ishr IntKind.u64 (IntKind.u64.wrap (IntKind.u64.wrap (slen s : Int) * 8)) 16)).toNat] ++ [UInt8.ofNat (IntKind.u8.wrap (ishr IntKind.u64 (IntKind.u64.wrap (IntKind.u64.wrap (slen s : Int) * 8)) 8)).toNat] ++ [UInt8.ofNat (IntKind.u8.wrap (ishr IntKind.u64 (IntKind.u64.wrap (IntKind.u64.wrap (slen s : Int) * 8)) 0)).toNat] := by
    simp only [List.append_assoc]
    rfl
  rw [e]
  apply w
  all_goals first | omega | exact vb_flat _ | (simp only [vb_len, List.length_append, List.length_cons, List.length_nil]; omega) | (rw [hm]; rfl) | (simp only [hm]; rfl)

/-- The text from a place on. -/
def rest (L : List UInt8) (j : Nat) : ByteArray := ofL (L.drop (64 * j))
def blk (L : List UInt8) (j : Nat) : ByteArray := sub (rest L j) 0 64
theorem blk_len (L : List UInt8) (j : Nat) (h : 64 * j + 64 ≤ L.length) : slen (blk L j) = 64 := by
  unfold blk rest
  rw [slen_sub, slen_ofL, List.length_drop]; omega
theorem blk_chr (L : List UInt8) (j t i : Nat) (h : 64 * j + 64 ≤ L.length) (hi : i < 4) (ht : t < 16) : chr (sub (blk L j) (4 * t) 64) i = ((L.getD (64 * j + 4 * t + i) 0).toNat : Int) := by
  unfold chr blk rest
  rw [toL_sub, toL_sub, toL_ofL]
  simp only [List.getD_eq_getElem?_getD, List.getElem?_take, List.getElem?_drop]
  rw [if_pos (by omega), if_pos (by omega)]
  rw [show 64 * j + (0 + (4 * t + i)) = 64 * j + 4 * t + i by omega]
theorem u8_lt (b : UInt8) : b.toNat < 256 := b.toNat_lt
theorem words16 (L : List UInt8) (T j : Nat) (hT : L.length = T + 8) (hL : L.length ≤ 30000) (hj : 64 * j + 64 ≤ L.length) (x : S5) : ∀ n t : Nat, t + n = 16 →
    Gets E2 0 (rsum_h3 s T ((64 * j : Nat) : Int) (vb L) x.1 x.2.1 x.2.2.1 x.2.2.2.1 x.2.2.2.2 (vw (wl (blk L j) t)) t t)
      (rsum_h3 s T ((64 * j : Nat) : Int) (vb L) x.1 x.2.1 x.2.2.1 x.2.2.2.1 x.2.2.2.2 (vw (wl (blk L j) 16)) 16 16)
  | 0, t, ht => by
    obtain rfl : t = 16 := by omega
    exact Gets.refl _
  | n + 1, t, ht => by
    have w := rsum_w3_0 s T ((64 * j : Nat) : Int) (vb L) x.1 x.2.1 x.2.2.1 x.2.2.2.1 x.2.2.2.2 (vw (wl (blk L j) t)) t t
    have e4 : IntKind.i64.wrap (4 * (t : Int)) = ((4 * t : Nat) : Int) := by rw [wrap64_in (by omega) (by omega)]; omega
    have ek : ∀ k : Nat, k ≤ 30000 → IntKind.i64.wrap (((64 * j : Nat) : Int) + ((4 * t : Nat) : Int)) = ((64 * j + 4 * t : Nat) : Int) := fun k _ => by rw [wrap64_in (by omega) (by omega)]; omega
    have e0 := ek 0 (by omega)
    have e1 : IntKind.i64.wrap (((64 * j + 4 * t : Nat) : Int) + 1) = ((64 * j + 4 * t + 1 : Nat) : Int) := by rw [wrap64_in (by omega) (by omega)]; omega
    have e2 : IntKind.i64.wrap (((64 * j + 4 * t : Nat) : Int) + 2) = ((64 * j + 4 * t + 2 : Nat) : Int) := by rw [wrap64_in (by omega) (by omega)]; omega
    have e3 : IntKind.i64.wrap (((64 * j + 4 * t : Nat) : Int) + 3) = ((64 * j + 4 * t + 3 : Nat) : Int) := by rw [wrap64_in (by omega) (by omega)]; omega
    have et : IntKind.i64.wrap ((t : Int) + 1) = ((t + 1 : Nat) : Int) := by rw [wrap64_in (by omega) (by omega)]; omega
    have g : ∀ i, i < 4 → (vb L).getD (64 * j + 4 * t + i) undef = Value.int .u8 ((L.getD (64 * j + 4 * t + i) 0).toNat : Int) := fun i hi => vb_get L _ (by omega)
    have hlen : (vw (wl (blk L j) t)).length = t := by rw [vw_len, wl_len]
    have g0 := g 0 (by omega)
    have g1 := g 1 (by omega)
    have g2 := g 2 (by omega)
    have g3 := g 3 (by omega)
    rw [Nat.add_zero] at g0
    have hw : wl (blk L j) (t + 1) = wl (blk L j) t ++ [ior .u32 (ior .u32 (ior .u32 (ishl .u32 (IntKind.u32.wrap ((L.getD (64 * j + 4 * t) 0).toNat : Int)) 24) (ishl .u32 (IntKind.u32.wrap ((L.getD (64 * j + 4 * t + 1) 0).toNat : Int)) 16)) (ishl .u32 (IntKind.u32.wrap ((L.getD (64 * j + 4 * t + 2) 0).toNat : Int)) 8)) (IntKind.u32.wrap ((L.getD (64 * j + 4 * t + 3) 0).toNat : Int))] := by
      rw [wl, wnext, wl_len, show decide (t < 16) = true from decide_eq_true (by omega), cond_true, blk_len L j hj]
      rw [four _ _ _ _ (u8_lt _) (u8_lt _) (u8_lt _) (u8_lt _)]
      unfold g4
      have c0 := blk_chr L j t 0 hj (by omega) (by omega)
      rw [Nat.add_zero] at c0
      rw [c0, blk_chr L j t 1 hj (by omega) (by omega), blk_chr L j t 2 hj (by omega) (by omega), blk_chr L j t 3 hj (by omega) (by omega)]
    simp only [e4, e0, e1, e2, e3, et, Int.toNat_natCast, Nat.zero_add, Nat.mul_one] at w
    simp only [g0, g1, g2, g3, toInt, isInt_self, List.drop_zero, List.take_of_length_le (Nat.le_of_eq hlen), vb_flat, vb_len] at w
    have hv : vw (wl (blk L j) (t + 1)) = vw (wl (blk L j) t) ++ [V32 (ior .u32 (ior .u32 (ior .u32 (ishl .u32 (IntKind.u32.wrap ((L.getD (64 * j + 4 * t) 0).toNat : Int)) 24) (ishl .u32 (IntKind.u32.wrap ((L.getD (64 * j + 4 * t + 1) 0).toNat : Int)) 16)) (ishl .u32 (IntKind.u32.wrap ((L.getD (64 * j + 4 * t + 2) 0).toNat : Int)) 8)) (IntKind.u32.wrap ((L.getD (64 * j + 4 * t + 3) 0).toNat : Int)))] := by
      rw [hw]; simp [vw]
    rw [← hv] at w
    refine Gets.trans ?_ (words16 L T j hT hL hj x n (t + 1) (by omega))
    apply w
    all_goals first | omega | exact vw_flat _ | rfl | exact decide_eq_true (by omega) | simp

end
end Go.Proofs.Ytncldppnmkbklaa
