/-
  The document's sum: blocks, the contract.
-/
import Derived.Test.YtncldppnmkbklaaShaU
import Derived.Test.YtncldppnmkbklaaAmSlim
set_option linter.unusedVariables false
set_option linter.unusedSimpArgs false
open Go Go.Am
namespace Go.Proofs.Ytncldppnmkbklaa

section
variable (s : ByteArray)
theorem rpre (x n : Int) (h0 : 0 ≤ n) (h1 : n < 32) : rrotc_pre x n := ⟨h0, h1⟩
theorem words64 (L : List UInt8) (T j : Nat) (x : S5) : ∀ n t : Nat, t + n = 80 → 16 ≤ t →
    Gets E2 0 (rsum_h4 s T ((64 * j : Nat) : Int) t (vb L) x.1 x.2.1 x.2.2.1 x.2.2.2.1 x.2.2.2.2 (vw (wl (blk L j) t)) t)
      (rsum_h4 s T ((64 * j : Nat) : Int) 80 (vb L) x.1 x.2.1 x.2.2.1 x.2.2.2.1 x.2.2.2.2 (vw (wl (blk L j) 80)) 80)
  | 0, t, ht, _ => by
    obtain rfl : t = 80 := by omega
    exact Gets.refl _
  | n + 1, t, ht, h16 => by
    have w := rsum_w4_0 s T ((64 * j : Nat) : Int) t (vb L) x.1 x.2.1 x.2.2.1 x.2.2.2.1 x.2.2.2.2 (vw (wl (blk L j) t)) t
    have et : IntKind.i64.wrap ((t : Int) + 1) = ((t + 1 : Nat) : Int) := by rw [wrap64_in (by omega) (by omega)]; omega
    have ek : ∀ k : Nat, k ≤ 16 → IntKind.i64.wrap ((t : Int) - (k : Int)) = ((t - k : Nat) : Int) := fun k hk => by rw [wrap64_in (by omega) (by omega)]; omega
    have k3 := ek 3 (by omega)
    have k8 := ek 8 (by omega)
    have k14 := ek 14 (by omega)
    have k16 := ek 16 (by omega)
    rw [show ((3 : Nat) : Int) = 3 from rfl] at k3
    rw [show ((8 : Nat) : Int) = 8 from rfl] at k8
    rw [show ((14 : Nat) : Int) = 14 from rfl] at k14
    rw [show ((16 : Nat) : Int) = 16 from rfl] at k16
    have hlen : (vw (wl (blk L j) t)).length = t := by rw [vw_len, wl_len]
    have g : ∀ k : Nat, 0 < k → k ≤ 16 → (vw (wl (blk L j) t)).getD (t - k) undef = V32 ((wl (blk L j) t).getD (t - k) 0) := fun k h0 h1 => vw_get _ _ (by rw [wl_len]; omega)
    have g3 := g 3 (by omega) (by omega)
    have g8 := g 8 (by omega) (by omega)
    have g14 := g 14 (by omega) (by omega)
    have g16 := g 16 (by omega) (by omega)
    have hw : wl (blk L j) (t + 1) = wl (blk L j) t ++ [rot (ixor .u32 (ixor .u32 (ixor .u32 ((wl (blk L j) t).getD (t - 3) 0) ((wl (blk L j) t).getD (t - 8) 0)) ((wl (blk L j) t).getD (t - 14) 0)) ((wl (blk L j) t).getD (t - 16) 0)) 1] := by
      rw [wl, wnext, wl_len, show decide (t < 16) = false from decide_eq_false (by omega), cond_false]
    simp only [k3, k8, k14, k16, et, Int.toNat_natCast, Nat.zero_add, Nat.mul_one] at w
    simp only [g3, g8, g14, g16, V32, toInt, isInt_self, List.drop_zero, List.take_of_length_le (Nat.le_of_eq hlen), vb_flat, hlen] at w
    have hv : vw (wl (blk L j) (t + 1)) = vw (wl (blk L j) t) ++ [Value.int .u32 (rot (ixor .u32 (ixor .u32 (ixor .u32 ((wl (blk L j) t).getD (t - 3) 0) ((wl (blk L j) t).getD (t - 8) 0)) ((wl (blk L j) t).getD (t - 14) 0)) ((wl (blk L j) t).getD (t - 16) 0)) 1)] := by
      rw [hw]; simp [vw]
    rw [← hv] at w
    refine Gets.trans ?_ (words64 L T j x n (t + 1) (by omega) (by omega))
    apply w
    all_goals first | omega | exact vw_flat _ | exact rpre _ _ (by decide) (by decide) | rfl | exact decide_eq_true (by omega) | simp
theorem mf_lo {t : Int} (h : t < 20) (b c d : Int) : mf t b c d = ixor .u32 (iand .u32 b c) (iand .u32 (inot .u32 b) d) ∧ mk t b c d = 1518500249 := by
  unfold mf mk mixed_t0
  rw [decide_eq_true h]; exact ⟨rfl, rfl⟩
theorem mf_2 {t : Int} (h : ¬ t < 20) (h2 : t < 40) (b c d : Int) : mf t b c d = ixor .u32 (ixor .u32 b c) d ∧ mk t b c d = 1859775393 := by
  unfold mf mk mixed_t0
  rw [decide_eq_false h, decide_eq_true h2]; exact ⟨rfl, rfl⟩
theorem mf_3 {t : Int} (h : ¬ t < 40) (h2 : t < 60) (b c d : Int) : mf t b c d = ixor .u32 (ixor .u32 (iand .u32 b c) (iand .u32 b d)) (iand .u32 c d) ∧ mk t b c d = 2400959708 := by
  unfold mf mk mixed_t0
  rw [decide_eq_false (show ¬ t < 20 by omega), decide_eq_false h, decide_eq_true h2]; exact ⟨rfl, rfl⟩
theorem mf_4 {t : Int} (h : ¬ t < 60) (b c d : Int) : mf t b c d = ixor .u32 (ixor .u32 b c) d ∧ mk t b c d = 3395469782 := by
  unfold mf mk mixed_t0
  rw [decide_eq_false (show ¬ t < 20 by omega), decide_eq_false (show ¬ t < 40 by omega), decide_eq_false h]; exact ⟨rfl, rfl⟩
theorem rnd_run (L : List UInt8) (T j : Nat) (hj : 64 * j ≤ 30000) (x : S5) (Wl : List Int) (hWl : Wl.length = 80) : ∀ (n t : Nat) (y : S5), t + n = 80 → y = rounds Wl t x →
    Gets E2 0 (rsum_h5 s T ((64 * j : Nat) : Int) 80 y.1 y.2.1 y.2.2.1 y.2.2.2.1 y.2.2.2.2 (vb L) x.1 x.2.1 x.2.2.1 x.2.2.2.1 x.2.2.2.2 (vw Wl) t)
      (rsum_h2 s T (vb L) (sum5 x (rounds Wl 80 x)).1 (sum5 x (rounds Wl 80 x)).2.1 (sum5 x (rounds Wl 80 x)).2.2.1 (sum5 x (rounds Wl 80 x)).2.2.2.1 (sum5 x (rounds Wl 80 x)).2.2.2.2 ((64 * (j + 1) : Nat) : Int))
  | 0, t, y, ht, hy => by
    obtain rfl : t = 80 := by omega
    have w := rsum_w5_6 s T ((64 * j : Nat) : Int) 80 y.1 y.2.1 y.2.2.1 y.2.2.2.1 y.2.2.2.2 (vb L) x.1 x.2.1 x.2.2.1 x.2.2.2.1 x.2.2.2.2 (vw Wl) ((80 : Nat) : Int) (vb_flat _) (by decide)
    rw [show IntKind.i64.wrap (((64 * j : Nat) : Int) + 64) = ((64 * (j + 1) : Nat) : Int) by rw [wrap64_in (by omega) (by omega)]; omega] at w
    rw [← hy]
    exact w
  | n + 1, t, y, ht, hy => by
    have et : IntKind.i64.wrap ((t : Int) + 1) = ((t + 1 : Nat) : Int) := by rw [wrap64_in (by omega) (by omega)]; omega
    have hg : (vw Wl).getD t undef = V32 (Wl.getD t 0) := vw_get _ _ (by rw [hWl]; omega)
    have hlen : (vw Wl).length = 80 := by rw [vw_len, hWl]
    have ih := rnd_run L T j hj x Wl hWl n (t + 1) (step (Wl.getD t 0) t y) (by omega) (by rw [rounds, ← hy])
    refine Gets.trans ?_ ih
    have fl := vw_flat Wl
    by_cases c20 : (t : Int) < 20
    · have w := rsum_w5_0 s T ((64 * j : Nat) : Int) 80 y.1 y.2.1 y.2.2.1 y.2.2.2.1 y.2.2.2.2 (vb L) x.1 x.2.1 x.2.2.1 x.2.2.2.1 x.2.2.2.2 (vw Wl) t
      obtain ⟨m1, m2⟩ := mf_lo c20 y.2.1 y.2.2.1 y.2.2.2.1
      simp only [et, Int.toNat_natCast, Nat.zero_add, Nat.mul_one, hg, V32, toInt, isInt_self, hlen] at w
      unfold step
      rw [m1, m2]
      apply w
      all_goals first | omega | assumption | exact vb_flat _ | exact rpre _ _ (by decide) (by decide) | rfl | exact decide_eq_true (by omega) | exact decide_eq_false (by omega) | simp
    · by_cases c60 : (t : Int) < 60
      · by_cases c40 : 40 ≤ (t : Int)
        · have w := rsum_w5_1 s T ((64 * j : Nat) : Int) 80 y.1 y.2.1 y.2.2.1 y.2.2.2.1 y.2.2.2.2 (vb L) x.1 x.2.1 x.2.2.1 x.2.2.2.1 x.2.2.2.2 (vw Wl) t
          obtain ⟨m1, m2⟩ := mf_3 (show ¬ (t : Int) < 40 by omega) c60 y.2.1 y.2.2.1 y.2.2.2.1
          simp only [et, Int.toNat_natCast, Nat.zero_add, Nat.mul_one, hg, V32, toInt, isInt_self, hlen] at w
          unfold step
          rw [m1, m2]
          apply w
          all_goals first | omega | assumption | exact vb_flat _ | exact rpre _ _ (by decide) (by decide) | rfl | exact decide_eq_true (by omega) | exact decide_eq_false (by omega) | simp
        · have w := rsum_w5_5 s T ((64 * j : Nat) : Int) 80 y.1 y.2.1 y.2.2.1 y.2.2.2.1 y.2.2.2.2 (vb L) x.1 x.2.1 x.2.2.1 x.2.2.2.1 x.2.2.2.2 (vw Wl) t
          obtain ⟨m1, m2⟩ := mf_2 c20 (show (t : Int) < 40 by omega) y.2.1 y.2.2.1 y.2.2.2.1
          simp only [et, Int.toNat_natCast, Nat.zero_add, Nat.mul_one, hg, V32, toInt, isInt_self, hlen] at w
          unfold step
          rw [m1, m2]
          apply w
          all_goals first | omega | assumption | exact vb_flat _ | exact rpre _ _ (by decide) (by decide) | rfl | exact decide_eq_true (by omega) | exact decide_eq_false (by omega) | simp
      · have w := rsum_w5_2 s T ((64 * j : Nat) : Int) 80 y.1 y.2.1 y.2.2.1 y.2.2.2.1 y.2.2.2.2 (vb L) x.1 x.2.1 x.2.2.1 x.2.2.2.1 x.2.2.2.2 (vw Wl) t
        obtain ⟨m1, m2⟩ := mf_4 c60 y.2.1 y.2.2.1 y.2.2.2.1
        simp only [et, Int.toNat_natCast, Nat.zero_add, Nat.mul_one, hg, V32, toInt, isInt_self, hlen] at w
        unfold step
        rw [m1, m2]
        apply w
        all_goals first | omega | assumption | exact vb_flat _ | exact rpre _ _ (by decide) (by decide) | rfl | exact decide_eq_true (by omega) | exact decide_eq_false (by omega) | simp
/-- A word. -/
def W (x : Int) : Prop := 0 ≤ x ∧ x < 4294967296
def W5 (x : S5) : Prop := W x.1 ∧ W x.2.1 ∧ W x.2.2.1 ∧ W x.2.2.2.1 ∧ W x.2.2.2.2
theorem W_wrap (x : Int) : W (IntKind.u32.wrap x) := by unfold W; rw [u32_wrap]; omega
theorem W5_sum (a x : S5) : W5 (sum5 a x) := ⟨W_wrap _, W_wrap _, W_wrap _, W_wrap _, W_wrap _⟩
theorem out_eq {x : S5} (h : W5 x) : (Value.agg #[Value.int IntKind.u8 (IntKind.u8.wrap (ishr IntKind.u32 x.1 24)), Value.int IntKind.u8 (IntKind.u8.wrap (ishr IntKind.u32 x.1 16)), Value.int IntKind.u8 (IntKind.u8.wrap (ishr IntKind.u32 x.1 8)), Value.int IntKind.u8 (IntKind.u8.wrap (ishr IntKind.u32 x.1 0)), Value.int IntKind.u8 (IntKind.u8.wrap (ishr IntKind.u32 x.2.1 24)), Value.int IntKind.u8 (IntKind.u8.wrap (ishr IntKind.u32 x.2.1 16)), Value.int IntKind.u8 (IntKind.u8.wrap (ishr IntKind.u32 x.2.1 8)), Value.int IntKind.u8 (IntKind.u8.wrap (ishr IntKind.u32 x.2.1 0)), Value.int IntKind.u8 (IntKind.u8.wrap (ishr IntKind.u32 x.2.2.1 24)), Value.int IntKind.u8 (IntKind.u8.wrap (ishr IntKind.u32 x.2.2.1 16)), Value.int IntKind.u8 (IntKind.u8.wrap (ishr IntKind.u32 x.2.2.1 8)), Value.int IntKind.u8 (IntKind.u8.wrap (ishr IntKind.u32 x.2.2.1 0)), Value.int IntKind.u8 (IntKind.u8.wrap (ishr IntKind.u32 x.2.2.2.1 24)), Value.int IntKind.u8 (IntKind.u8.wrap (ishr IntKind.u32 x.2.2.2.1 16)), Value.int IntKind.u8 (IntKind.u8.wrap (ishr IntKind.u32 x.2.2.2.1 8)), Value.int IntKind.u8 (IntKind.u8.wrap (ishr IntKind.u32 x.2.2.2.1 0)), Value.int IntKind.u8 (IntKind.u8.wrap (ishr IntKind.u32 x.2.2.2.2 24)), Value.int IntKind.u8 (IntKind.u8.wrap (ishr IntKind.u32 x.2.2.2.2 16)), Value.int IntKind.u8 (IntKind.u8.wrap (ishr IntKind.u32 x.2.2.2.2 8)), Value.int IntKind.u8 (IntKind.u8.wrap (ishr IntKind.u32 x.2.2.2.2 0))]) = .agg ((outI x).map fun x => Value.int .u8 x).toArray := by
  obtain ⟨⟨a0, a1⟩, ⟨b0, b1⟩, ⟨c0, c1⟩, ⟨d0, d1⟩, e0, e1⟩ := h
  unfold outI
  rw [byt24 a0 a1, byt16 a0 a1, byt8 a0 a1, byt0 a0 a1, byt24 b0 b1, byt16 b0 b1, byt8 b0 b1, byt0 b0 b1, byt24 c0 c1, byt16 c0 c1, byt8 c0 c1, byt0 c0 c1, byt24 d0 d1, byt16 d0 d1, byt8 d0 d1, byt0 d0 d1, byt24 e0 e1, byt16 e0 e1, byt8 e0 e1, byt0 e0 e1]
  rfl
theorem rest_len (L : List UInt8) (j : Nat) : slen (rest L j) = L.length - 64 * j := by unfold rest; rw [slen_ofL, List.length_drop]
theorem rest_next (L : List UInt8) (j : Nat) : sub (rest L j) 64 (slen (rest L j)) = rest L (j + 1) := toL_inj (by
  rw [toL_sub, rest_len]
  unfold rest
  rw [toL_ofL, toL_ofL, List.drop_drop, List.take_of_length_le (by rw [List.length_drop]; omega)]
  rfl)
theorem blocks (L : List UInt8) (T : Nat) (hT : L.length = T + 8) (hL : L.length ≤ 30000) : ∀ (k j : Nat) (x : S5), L.length = 64 * (j + k) → W5 x →
    AEnds E2 7 0 (rsum_h2 s T (vb L) x.1 x.2.1 x.2.2.1 x.2.2.2.1 x.2.2.2.2 ((64 * j : Nat) : Int)) (.agg ((outI (ate x (rest L j)).1).map fun x => Value.int .u8 x).toArray) []
  | 0, j, x, hk, hx => by
    have w := rsum_w2_1 s T (vb L) x.1 x.2.1 x.2.2.1 x.2.2.2.1 x.2.2.2.2 ((64 * j : Nat) : Int) (decide_eq_false (by omega))
    rw [out_eq hx] at w
    have e : ate x (rest L j) = (x, rest L j) := eat_stop _ _ _ (by rw [rest_len]; omega)
    rw [e]
    exact w
  | k + 1, j, x, hk, hx => by
    have w2 := rsum_w2_0 s T (vb L) x.1 x.2.1 x.2.2.1 x.2.2.2.1 x.2.2.2.2 ((64 * j : Nat) : Int) (vb_flat _) (decide_eq_true (by omega))
    have w3 := words16 s L T j hT hL (by omega) x 16 0 (by omega)
    have w4 := rsum_w3_1 s T ((64 * j : Nat) : Int) (vb L) x.1 x.2.1 x.2.2.1 x.2.2.2.1 x.2.2.2.2 (vw (wl (blk L j) 16)) 16 16 (vb_flat _) (vw_flat _) (by decide)
    have w5 := words64 s L T j x 64 16 (by omega) (by omega)
    have w6 := rsum_w4_1 s T ((64 * j : Nat) : Int) 80 (vb L) x.1 x.2.1 x.2.2.1 x.2.2.2.1 x.2.2.2.2 (vw (wl (blk L j) 80)) 80 (vb_flat _) (vw_flat _) (by decide)
    have w7 := rnd_run s L T j (by omega) x (wl (blk L j) 80) (wl_len _ _) 80 0 x (by omega) (rounds_zero _ _)
    have ih := blocks L T hT hL k (j + 1) (sum5 x (rounds (wl (blk L j) 80) 80 x)) (by omega) (W5_sum _ _)
    have e : ate x (rest L j) = ate (sum5 x (rounds (wl (blk L j) 80) 80 x)) (rest L (j + 1)) := by
      unfold ate fuel
      rw [eat_step _ x _ (by rw [rest_len]; omega), rest_next, aF_eq]
      exact eat_more _ _ _ _ (by rw [rest_len, rest_len]; omega) (by omega)
    rw [e]
    exact w2.ends (w3.ends (w4.ends (w5.ends (w6.ends (w7.ends ih)))))
end

theorem padN {n : Nat} (h : n ≤ 20000) : (n + 1 + (padI ((n + 1) % 64)).toNat) % 64 = 56 ∧ (padI ((n + 1) % 64)).toNat < 64 := by
  have h0 := padI_lt (l := (n + 1) % 64) (by omega)
  rw [h0]
  split <;> omega
theorem toL_zer (n : Nat) : toL (zer n) = List.replicate n 0 := by
  unfold zer
  rw [toL_ofL]
  induction n with
  | zero => rfl
  | succ n ih => rw [Lib.repeatL, ih, List.replicate_succ]; first | rfl | (rw [← List.replicate_succ, List.replicate_succ']) 
theorem rsum_all (s : ByteArray) (hs : slen s ≤ 20000) : AEnds E2 7 0 (startC E2 7 [.string s] []) (.agg ((outI (sumP s)).map fun x => Value.int .u8 x).toArray) [] := by
  obtain ⟨p1, p2⟩ := padN hs
  have hl : (toL s ++ [(128 : UInt8)]).length = slen s + 1 := by simp [slen]
  have w1 := start s hs
  have w2 := pad_run s (padI ((slen s + 1) % 64)).toNat (toL s ++ [128]) p2 (by rw [hl]; exact p1) (by rw [hl]; omega)
  have hl2 : (toL s ++ [(128 : UInt8)] ++ List.replicate (padI ((slen s + 1) % 64)).toNat 0).length = slen s + 1 + (padI ((slen s + 1) % 64)).toNat := by rw [List.length_append, hl, List.length_replicate]
  have w3 := put_run s (toL s ++ [128] ++ List.replicate (padI ((slen s + 1) % 64)).toNat 0) (by rw [hl2]; exact p1) (by rw [hl2]; omega)
  have e : rest (toL s ++ [128] ++ List.replicate (padI ((slen s + 1) % 64)).toNat 0 ++ toL (b8 (slen s))) 0 = padded s := toL_inj (by
    unfold rest padded
    rw [toL_ofL, toL_cat, toL_cat, toL_cat, toL_zer]
    rfl)
  have hb : (toL (b8 (slen s))).length = 8 := b8_len _
  have w4 := blocks s (toL s ++ [128] ++ List.replicate (padI ((slen s + 1) % 64)).toNat 0 ++ toL (b8 (slen s))) (toL s ++ [(128 : UInt8)] ++ List.replicate (padI ((slen s + 1) % 64)).toNat 0).length (by rw [List.length_append, hb]) (by rw [List.length_append, hl2, hb]; omega) ((slen s + 1 + (padI ((slen s + 1) % 64)).toNat + 8) / 64) 0 firstF (by rw [List.length_append, hl2, hb]; omega) (by unfold W5 W firstF; decide)
  rw [e, ← sumP_ate s hs] at w4
  exact w1.ends (w2.ends (w3.ends w4))

end Go.Proofs.Ytncldppnmkbklaa
