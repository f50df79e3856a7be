/-
  A reader of frames: a step does not hang on what comes later.
-/
import Derived.Test.YtfpnjpbdaniomaaFramesF20
import Derived.Test.YtfpnjpbdaniomaaMessageE20
import Derived.Test.YtfpnjpbdaniomaaWsconnS
set_option linter.unusedVariables false
set_option linter.unusedSimpArgs false
open Go Go.Am
namespace Go.Proofs.Ytfpnjpbdaniomaa

theorem toL_cat (a b : ByteArray) : toL (cat a b) = toL a ++ toL b := by simp [cat, toL, ofL]
theorem bext {a b : ByteArray} (h : toL a = toL b) : a = b := by rw [← ofL_toL a, ← ofL_toL b, h]
theorem cat_none (a : ByteArray) : cat a ⟨#[]⟩ = a := bext (by rw [toL_cat]; exact List.append_nil _)
theorem cat_assoc (a b c : ByteArray) : cat (cat a b) c = cat a (cat b c) := bext (by simp [toL_cat])
theorem chr_cat {s b : ByteArray} {i : Nat} (h : i < slen s) : chr (cat s b) i = chr s i := by
 unfold chr
 rw [toL_cat, List.getD_eq_getElem?_getD, List.getElem?_append_left h, ← List.getD_eq_getElem?_getD]
theorem sub_cat_tail {s b : ByteArray} {n : Nat} (h : n ≤ slen s) : sub (cat s b) n (slen (cat s b)) = cat (sub s n (slen s)) b := by
 apply bext
 rw [toL_cat, toL_sub, toL_sub, toL_cat, slen_cat, List.drop_append_of_le_length h, List.take_of_length_le (by rw [List.length_append, List.length_drop]; unfold slen at *; omega), List.take_of_length_le (by rw [List.length_drop]; unfold slen at *; omega)]
theorem sub_cat_head {s b : ByteArray} {n : Nat} (h : n ≤ slen s) : sub (cat s b) 0 n = sub s 0 n := by
 apply bext
 rw [toL_sub, toL_sub, toL_cat, List.drop_zero, List.drop_zero, Nat.sub_zero, List.take_append_of_le_length h]
theorem sub_self (s : ByteArray) : sub s 0 (slen s) = s := bext (by rw [toL_sub, List.drop_zero, List.take_of_length_le (by unfold slen; omega)])
theorem sub_end (s : ByteArray) : sub s (slen s) (slen s) = ⟨#[]⟩ := bext (by rw [toL_sub, Nat.sub_self]; rfl)

theorem wd_c (c : Int) : wd c = 0 ∨ wd c = 2 ∨ wd c = 8 := by
 unfold wd
 by_cases h1 : c % 128 = 126
 ·rw [if_pos h1]; exact .inr (.inl rfl)
 ·rw [if_neg h1]
  by_cases h2 : c % 128 = 127
  ·rw [if_pos h2]; exact .inr (.inr rfl)
  ·rw [if_neg h2]; exact .inl rfl
structure SameHead (s t : ByteArray) : Prop where
 ok : hOk t = true
 n : hN t = hN s
 len : hLen t = hLen s
 least : hLeast t = hLeast s
 mask : hMask t = hMask s
 k0 : hKey t 0 = hKey s 0
 k1 : hKey t 1 = hKey s 1
 k2 : hKey t 2 = hKey s 2
 k3 : hKey t 3 = hKey s 3
 c0 : chr t 0 = chr s 0
theorem ext_head {s : ByteArray} (b : ByteArray) (h : hOk s = true) : SameHead s (cat s b) := by
 have hle := hOk_le h
 have h2 : 2 ≤ slen s := by have := (hN_bd s).1; omega
 have c0 : chr (cat s b) 0 = chr s 0 := chr_cat (by omega)
 have c1 : chr (cat s b) 1 = chr s 1 := chr_cat (by omega)
 have hn : hN (cat s b) = hN s := by unfold hN; rw [c1]
 have hw : hN s = 2 + wd (chr s 1) + (if 128 ≤ chr s 1 then 4 else 0) := rfl
 have hk : ∀ j, j < 4 → hKey (cat s b) j = hKey s j := by
  intro j hj
  unfold hKey
  rw [c1]
  by_cases c : 128 ≤ chr s 1
  ·rw [if_pos c, if_pos c]
   rw [if_pos c] at hw
   have := wd_c (chr s 1)
   exact chr_cat (by omega)
  ·rw [if_neg c, if_neg c]
 have hif : (0 : Int) ≤ (if 128 ≤ chr s 1 then 4 else 0) := by split <;> omega
 have hl : hLen (cat s b) = hLen s ∧ hLeast (cat s b) = hLeast s := by
  unfold hLen hLeast
  rw [c1]
  by_cases d1 : chr s 1 % 128 = 126
  ·have w : wd (chr s 1) = 2 := by unfold wd; rw [if_pos d1]
   have e : big2 (cat s b) = big2 s := by unfold big2; rw [chr_cat (by omega), chr_cat (by omega)]
   rw [if_pos d1, if_pos d1, if_pos d1, if_pos d1, e]; exact ⟨rfl, rfl⟩
  ·by_cases d2 : chr s 1 % 128 = 127
   ·have w : wd (chr s 1) = 8 := by unfold wd; rw [if_neg d1, if_pos d2]
    have e : big8 (cat s b) = big8 s := by
     unfold big8
     rw [chr_cat (by omega), chr_cat (by omega), chr_cat (by omega), chr_cat (by omega), chr_cat (by omega), chr_cat (by omega), chr_cat (by omega), chr_cat (by omega)]
    rw [if_neg d1, if_neg d1, if_neg d1, if_neg d1, if_pos d2, if_pos d2, if_pos d2, if_pos d2, e]
    exact ⟨rfl, rfl⟩
   ·rw [if_neg d1, if_neg d1, if_neg d1, if_neg d1, if_neg d2, if_neg d2, if_neg d2, if_neg d2]
    exact ⟨rfl, rfl⟩
 refine ⟨?_, hn, hl.1, hl.2, by unfold hMask; rw [c1], hk 0 (by omega), hk 1 (by omega), hk 2 (by omega), hk 3 (by omega), c0⟩
 unfold hOk
 rw [hn, slen_cat, decide_eq_true (by omega), decide_eq_true (by omega)]
 rfl
noncomputable def fd (x : RX) (b : ByteArray) : RX := if xSt x = 2 then x else xSet x (xSt x) (cat (xIn x) b) (xTold x)
theorem fd_2 {x : RX} {b : ByteArray} (h : xSt x = 2) : fd x b = x := by unfold fd; rw [if_pos h]
theorem fd_n {x : RX} {b : ByteArray} (h : xSt x ≠ 2) : fd x b = xSet x (xSt x) (cat (xIn x) b) (xTold x) := by unfold fd; rw [if_neg h]
theorem fd_nil (x : RX) : fd x ⟨#[]⟩ = x := by
 unfold fd
 split
 ·rfl
 ·rw [cat_none]; rfl
theorem fd_st (x : RX) (b : ByteArray) : xSt (fd x b) = xSt x := by unfold fd; split <;> rfl
theorem fd_fd (x : RX) (a b : ByteArray) : fd (fd x a) b = fd x (cat a b) := by
 by_cases h : xSt x = 2
 ·rw [fd_2 h, fd_2 h, fd_2 h]
 ·rw [fd_n h, fd_n (x := xSet x (xSt x) (cat (xIn x) a) (xTold x)) h, fd_n h]
  show xSet x (xSt x) (cat (cat (xIn x) a) b) (xTold x) = _
  rw [cat_assoc]
theorem cat_nil (a : ByteArray) : cat ⟨#[]⟩ a = a := bext (by rw [toL_cat]; rfl)
theorem toL_nil {s : ByteArray} (h : slen s = 0) : toL s = [] := List.length_eq_zero_iff.1 h
theorem maskD_cat (k : List Int) (a : Int) (s t : ByteArray) (h : 0 ≤ a) : cat (maskD k a s) (maskD k (a + slen s) t) = maskD k a (cat s t) := by
 have app : ∀ (l m : List UInt8) (i : Nat), maskL k i (l ++ m) = maskL k i l ++ maskL k (i + l.length) m := by
  intro l
  induction l with
  | nil => intro m i; simp [maskL]
  | cons b r ih => intro m i; rw [List.cons_append, maskL, maskL, ih, List.cons_append, List.length_cons, show i + 1 + r.length = i + (r.length + 1) by omega]
 apply bext
 unfold maskD
 rw [decide_eq_false (show ¬ a < 0 by omega), decide_eq_false (show ¬ (a + (slen s : Int) < 0) by omega), cond_false, cond_false, cond_false, toL_cat, toL_ofL, toL_ofL, toL_ofL, toL_cat, app]
 rw [show (a + (slen s : Int)).toNat = a.toNat + (toL s).length by unfold slen; omega]
theorem feedX_fd (x : RX) (s : ByteArray) : feedX x s = fd x s := by
 unfold feedX fd
 by_cases h : xSt x = 2
 ·rw [if_pos h]
  have : (x.1 != 2) = false := by have h : x.1 = 2 := h; simp [h]
  rw [this]; rfl
 ·rw [if_neg h]
  have : (x.1 != 2) = true := by have h : ¬ x.1 = 2 := h; simpa using h
  rw [this]; rfl
theorem evR_mk (k o : Int) (f : Bool) (l : Int) (t : ByteArray) (ok : Bool) (x : RX) : evR (mkR k o f l t ok x) = (k, o, f, l, t, ok) := rfl
theorem rx_mk (k o : Int) (f : Bool) (l : Int) (t : ByteArray) (ok : Bool) (x : RX) : rx (mkR k o f l t ok x) = x := rfl
theorem rOk_mk (k o : Int) (f : Bool) (l : Int) (t : ByteArray) (ok : Bool) (x : RX) : rOk (mkR k o f l t ok x) = ok := rfl
theorem xSet_set (x : RX) (a : Int) (i : ByteArray) (b a' : Int) (i' : ByteArray) (b' : Int) : xSet (xSet x a i b) a' i' b' = xSet x a' i' b' := rfl
theorem xIn_set (x : RX) (a : Int) (i : ByteArray) (b : Int) : xIn (xSet x a i b) = i := rfl
theorem xTold_set (x : RX) (a : Int) (i : ByteArray) (b : Int) : xTold (xSet x a i b) = b := rfl
theorem xSt_set (x : RX) (a : Int) (i : ByteArray) (b : Int) : xSt (xSet x a i b) = a := rfl
theorem xKey_set (x : RX) (a : Int) (i : ByteArray) (b : Int) : xKey (xSet x a i b) = xKey x := rfl
theorem fd_set {x : RX} {a : Int} {i : ByteArray} {c : Int} (b : ByteArray) (h : a ≠ 2) : fd (xSet x a i c) b = xSet x a (cat i b) c := fd_n (x := xSet x a i c) h
theorem xHead_cat {s : ByteArray} (b : ByteArray) (h : hOk s = true) : xHead (cat s b) = fd (xHead s) b := by
 obtain ⟨s1, s2, s3, s4, s5, s6, s7, s8, s9, s10⟩ := ext_head b h
 have n3 := hOk_le h
 have n1 := (hN_bd s).1
 rw [fd_n (x := xHead s) (by show (1 : Int) ≠ 2; decide)]
 unfold xHead
 rw [s2, s3, s4, s5, s6, s7, s8, s9, s10, sub_cat_tail (by omega)]
 rfl
theorem step_feed (b : ByteArray) {x : RX} (hI : Inv x) (hok : rOk (stepT true x) = true) :
  (rOk (stepT true (fd x b)) = true ∧ evR (stepT true (fd x b)) = evR (stepT true x) ∧ rx (stepT true (fd x b)) = fd (rx (stepT true x)) b) ∨
  (xSt x = 1 ∧ ∃ t1 t2, evR (stepT true x) = (2, 0, false, 0, t1, true) ∧ rOk (stepT true (fd (rx (stepT true x)) b)) = true ∧ evR (stepT true (fd (rx (stepT true x)) b)) = (2, 0, false, 0, t2, true) ∧
   rOk (stepT true (fd x b)) = true ∧ evR (stepT true (fd x b)) = (2, 0, false, 0, cat t1 t2, true) ∧ rx (stepT true (fd x b)) = rx (stepT true (fd (rx (stepT true x)) b)) ∧ (slen (cat t1 t2) : Int) ≤ xHl x - xTold x ∧ 0 < slen t1 ∧ 0 < slen t2) := by
 obtain ⟨h1, h2⟩ := hI
 rcases h1 with h1 | h1 | ⟨h1, t0, t1, t2⟩
 ·rw [stepT_2 h1] at hok; cases hok
 ·have hf : fd x b = xSet x 0 (cat (xIn x) b) (xTold x) := by rw [fd_n (by omega), h1]
  have hst := stepT_0 (m := true) h1
  have hst' := stepT_0 (m := true) (x := fd x b) (by rw [fd_st]; exact h1)
  have hin : xIn (fd x b) = cat (xIn x) b := by rw [hf]; rfl
  rw [hin] at hst'
  rw [hst] at hok
  cases ho : hOk (xIn x) with
  | false => rw [ho] at hok; cases hok
  | true =>
   obtain ⟨s1, s2, s3, s4, s5, s6, s7, s8, s9, s10⟩ := ext_head b ho
   have hm : mayS true (cat (xIn x) b) = mayS true (xIn x) := by unfold mayS; rw [s10, s5, s3, s4]
   rw [ho] at hst
   rw [s1, hm] at hst'
   cases hmm : mayS true (xIn x) with
   | false =>
    rw [hmm] at hst hst'
    have e1 : stepT true x = mkR 4 0 false 0 ⟨#[]⟩ true (xSet x 2 ⟨#[]⟩ (xTold x)) := hst
    have e2 : stepT true (fd x b) = mkR 4 0 false 0 ⟨#[]⟩ true (xSet (fd x b) 2 ⟨#[]⟩ (xTold (fd x b))) := hst'
    refine .inl ⟨by rw [e2, rOk_mk], by rw [e1, e2, evR_mk, evR_mk], ?_⟩
    rw [e1, e2]
    rw [rx_mk, rx_mk, fd_2 (xSt_set _ _ _ _), hf, xSet_set, xTold_set]
   | true =>
    rw [hmm] at hst hst'
    have e1 : stepT true x = mkR 1 (chr (xIn x) 0 % 16) (decide (128 ≤ chr (xIn x) 0)) (hLen (xIn x)) ⟨#[]⟩ true (xHead (xIn x)) := hst
    have e2 : stepT true (fd x b) = mkR 1 (chr (cat (xIn x) b) 0 % 16) (decide (128 ≤ chr (cat (xIn x) b) 0)) (hLen (cat (xIn x) b)) ⟨#[]⟩ true (xHead (cat (xIn x) b)) := hst'
    refine .inl ⟨by rw [e2, rOk_mk], by rw [e1, e2, s10, s3, evR_mk, evR_mk], ?_⟩
    rw [e1, e2, rx_mk, rx_mk]
    exact xHead_cat b ho
 ·have hne : xSt x ≠ 2 := by omega
  have hf : fd x b = xSet x 1 (cat (xIn x) b) (xTold x) := by rw [fd_n hne, h1]
  have f1 : xSt (fd x b) = 1 := by rw [fd_st]; exact h1
  have f2 : xHl (fd x b) = xHl x := by rw [hf]; rfl
  have f3 : xTold (fd x b) = xTold x := by rw [hf]; rfl
  have f4 : xIn (fd x b) = cat (xIn x) b := by rw [hf]; rfl
  have f5 : xKey (fd x b) = xKey x := by rw [hf]; rfl
  by_cases c1 : xHl x = xTold x
  ·have e1 := stepT_e (m := true) h1 c1
   have e2 := stepT_e (m := true) f1 (by rw [f2, f3]; exact c1)
   refine .inl ⟨by rw [e2, rOk_mk], by rw [e1, e2, evR_mk, evR_mk], ?_⟩
   rw [e1, e2, f4, f3, rx_mk, rx_mk, fd_set b (by decide), hf, xSet_set]
  ·by_cases c2 : slen (xIn x) = 0
   ·rw [stepT_n h1 c1 c2] at hok; cases hok
   ·have e1 := stepT_p (m := true) h1 c1 c2
    have e2 := stepT_p (m := true) f1 (by rw [f2, f3]; exact c1) (by rw [f4, slen_cat]; omega)
    rw [f3, f4, f5, f1] at e2
    have nf : nOf (fd x b) = min (slen (xIn x) + slen b) (xHl x - xTold x).toNat := by unfold nOf; rw [f2, f3, f4, slen_cat]
    have nx : nOf x = min (slen (xIn x)) (xHl x - xTold x).toNat := rfl
    rw [h1] at e1
    by_cases c3 : (xHl x - xTold x).toNat ≤ slen (xIn x) ∨ slen b = 0
    ·have hnn : nOf (fd x b) = nOf x := by omega
     have hle : nOf x ≤ slen (xIn x) := by omega
     refine .inl ⟨by rw [e2, rOk_mk], ?_, ?_⟩
     ·rw [e1, e2, hnn, sub_cat_head hle, evR_mk, evR_mk]
     ·rw [e1, e2, hnn, sub_cat_tail hle, rx_mk, rx_mk, fd_set b (by decide), hf, xSet_set]
    ·have c4 : ¬ slen b = 0 := by omega
     have hnx : nOf x = slen (xIn x) := by omega
     rw [hnx, sub_self, sub_end] at e1
     have e3 : rx (stepT true x) = xSet x 1 ⟨#[]⟩ (xTold x + slen (xIn x)) := by rw [e1, rx_mk]
     have g0 : fd (rx (stepT true x)) b = xSet x 1 b (xTold x + slen (xIn x)) := by
      rw [e3, fd_set b (by decide), cat_nil]
     rw [g0]
     have e5 := stepT_p (m := true) (x := xSet x 1 b (xTold x + slen (xIn x))) rfl (by show ¬ xHl x = xTold x + slen (xIn x); omega) c4
     have nn : nOf (xSet x 1 b (xTold x + slen (xIn x))) = nOf (fd x b) - slen (xIn x) := by
      rw [nf]
      show min (slen b) (xHl x - (xTold x + slen (xIn x))).toNat = _
      omega
     rw [nn, xIn_set, xTold_set, xSt_set, xKey_set, xSet_set] at e5
     have hk : nOf (fd x b) - slen (xIn x) ≤ slen b := by omega
     have hge : slen (xIn x) < nOf (fd x b) := by omega
     have hN : (nOf (fd x b) : Int) ≤ xHl x - xTold x := by omega
     generalize nOf (fd x b) = N at *
     have w2 : sub (cat (xIn x) b) 0 N = cat (xIn x) (sub b 0 (N - slen (xIn x))) := by
      apply bext
      rw [toL_sub, toL_cat, toL_cat, toL_sub, List.drop_zero, List.drop_zero, Nat.sub_zero, Nat.sub_zero, List.take_append, List.take_of_length_le (show (toL (xIn x)).length ≤ N from Nat.le_of_lt hge)]
      rfl
     have w1 : sub (cat (xIn x) b) N (slen (cat (xIn x) b)) = sub b (N - slen (xIn x)) (slen b) := by
      apply bext
      rw [toL_sub, toL_sub, toL_cat, slen_cat, List.drop_append, List.drop_of_length_le (show (toL (xIn x)).length ≤ N from Nat.le_of_lt hge), List.nil_append]
      show List.take (slen (xIn x) + slen b - N) (List.drop (N - slen (xIn x)) (toL b)) = _
      rw [show slen (xIn x) + slen b - N = slen b - (N - slen (xIn x)) by omega]
     have w3 : xTold x + (slen (xIn x) : Int) + ((N - slen (xIn x) : Nat) : Int) = xTold x + N := by omega
     have hsl : slen (sub b 0 (N - slen (xIn x))) = N - slen (xIn x) := by rw [slen_sub]; omega
     have hms : ∀ (k : List Int) (a : Int) (s : ByteArray), slen (maskD k a s) = slen s := by
      intro k a s
      unfold maskD
      cases decide (a < 0) with
      | true => rfl
      | false => simp only [cond_false]; rw [slen_ofL, maskL_len]; rfl
     refine .inr ⟨h1, maskD (xKey x) (xTold x) (xIn x), maskD (xKey x) (xTold x + slen (xIn x)) (sub b 0 (N - slen (xIn x))), by rw [e1, evR_mk], by rw [e5, rOk_mk], by rw [e5, evR_mk], by rw [e2, rOk_mk], ?_, ?_, ?_, ?_, ?_⟩
     ·rw [e2, w2, maskD_cat _ _ _ _ t0, evR_mk]
     ·have r1 : rx (stepT true (fd x b)) = xSet x 1 (sub (cat (xIn x) b) N (slen (cat (xIn x) b))) (xTold x + N) := by rw [e2, hf, rx_mk, xSet_set]
      have r2 : rx (stepT true (xSet x 1 b (xTold x + slen (xIn x)))) = xSet x 1 (sub b (N - slen (xIn x)) (slen b)) (xTold x + slen (xIn x) + ((N - slen (xIn x) : Nat) : Int)) := by rw [e5, rx_mk]
      rw [r1, r2, w1, w3]
     ·rw [slen_cat, hms, hms, hsl]; omega
     ·rw [hms]; omega
     ·rw [hms, hsl]; omega
end Go.Proofs.Ytfpnjpbdaniomaa

/-
  A connection, plain: what is told does not hang on how bytes are cut.
-/
set_option linter.unusedVariables false
set_option linter.unusedSimpArgs false
open Go Go.Am
namespace Go.Proofs.Ytfpnjpbdaniomaa

noncomputable def evs : Nat → CS → List EvT × CS
 | 0, c => ([], c)
 | n + 1, c => if c.st = 3 then ([], c) else if rOk (stepT true c.r) = false then ([], c) else
  ((takeR c (evR (stepT true c.r)) (rx (stepT true c.r))).1.toList ++ (evs n (takeR c (evR (stepT true c.r)) (rx (stepT true c.r))).2).1, (evs n (takeR c (evR (stepT true c.r)) (rx (stepT true c.r))).2).2)
noncomputable def tlc (c : CS) : List EvT × CS := evs (mu c.r + 1) c
noncomputable def fdC (c : CS) (b : ByteArray) : CS := if c.st = 3 then c else { c with r := fd c.r b }
theorem evs_fuel : ∀ (n n' : Nat) (c : CS), Inv c.r → mu c.r < n → mu c.r < n' → evs n c = evs n' c
 | 0, _, c, _, h, _ => absurd h (Nat.not_lt_zero _)
 | n + 1, 0, c, _, _, h => absurd h (Nat.not_lt_zero _)
 | n + 1, n' + 1, c, hI, h, h' => by
  unfold evs
  by_cases hs : c.st = 3
  ·rw [if_pos hs, if_pos hs]
  rw [if_neg hs, if_neg hs]
  cases ho : rOk (stepT true c.r) with
  | false => rw [if_pos rfl, if_pos rfl]
  | true =>
   rw [if_neg (by simp), if_neg (by simp)]
   obtain ⟨i1, i2⟩ := step_inv hI ho
   have hr := takeR_r c (evR (stepT true c.r)) (rx (stepT true c.r))
   rw [evs_fuel n n' _ (by rw [hr]; exact i1) (by rw [hr]; omega) (by rw [hr]; omega)]
theorem tlc_3 {c : CS} (h : c.st = 3) : tlc c = ([], c) := by unfold tlc evs; rw [if_pos h]
theorem tlc_dry {c : CS} (h : Dry c) : tlc c = ([], c) := by
 by_cases hs : c.st = 3
 ·exact tlc_3 hs
 rcases h with h | h
 ·exact absurd h hs
 ·unfold tlc evs; rw [if_neg hs, if_pos h]
theorem tlc_ok {c : CS} (hI : Inv c.r) (hs : ¬ c.st = 3) (ho : rOk (stepT true c.r) = true) :
  tlc c = ((takeR c (evR (stepT true c.r)) (rx (stepT true c.r))).1.toList ++ (tlc (takeR c (evR (stepT true c.r)) (rx (stepT true c.r))).2).1, (tlc (takeR c (evR (stepT true c.r)) (rx (stepT true c.r))).2).2) := by
 obtain ⟨i1, i2⟩ := step_inv hI ho
 have hr := takeR_r c (evR (stepT true c.r)) (rx (stepT true c.r))
 have e : tlc (takeR c (evR (stepT true c.r)) (rx (stepT true c.r))).2 = evs (mu c.r) (takeR c (evR (stepT true c.r)) (rx (stepT true c.r))).2 := evs_fuel _ _ _ (by rw [hr]; exact i1) (by omega) (by rw [hr]; omega)
 rw [e]
 show evs (mu c.r + 1) c = _
 rw [evs, if_neg hs, if_neg (by rw [ho]; simp)]
theorem next_tlc : ∀ (n : Nat) (c : CS), mu c.r < n → Inv c.r → tlc c = ((nextF n c).1.toList ++ (match (nextF n c).1 with | some _ => (tlc (nextF n c).2).1 | none => []), (match (nextF n c).1 with | some _ => (tlc (nextF n c).2).2 | none => (nextF n c).2))
 | 0, c, h, _ => absurd h (Nat.not_lt_zero _)
 | n + 1, c, h, hI => by
  unfold nextF
  by_cases hs : c.st = 3
  ·rw [if_pos hs, tlc_3 hs]; rfl
  rw [if_neg hs]
  cases ho : rOk (stepT true c.r) with
  | false => rw [if_pos rfl, tlc_dry (.inr ho)]; rfl
  | true =>
   rw [if_neg (by simp), tlc_ok hI hs ho]
   obtain ⟨i1, i2⟩ := step_inv hI ho
   have hr := takeR_r c (evR (stepT true c.r)) (rx (stepT true c.r))
   generalize takeR c (evR (stepT true c.r)) (rx (stepT true c.r)) = q at hr
   obtain ⟨e, c'⟩ := q
   have hr : c'.r = rx (stepT true c.r) := hr
   cases e with
   | some e => rfl
   | none =>
    have ih := next_tlc n c' (by rw [hr]; omega) (by rw [hr]; exact i1)
    show ([] ++ (tlc c').1, (tlc c').2) = _
    rw [List.nil_append]
    exact ih
theorem nextC_some {c c' : CS} {e : EvT} (hI : Inv c.r) (h : nextC c = (some e, c')) : tlc c = (e :: (tlc c').1, (tlc c').2) := by
 have w := next_tlc (mu c.r + 1) c (Nat.lt_succ_self _) hI
 have h : nextF (mu c.r + 1) c = (some e, c') := h
 rw [h] at w
 exact w
theorem nextC_none {c c' : CS} (hI : Inv c.r) (h : nextC c = (none, c')) : tlc c = ([], c') := by
 have w := next_tlc (mu c.r + 1) c (Nat.lt_succ_self _) hI
 have h : nextF (mu c.r + 1) c = (none, c') := h
 rw [h] at w
 exact w
/-! two pieces as one -/
theorem feedL_app : ∀ (l m : List UInt8) (q : Q) (a : Int) (b : Bool), feedL q a b (l ++ m) = feedL (feedL q a b l).1 (feedL q a b l).2.1 (feedL q a b l).2.2 m
 | [], m, q, a, b => rfl
 | x :: l, m, q, a, true => by
  rw [feedL_bad, feedL_bad]
  show (q, a, true) = feedL q a true m
  rw [feedL_bad]
 | x :: l, m, q, a, false => by
  have e1 : ∀ r, feedL q a false (x :: r) = feedL (sst q x.toNat).2 (bif (sst q x.toNat).1 then a + 1 else a) (!(sst q x.toNat).1) r := fun _ => rfl
  rw [List.cons_append, e1, e1]
  exact feedL_app l m _ _ _
theorem fedC_cat (c : JC) (t u : ByteArray) : fedC c (cat t u) = fedC (fedC c t) u := by
 unfold fedC
 rw [toL_cat]
 exact feedL_app _ _ _ _ _
theorem fedC_bad {c : JC} {u : ByteArray} (h : c.2.2 = true) : (fedC c u).2.2 = true := by
 unfold fedC
 rw [h, feedL_bad]
theorem catO_cat (o : Option ByteArray) (t u : ByteArray) : catO o (cat t u) = catO (some (catO o t)) u := by
 cases o with
 | none => rfl
 | some b => exact (cat_assoc _ _ _).symm
theorem piece_split {s : JS} {t u : ByteArray} (h : (slen (cat t u) : Int) ≤ s.lacks) (hm : s.lacks ≤ 9223372036854775807) :
  (¬ (pieceF s t).1 = 0 ∧ (pieceF s (cat t u)).1 = (pieceF s t).1) ∨
  ((pieceF s t).1 = 0 ∧ (pieceF s (cat t u)).1 = (pieceF (pieceF s t).2 u).1 ∧ ((pieceF s (cat t u)).1 = 0 → (pieceF s (cat t u)).2 = (pieceF (pieceF s t).2 u).2)) := by
 rw [slen_cat] at h
 have l1 : decide (s.lacks < (slen (cat t u) : Int)) = false := decide_eq_false (by rw [slen_cat]; omega)
 have l2 : decide (s.lacks < (slen t : Int)) = false := decide_eq_false (by omega)
 have w1 : IntKind.i64.wrap (s.lacks - (slen t : Int)) = s.lacks - slen t := wrap64_in (by omega) (by omega)
 have w2 : IntKind.i64.wrap (s.lacks - (slen (cat t u) : Int)) = s.lacks - slen t - slen u := by rw [wrap64_in (by rw [slen_cat]; omega) (by rw [slen_cat]; omega), slen_cat]; omega
 have w3 : IntKind.i64.wrap (s.lacks - (slen t : Int) - (slen u : Int)) = s.lacks - slen t - slen u := wrap64_in (by omega) (by omega)
 have l3 : decide (s.lacks - (slen t : Int) < (slen u : Int)) = false := decide_eq_false (by omega)
 cases ho : s.op == 1 with
 | false =>
  refine .inr ?_
  have e1 : pieceF s t = (0, { s with txt := some (catO s.txt t), lacks := s.lacks - slen t }) := by
   unfold pieceF; rw [l2, ho, w1]; rfl
  have e2 : pieceF s (cat t u) = (0, { s with txt := some (catO s.txt (cat t u)), lacks := s.lacks - slen t - slen u }) := by
   unfold pieceF; rw [l1, ho, w2]; rfl
  have e3 : pieceF { s with txt := some (catO s.txt t), lacks := s.lacks - slen t } u = (0, { s with txt := some (catO (some (catO s.txt t)) u), lacks := s.lacks - slen t - slen u }) := by
   unfold pieceF; dsimp only; rw [l3, ho, w3]; rfl
  rw [e1, e2]
  dsimp only
  rw [e3, catO_cat]
  exact ⟨rfl, rfl, fun _ => rfl⟩
 | true =>
  cases hb : (fedC (chkG s.chk) t).2.2 with
  | true =>
   refine .inl ?_
   have e1 : pieceF s t = (1007, { s with bad := 1007, chk := some (fedC (chkG s.chk) t) }) := by
    unfold pieceF; rw [l2, ho, hb]; rfl
   have hb2 : (fedC (chkG s.chk) (cat t u)).2.2 = true := by rw [fedC_cat]; exact fedC_bad hb
   have e2 : pieceF s (cat t u) = (1007, { s with bad := 1007, chk := some (fedC (chkG s.chk) (cat t u)) }) := by
    unfold pieceF; rw [l1, ho, hb2]; rfl
   rw [e1, e2]
   exact ⟨by show ¬ (1007 : Int) = 0; decide, rfl⟩
  | false =>
   refine .inr ?_
   have e1 : pieceF s t = (0, { s with chk := some (fedC (chkG s.chk) t), txt := some (catO s.txt t), lacks := s.lacks - slen t }) := by
    unfold pieceF; rw [l2, ho, hb, w1]; rfl
   cases hb2 : (fedC (fedC (chkG s.chk) t) u).2.2 with
   | true =>
    have hb3 : (fedC (chkG s.chk) (cat t u)).2.2 = true := by rw [fedC_cat]; exact hb2
    have e2 : pieceF s (cat t u) = (1007, { s with bad := 1007, chk := some (fedC (chkG s.chk) (cat t u)) }) := by
     unfold pieceF; rw [l1, ho, hb3]; rfl
    have e3 : (pieceF { s with chk := some (fedC (chkG s.chk) t), txt := some (catO s.txt t), lacks := s.lacks - slen t } u).1 = 1007 := by
     unfold pieceF
     have hc : chkG (some (fedC (chkG s.chk) t)) = fedC (chkG s.chk) t := rfl
     dsimp only
     rw [l3, ho, hc, hb2]
     rfl
    rw [e1, e2]
    dsimp only
    rw [e3]
    exact ⟨rfl, rfl, fun h => by cases h⟩
   | false =>
    have hb3 : (fedC (chkG s.chk) (cat t u)).2.2 = false := by rw [fedC_cat]; exact hb2
    have e2 : pieceF s (cat t u) = (0, { s with chk := some (fedC (chkG s.chk) (cat t u)), txt := some (catO s.txt (cat t u)), lacks := s.lacks - slen t - slen u }) := by
     unfold pieceF; rw [l1, ho, hb3, w2]; rfl
    have e3 : pieceF { s with chk := some (fedC (chkG s.chk) t), txt := some (catO s.txt t), lacks := s.lacks - slen t } u = (0, { s with chk := some (fedC (fedC (chkG s.chk) t) u), txt := some (catO (some (catO s.txt t)) u), lacks := s.lacks - slen t - slen u }) := by
     unfold pieceF
     have hc : chkG (some (fedC (chkG s.chk) t)) = fedC (chkG s.chk) t := rfl
     dsimp only
     rw [l3, ho, hc, hb2, w3]
     rfl
    rw [e1, e2]
    dsimp only
    rw [e3, catO_cat, fedC_cat]
    exact ⟨rfl, rfl, fun _ => rfl⟩
theorem takesF_setr (c : CS) (y : RX) (k o : Int) (f : Bool) (l : Int) (t : ByteArray) : takesF { c with r := y } k o f l t = ((takesF c k o f l t).1, { (takesF c k o f l t).2 with r := y }) := by
 unfold takesF
 dsimp only
 by_cases h1 : k = 4
 ·rw [if_pos h1, if_pos h1]
 rw [if_neg h1, if_neg h1]
 by_cases h2 : k = 1 ∧ 8 ≤ o
 ·rw [if_pos h2, if_pos h2]
 rw [if_neg h2, if_neg h2]
 by_cases h3 : ¬ c.ctl = 0
 ·rw [if_pos h3, if_pos h3]
  by_cases h4 : k = 2
  ·rw [if_pos h4, if_pos h4]
  rw [if_neg h4, if_neg h4]
  by_cases h5 : c.ctl = 8
  ·rw [if_pos h5, if_pos h5]
   by_cases h6 : ¬ (cdT c.data).2.2 = 0
   ·rw [if_pos h6, if_pos h6]
   ·rw [if_neg h6, if_neg h6]
  rw [if_neg h5, if_neg h5]
  by_cases h6 : c.ctl = 9 ∧ c.st = 1
  ·rw [if_pos h6, if_pos h6]
  ·rw [if_neg h6, if_neg h6]
 rw [if_neg h3, if_neg h3]
 by_cases h4 : ¬ c.st = 1
 ·rw [if_pos h4, if_pos h4]
 rw [if_neg h4, if_neg h4]
 by_cases h5 : k = 1
 ·rw [if_pos h5, if_pos h5]
  by_cases h6 : ¬ (beginF c.j f o l).1 = 0
  ·rw [if_pos h6, if_pos h6]
  ·rw [if_neg h6, if_neg h6]
 rw [if_neg h5, if_neg h5]
 by_cases h6 : k = 2
 ·rw [if_pos h6, if_pos h6]
  by_cases h7 : ¬ (pieceF c.j t).1 = 0
  ·rw [if_pos h7, if_pos h7]
  ·rw [if_neg h7, if_neg h7]
 rw [if_neg h6, if_neg h6]
 by_cases h7 : k = 3
 ·rw [if_pos h7, if_pos h7]
  by_cases h8 : ¬ (endF c.j).2.2.2.1 = 0
  ·rw [if_pos h8, if_pos h8]
  rw [if_neg h8, if_neg h8]
  by_cases h9 : (endF c.j).2.2.1 = true
  ·rw [if_pos h9, if_pos h9]
  ·rw [if_neg h9, if_neg h9]
 rw [if_neg h7, if_neg h7]
noncomputable def setR (c : CS) (y : RX) : CS := { c with r := y }
theorem setR_setR (c : CS) (x y : RX) : setR (setR c x) y = setR c y := rfl
theorem setR_st (c : CS) (y : RX) : (setR c y).st = c.st := rfl
theorem setR_r (c : CS) (y : RX) : (setR c y).r = y := rfl
theorem takesF_set (c : CS) (y : RX) (k o : Int) (f : Bool) (l : Int) (t : ByteArray) : takesF (setR c y) k o f l t = ((takesF c k o f l t).1, setR (takesF c k o f l t).2 y) := takesF_setr c y k o f l t
theorem takeR_eq (c : CS) (e : Int × Int × Bool × Int × ByteArray × Bool) (x : RX) : takeR c e x = ((takesF c e.1 e.2.1 e.2.2.1 e.2.2.2.1 e.2.2.2.2.1).1, setR (takesF c e.1 e.2.1 e.2.2.1 e.2.2.2.1 e.2.2.2.2.1).2 x) := takesF_setr c x _ _ _ _ _
theorem takeR_other (c : CS) (e : Int × Int × Bool × Int × ByteArray × Bool) (x y : RX) : takeR c e y = ((takeR c e x).1, setR (takeR c e x).2 y) := by
 rw [takeR_eq c e x, takeR_eq c e y]
 rfl
theorem take_split {c : CS} {t u : ByteArray} (hj : c.st = 1 → c.ctl = 0 → (slen (cat t u) : Int) ≤ c.j.lacks ∧ c.j.lacks ≤ 9223372036854775807) :
  ((takesF c 2 0 false 0 t).2.st = 3 ∧ (takesF c 2 0 false 0 (cat t u)).1 = (takesF c 2 0 false 0 t).1 ∧ (takesF c 2 0 false 0 (cat t u)).2.st = 3) ∨
  ((takesF c 2 0 false 0 t).1 = none ∧ (takesF c 2 0 false 0 t).2.st = c.st ∧ (takesF c 2 0 false 0 (cat t u)).1 = (takesF (takesF c 2 0 false 0 t).2 2 0 false 0 u).1 ∧
   ((takesF c 2 0 false 0 (cat t u)).2 = (takesF (takesF c 2 0 false 0 t).2 2 0 false 0 u).2 ∨ ((takesF c 2 0 false 0 (cat t u)).2.st = 3 ∧ (takesF (takesF c 2 0 false 0 t).2 2 0 false 0 u).2.st = 3))) := by
 have hT : ∀ (d : CS) (v : ByteArray), takesF d 2 0 false 0 v = if ¬ d.ctl = 0 then (none, { d with data := cat d.data v }) else if ¬ d.st = 1 then (none, d) else
   if ¬ (pieceF d.j v).1 = 0 then (some (4, 0, (pieceF d.j v).1, ⟨#[]⟩), { d with st := 3, j := (pieceF d.j v).2 }) else (none, { d with j := (pieceF d.j v).2 }) := by
  intro d v
  unfold takesF
  rw [if_neg (by decide), if_neg (by decide)]
  by_cases hc : d.ctl = 0
  ·have nc : ¬ ¬ d.ctl = 0 := fun h => h hc
   rw [if_neg nc, if_neg nc]
   by_cases h1 : d.st = 1
   ·have n1 : ¬ ¬ d.st = 1 := fun h => h h1
    rw [if_neg n1, if_neg n1, if_neg (show ¬ (2 : Int) = 1 by decide), if_pos rfl]
   ·rw [if_pos h1, if_pos h1]
  ·rw [if_pos hc, if_pos hc, if_pos rfl]
 by_cases hc : c.ctl = 0
 ·by_cases h1 : c.st = 1
  ·obtain ⟨hl, hm⟩ := hj h1 hc
   have e1 := hT c t
   have e2 := hT c (cat t u)
   rw [if_neg (by omega), if_neg (by omega)] at e1 e2
   rcases piece_split hl hm with ⟨p1, p2⟩ | ⟨p1, p2, p3⟩
   ·rw [if_pos p1] at e1
    rw [if_pos (by rw [p2]; exact p1)] at e2
    refine .inl ?_
    rw [e1, e2, p2]
    exact ⟨rfl, rfl, rfl⟩
   ·rw [if_neg (by omega)] at e1
    have e3 := hT { c with j := (pieceF c.j t).2 } u
    rw [if_neg (by show ¬ ¬ c.ctl = 0; omega), if_neg (by show ¬ ¬ c.st = 1; omega)] at e3
    refine .inr ?_
    rw [e1]
    dsimp only
    rw [e2, e3]
    dsimp only
    by_cases p4 : (pieceF c.j (cat t u)).1 = 0
    ·rw [if_neg (by omega), if_neg (by rw [← p2]; omega), p3 p4]
     exact ⟨rfl, rfl, rfl, .inl rfl⟩
    ·rw [if_pos p4, if_pos (by rw [← p2]; exact p4), p2]
     exact ⟨rfl, rfl, rfl, .inr ⟨rfl, rfl⟩⟩
  ·have e1 := hT c t
   have e2 := hT c (cat t u)
   have e3 := hT c u
   rw [if_neg (by omega), if_pos h1] at e1 e2 e3
   refine .inr ?_
   rw [e1]
   dsimp only
   rw [e2, e3]
   exact ⟨rfl, rfl, rfl, .inl rfl⟩
 ·have e1 := hT c t
  have e2 := hT c (cat t u)
  have e3 := hT { c with data := cat c.data t } u
  rw [if_pos hc] at e1 e2
  rw [if_pos (by exact hc)] at e3
  refine .inr ?_
  rw [e1]
  dsimp only
  rw [e2, e3]
  dsimp only
  rw [cat_assoc]
  exact ⟨rfl, rfl, rfl, .inl rfl⟩
/-! however bytes are cut -/
def Eq3 (p q : List EvT × CS) : Prop := p.1 = q.1 ∧ p.2.st = q.2.st ∧ (¬ p.2.st = 3 → p.2 = q.2)
theorem Eq3.refl (p : List EvT × CS) : Eq3 p p := ⟨rfl, rfl, fun _ => rfl⟩
theorem Eq3.trans {p q r : List EvT × CS} (h : Eq3 p q) (g : Eq3 q r) : Eq3 p r := ⟨h.1.trans g.1, h.2.1.trans g.2.1, fun hh => (h.2.2 hh).trans (g.2.2 (by rw [← h.2.1]; exact hh))⟩
theorem Eq3.pre {p q : List EvT × CS} (l : List EvT) (h : Eq3 p q) : Eq3 (l ++ p.1, p.2) (l ++ q.1, q.2) := ⟨by rw [h.1], h.2.1, h.2.2⟩
theorem fdC_3 {c : CS} {b : ByteArray} (h : c.st = 3) : fdC c b = c := by unfold fdC; rw [if_pos h]
theorem fdC_n {c : CS} {b : ByteArray} (h : ¬ c.st = 3) : fdC c b = setR c (fd c.r b) := by unfold fdC; rw [if_neg h]; rfl
theorem fdC_st (c : CS) (b : ByteArray) : (fdC c b).st = c.st := by unfold fdC; split <;> rfl
theorem fdC_fdC (c : CS) (a b : ByteArray) : fdC (fdC c a) b = fdC c (cat a b) := by
 by_cases h : c.st = 3
 ·rw [fdC_3 h, fdC_3 h, fdC_3 h]
 ·rw [fdC_n h, fdC_n h, fdC_n (c := setR c (fd c.r a)) h, setR_setR, setR_r, fd_fd]
theorem fdC_inv {B k : Nat} {c : CS} {s : ByteArray} (h : CW B c) (hs : slen s ≤ k) (hB : B + k ≤ 1000000) : CW (B + k) (fdC c s) := by
 have w := feedC_inv h hs hB
 rw [feedX_fd] at w
 unfold fdC
 split
 ·rename_i h3
  exact ⟨h.r, h.ctl, by have := h.dat; omega, fun hh => by rw [h3] at hh; cases hh⟩
 ·exact w
theorem tlc_3s {c : CS} (h : c.st = 3) (y : RX) : tlc (setR c y) = ([], setR c y) := tlc_3 h
theorem fdC_3s {c : CS} (h : c.st = 3) (y : RX) (b : ByteArray) : fdC (setR c y) b = setR c y := fdC_3 h
theorem tlc_feed (b : ByteArray) {B : Nat} (hB : B + slen b ≤ 1000000) : ∀ (n : Nat) (c : CS), mu c.r < n → CW B c → Eq3 (tlc (fdC c b)) ((tlc c).1 ++ (tlc (fdC (tlc c).2 b)).1, (tlc (fdC (tlc c).2 b)).2)
 | 0, c, h, _ => absurd h (Nat.not_lt_zero _)
 | n + 1, c, hm, h => by
  by_cases hs : c.st = 3
  ·rw [tlc_3 hs]; exact Eq3.refl _
  cases ho : rOk (stepT true c.r) with
  | false => rw [tlc_dry (.inr ho)]; exact Eq3.refl _
  | true =>
   have hi := takeR_inv h hs ho
   obtain ⟨i1, i2⟩ := step_inv h.r ho
   have hr := takeR_r c (evR (stepT true c.r)) (rx (stepT true c.r))
   have ih := tlc_feed b hB n _ (by rw [hr]; omega) hi
   rw [tlc_ok h.r hs ho]
   have hfin : Eq3 (tlc (fdC c b)) ((takeR c (evR (stepT true c.r)) (rx (stepT true c.r))).1.toList ++ (tlc (fdC (takeR c (evR (stepT true c.r)) (rx (stepT true c.r))).2 b)).1, (tlc (fdC (takeR c (evR (stepT true c.r)) (rx (stepT true c.r))).2 b)).2) := by
    have hsf : ¬ (fdC c b).st = 3 := by rw [fdC_st]; exact hs
    have hIf : Inv (fdC c b).r := (fdC_inv h (Nat.le_refl _) hB).r
    have hfr : (fdC c b).r = fd c.r b := by rw [fdC_n hs, setR_r]
    have hft : ∀ e z, takeR (fdC c b) e z = takeR c e z := by intro e z; rw [fdC_n hs]; rfl
    rcases step_feed b h.r ho with ⟨f1, f2, f3⟩ | ⟨f0, t1, t2, f1, f2, f3, f4, f5, f6, f7, f8, f9⟩
    ·rw [tlc_ok hIf hsf (by rw [hfr]; exact f1), hfr, f2, f3, hft, takeR_other c _ (rx (stepT true c.r)) (fd (rx (stepT true c.r)) b)]
     dsimp only
     refine Eq3.pre _ ?_
     generalize takeR c (evR (stepT true c.r)) (rx (stepT true c.r)) = q at hr
     by_cases h3 : q.2.st = 3
     ·rw [tlc_3 (c := setR q.2 (fd (rx (stepT true c.r)) b)) h3, fdC_3 h3, tlc_3 h3]
      exact ⟨rfl, rfl, fun hh => absurd h3 hh⟩
     ·rw [fdC_n h3, hr]
      exact Eq3.refl _
    ·rw [tlc_ok hIf hsf (by rw [hfr]; exact f4), hfr, f5, f6, hft, f1]
     have hj : c.st = 1 → c.ctl = 0 → (slen (cat t1 t2) : Int) ≤ c.j.lacks ∧ c.j.lacks ≤ 9223372036854775807 := by
      intro a1 a2
      have j := h.jl a1
      rw [j.lk (j.bg.2 ⟨f0, a2⟩)]
      refine ⟨f7, ?_⟩
      rcases h.r.st with g | g | g
      ·omega
      ·omega
      ·omega
     rw [f1] at hi
     rw [takeR_eq c (2, 0, false, 0, t1, true)] at hi ⊢
     rw [takeR_eq c (2, 0, false, 0, cat t1 t2, true)]
     dsimp only at hi ⊢
     rcases take_split hj with ⟨g1, g2, g3⟩ | ⟨g1, g2, g3, g4⟩
     ·rw [g2, tlc_3s g3, fdC_3s g1, tlc_3s g1]
      exact ⟨rfl, g3.trans g1.symm, fun hh => absurd g3 hh⟩
     ·have hs2 : ¬ (setR (takesF c 2 0 false 0 t1).2 (rx (stepT true c.r))).st = 3 := by
       rw [setR_st, g2]; exact hs
      have hI2 := (fdC_inv hi (Nat.le_refl _) hB).r
      have hr2 : (fdC (setR (takesF c 2 0 false 0 t1).2 (rx (stepT true c.r))) b).r = fd (rx (stepT true c.r)) b := by rw [fdC_n hs2, setR_r, setR_r]
      have hs3 : ¬ (fdC (setR (takesF c 2 0 false 0 t1).2 (rx (stepT true c.r))) b).st = 3 := by rw [fdC_st]; exact hs2
      rw [tlc_ok (c := fdC (setR (takesF c 2 0 false 0 t1).2 (rx (stepT true c.r))) b) hI2 hs3 (by rw [hr2]; exact f2), hr2, f3]
      have e3 : ∀ z, takeR (fdC (setR (takesF c 2 0 false 0 t1).2 (rx (stepT true c.r))) b) (2, 0, false, 0, t2, true) z = ((takesF (takesF c 2 0 false 0 t1).2 2 0 false 0 t2).1, setR (takesF (takesF c 2 0 false 0 t1).2 2 0 false 0 t2).2 z) := by
       intro z
       rw [fdC_n hs2, setR_setR]
       exact takeR_eq (takesF c 2 0 false 0 t1).2 (2, 0, false, 0, t2, true) z
      rw [e3, g1, g3]
      dsimp only [Option.toList_none]
      rw [List.nil_append]
      refine Eq3.pre _ ?_
      rcases g4 with g4 | ⟨g4, g5⟩
      ·rw [g4]; exact Eq3.refl _
      ·rw [tlc_3s g4, tlc_3s g5]
       exact ⟨rfl, g4.trans g5.symm, fun hh => absurd g4 hh⟩
   generalize takeR c (evR (stepT true c.r)) (rx (stepT true c.r)) = q at ih hfin
   refine hfin.trans ?_
   dsimp only
   rw [List.append_assoc]
   exact Eq3.pre _ ih
end Go.Proofs.Ytfpnjpbdaniomaa

/-
  A connection, plain: how many events there are, which one is the last; events in a row.
-/
set_option linter.unusedVariables false
set_option linter.unusedSimpArgs false
open Go Go.Am
namespace Go.Proofs.Ytfpnjpbdaniomaa

def Lst : List EvT → Bool → Prop
 | [], b => b = false
 | e :: r, b => (3 ≤ e.1 ∧ r = [] ∧ b = true) ∨ (e.1 < 3 ∧ Lst r b)
theorem Lst.at : ∀ {l : List EvT} {b : Bool}, Lst l b → ∀ (i : Nat) (e : EvT), l[i]? = some e → 3 ≤ e.1 → i + 1 = l.length
 | [], b, _, i, e, h, _ => by simp at h
 | x :: r, b, hl, i, e, h, he => by
  rcases hl with ⟨_, h2, _⟩ | ⟨h1, h2⟩
  ·subst h2
   cases i with
   | zero => rfl
   | succ i => simp at h
  ·cases i with
   | zero =>
    simp at h
    subst h
    omega
   | succ i =>
    have := Lst.at h2 i e (by simpa using h) he
    simp; omega
theorem Lst.last : ∀ {l : List EvT} {b : Bool}, Lst l b → 0 < l.length → ∃ e, l[l.length - 1]? = some e ∧ decide (3 ≤ e.1) = b
 | [], b, _, h => by simp at h
 | [x], b, hl, _ => by
  refine ⟨x, rfl, ?_⟩
  rcases hl with ⟨h1, _, h3⟩ | ⟨h1, h2⟩
  ·rw [h3]; exact decide_eq_true h1
  ·have h2 : b = false := h2
   rw [h2]; exact decide_eq_false (by omega)
 | x :: y :: r, b, hl, _ => by
  rcases hl with ⟨_, h2, _⟩ | ⟨h1, h2⟩
  ·cases h2
  ·obtain ⟨e, e1, e2⟩ := Lst.last h2 (by simp)
   exact ⟨e, by simpa using e1, e2⟩
/-! events in a row -/
noncomputable def evC (e : EvT) : List Value := [.int .i64 e.1, .int .i64 e.2.1, .int .i64 e.2.2.1, .string e.2.2.2]
noncomputable def evRow (l : List EvT) : List Value := (l.map evC).flatten
theorem evRow_len (l : List EvT) : (evRow l).length = l.length * 4 := by
 induction l with
 | nil => rfl
 | cons e l ih => 
  show (evC e ++ evRow l).length = _
  rw [List.length_append, ih]
  show 4 + l.length * 4 = (l.length + 1) * 4
  omega
theorem evRow_flat (l : List EvT) : (evRow l).all flat = true := by
 induction l with
 | nil => rfl
 | cons e l ih =>
  show (evC e ++ evRow l).all flat = true
  rw [List.all_append, ih]
  rfl
theorem evRow_snoc (l : List EvT) (e : EvT) : List.take (l.length * 4) (List.drop 0 (evRow l)) ++ evC e = evRow (l ++ [e]) := by
 rw [List.drop_zero, ← evRow_len, List.take_length]
 unfold evRow
 rw [List.map_append, List.flatten_append]
 simp
theorem evRow_get : ∀ (l : List EvT) (i : Nat) (e : EvT) (j : Nat), l[i]? = some e → j < 4 → (evRow l).getD (0 + i * 4 + j) undef = (evC e).getD j undef
 | [], i, e, j, h, _ => by simp at h
 | x :: l, 0, e, j, h, hj => by
  simp at h
  subst h
  show (evC x ++ evRow l).getD (0 + 0 * 4 + j) undef = _
  rw [show 0 + 0 * 4 + j = j by omega, List.getD_eq_getElem?_getD, List.getElem?_append_left (by show j < 4; exact hj), ← List.getD_eq_getElem?_getD]
 | x :: l, i + 1, e, j, h, hj => by
  show (evC x ++ evRow l).getD (0 + (i + 1) * 4 + j) undef = _
  have h4 : (evC x).length = 4 := rfl
  rw [List.getD_eq_getElem?_getD, List.getElem?_append_right (by rw [h4]; omega), h4, show 0 + (i + 1) * 4 + j - 4 = 0 + i * 4 + j by omega, ← List.getD_eq_getElem?_getD]
  exact evRow_get l i e j (by simpa using h) hj
theorem sub_all (s : ByteArray) : sub s 0 ((slen s : Int)).toNat = s := by rw [Int.toNat_natCast]; exact sub_self s
end Go.Proofs.Ytfpnjpbdaniomaa
