/-
  What is told does not hang on how bytes are fed.
-/
import Derived.Test.YtfmcohbagbafmaaFramesN0
set_option linter.unusedVariables false
set_option linter.unusedSimpArgs false
open Go Go.Am
namespace Go.Proofs.Ytfmcohbagbafmaa

theorem toL_cat (a b : ByteArray) : toL (cat a b) = toL a ++ toL b := by simp [cat, toL, ofL]
theorem slen_cat (a b : ByteArray) : slen (cat a b) = slen a + slen b := by simp [slen, cat, toL, ofL]
theorem ext {a b : ByteArray} (h : toL a = toL b) : a = b := by rw [← ofL_toL a, ← ofL_toL b, h]
theorem cat_none (a : ByteArray) : cat a ⟨#[]⟩ = a := ext (by rw [toL_cat]; exact List.append_nil _)
theorem cat_assoc (a b c : ByteArray) : cat (cat a b) c = cat a (cat b c) := ext (by simp [toL_cat])
theorem chr_cat {s b : ByteArray} {i : Nat} (h : i < slen s) : chr (cat s b) i = chr s i := by
  unfold chr
  rw [toL_cat, List.getD_eq_getElem?_getD, List.getElem?_append_left h, ← List.getD_eq_getElem?_getD]
theorem sub_cat_tail {s b : ByteArray} {n : Nat} (h : n ≤ slen s) : sub (cat s b) n (slen (cat s b)) = cat (sub s n (slen s)) b := by
  apply ext
  rw [toL_cat, toL_sub, toL_sub, toL_cat, slen_cat, List.drop_append_of_le_length h, List.take_of_length_le (by rw [List.length_append, List.length_drop]; unfold slen at *; omega), List.take_of_length_le (by rw [List.length_drop]; unfold slen at *; omega)]
theorem sub_cat_head {s b : ByteArray} {n : Nat} (h : n ≤ slen s) : sub (cat s b) 0 n = sub s 0 n := by
  apply ext
  rw [toL_sub, toL_sub, toL_cat, List.drop_zero, List.drop_zero, Nat.sub_zero, List.take_append_of_le_length h]
theorem sub_self (s : ByteArray) : sub s 0 (slen s) = s := ext (by rw [toL_sub, List.drop_zero, List.take_of_length_le (by unfold slen; omega)])
theorem sub_end (s : ByteArray) : sub s (slen s) (slen s) = ⟨#[]⟩ := ext (by rw [toL_sub, Nat.sub_self]; rfl)

theorem wd_c (c : Int) : wd c = 0 ∨ wd c = 2 ∨ wd c = 8 := by
  unfold wd
  by_cases h1 : c % 128 = 126
  · rw [if_pos h1]; exact .inr (.inl rfl)
  · rw [if_neg h1]
    by_cases h2 : c % 128 = 127
    · rw [if_pos h2]; exact .inr (.inr rfl)
    · rw [if_neg h2]; exact .inl rfl
structure SameHead (s t : ByteArray) : Prop where
  ok : hOk t = true
  n : hN t = hN s
  len : hLen t = hLen s
  least : hLeast t = hLeast s
  mask : hMask t = hMask s
  k0 : hKey t 0 = hKey s 0
  k1 : hKey t 1 = hKey s 1
  k2 : hKey t 2 = hKey s 2
  k3 : hKey t 3 = hKey s 3
  c0 : chr t 0 = chr s 0
theorem ext_head {s : ByteArray} (b : ByteArray) (h : hOk s = true) : SameHead s (cat s b) := by
  have hle := hOk_le h
  have h2 : 2 ≤ slen s := by have := (hN_bd s).1; omega
  have c0 : chr (cat s b) 0 = chr s 0 := chr_cat (by omega)
  have c1 : chr (cat s b) 1 = chr s 1 := chr_cat (by omega)
  have hn : hN (cat s b) = hN s := by unfold hN; rw [c1]
  have hw : hN s = 2 + wd (chr s 1) + (if 128 ≤ chr s 1 then 4 else 0) := rfl
  have hk : ∀ j, j < 4 → hKey (cat s b) j = hKey s j := by
    intro j hj
    unfold hKey
    rw [c1]
    by_cases c : 128 ≤ chr s 1
    · rw [if_pos c, if_pos c]
      rw [if_pos c] at hw
      have := wd_c (chr s 1)
      exact chr_cat (by omega)
    · rw [if_neg c, if_neg c]
  have hif : (0 : Int) ≤ (if 128 ≤ chr s 1 then 4 else 0) := by split <;> omega
  have hl : hLen (cat s b) = hLen s ∧ hLeast (cat s b) = hLeast s := by
    unfold hLen hLeast
    rw [c1]
    by_cases d1 : chr s 1 % 128 = 126
    · have w : wd (chr s 1) = 2 := by unfold wd; rw [if_pos d1]
      have e : big2 (cat s b) = big2 s := by unfold big2; rw [chr_cat (by omega), chr_cat (by omega)]
      rw [if_pos d1, if_pos d1, if_pos d1, if_pos d1, e]; exact ⟨rfl, rfl⟩
    · by_cases d2 : chr s 1 % 128 = 127
      · have w : wd (chr s 1) = 8 := by unfold wd; rw [if_neg d1, if_pos d2]
        have e : big8 (cat s b) = big8 s := by
          unfold big8
          rw [chr_cat (by omega), chr_cat (by omega), chr_cat (by omega), chr_cat (by omega), chr_cat (by omega), chr_cat (by omega), chr_cat (by omega), chr_cat (by omega)]
        rw [if_neg d1, if_neg d1, if_neg d1, if_neg d1, if_pos d2, if_pos d2, if_pos d2, if_pos d2, e]
        exact ⟨rfl, rfl⟩
      · rw [if_neg d1, if_neg d1, if_neg d1, if_neg d1, if_neg d2, if_neg d2, if_neg d2, if_neg d2]
        exact ⟨rfl, rfl⟩
  refine ⟨?_, hn, hl.1, hl.2, by unfold hMask; rw [c1], hk 0 (by omega), hk 1 (by omega), hk 2 (by omega), hk 3 (by omega), c0⟩
  unfold hOk
  rw [hn, slen_cat, decide_eq_true (by omega), decide_eq_true (by omega)]
  rfl
/-- A reader that is fed. -/
def fd (x : RX) (b : ByteArray) : RX := if xSt x = 2 then x else xSet x (xSt x) (cat (xIn x) b) (xTold x)
theorem fd_2 {x : RX} {b : ByteArray} (h : xSt x = 2) : fd x b = x := by unfold fd; rw [if_pos h]
theorem fd_n {x : RX} {b : ByteArray} (h : xSt x ≠ 2) : fd x b = xSet x (xSt x) (cat (xIn x) b) (xTold x) := by unfold fd; rw [if_neg h]
theorem fd_nil (x : RX) : fd x ⟨#[]⟩ = x := by
  unfold fd
  split
  · rfl
  · rw [cat_none]; rfl
theorem fd_st (x : RX) (b : ByteArray) : xSt (fd x b) = xSt x := by unfold fd; split <;> rfl
theorem fd_inv {x : RX} {b : ByteArray} (h : Inv x) (hl : slen (xIn x) + slen b ≤ 1000000) : Inv (fd x b) := by
  unfold fd
  split
  · exact h
  · exact ⟨h.st, by show slen (cat (xIn x) b) ≤ _; rw [slen_cat]; exact hl⟩
theorem fd_fd (x : RX) (a b : ByteArray) : fd (fd x a) b = fd x (cat a b) := by
  by_cases h : xSt x = 2
  · rw [fd_2 h, fd_2 h, fd_2 h]
  · rw [fd_n h, fd_n (x := xSet x (xSt x) (cat (xIn x) a) (xTold x)) h, fd_n h]
    show xSet x (xSt x) (cat (cat (xIn x) a) b) (xTold x) = _
    rw [cat_assoc]
theorem addE_merge (l : List Ev) (a b : ByteArray) : addE (addE l ⟨2, 0, false, 0, a⟩) ⟨2, 0, false, 0, b⟩ = addE l ⟨2, 0, false, 0, cat a b⟩ := by
  rcases l.eq_nil_or_concat with rfl | ⟨l', p, rfl⟩
  · rfl
  · rw [List.concat_eq_append]
    have g : (l' ++ [p]).getLast? = some p := by simp
    have d : (l' ++ [p]).dropLast = l' := by simp
    have gl (q : Ev) (l : List Ev) : (l ++ [q]).getLast? = some q := by simp
    have dl (q : Ev) (l : List Ev) : (l ++ [q]).dropLast = l := by simp
    have ad (q : Ev) (l : List Ev) (e : Ev) (h1 : e.k = 2) (h2 : q.k = 2) : addE (l ++ [q]) e = l ++ [{ q with text := cat q.text e.text }] := by
      unfold addE; rw [gl]; dsimp only; rw [if_pos ⟨h1, h2⟩, dl]
    have an (q : Ev) (l : List Ev) (e : Ev) (h2 : q.k ≠ 2) : addE (l ++ [q]) e = l ++ [q] ++ [e] := by
      unfold addE; rw [gl]; dsimp only; rw [if_neg (fun h => h2 h.2)]
    by_cases hp : p.k = 2
    · rw [ad p l' ⟨2, 0, false, 0, a⟩ rfl hp, ad p l' ⟨2, 0, false, 0, cat a b⟩ rfl hp]
      dsimp only
      rw [ad { p with text := cat p.text a } l' ⟨2, 0, false, 0, b⟩ rfl hp]
      dsimp only
      rw [cat_assoc]
    · rw [an p l' ⟨2, 0, false, 0, a⟩ hp, an p l' ⟨2, 0, false, 0, cat a b⟩ hp, ad _ (l' ++ [p]) ⟨2, 0, false, 0, b⟩ rfl rfl]
/-- All that is told from a state on. -/
def tl (m : Bool) (x : RX) (l : List Ev) : List Ev × RX := tell m (mu x + 1) x l
theorem tell_fuel (m : Bool) : ∀ (n n' : Nat) (x : RX) (l : List Ev), Inv x → mu x < n → mu x < n' → tell m n x l = tell m n' x l
  | 0, _, x, l, _, h, _ => absurd h (Nat.not_lt_zero _)
  | n + 1, 0, x, l, _, _, h => absurd h (Nat.not_lt_zero _)
  | n + 1, n' + 1, x, l, hI, h, h' => by
    cases hok : rOk (stepT m x) with
    | false => rw [tell_no hok, tell_no hok]
    | true =>
      obtain ⟨hI', hmu⟩ := step_inv (m := m) hI hok
      rw [tell_ok hok, tell_ok hok]
      exact tell_fuel m n n' _ _ hI' (by omega) (by omega)
theorem tl_ok {m : Bool} {x : RX} {l : List Ev} (hI : Inv x) (h : rOk (stepT m x) = true) : tl m x l = tl m (rx (stepT m x)) (addE l (rEv (stepT m x))) := by
  obtain ⟨hI', hmu⟩ := step_inv (m := m) hI h
  unfold tl
  rw [tell_ok h]
  exact tell_fuel m _ _ _ _ hI' (by omega) (by omega)
theorem tl_no {m : Bool} {x : RX} {l : List Ev} (hI : Inv x) (h : rOk (stepT m x) = false) : tl m x l = (l, x) := by
  unfold tl
  rw [tell_no h, stepT_no hI h]
  rfl
theorem maskD_cat (k : List Int) (a : Int) (s t : ByteArray) (h : 0 ≤ a) : cat (maskD k a s) (maskD k (a + slen s) t) = maskD k a (cat s t) := by
  have app : ∀ (l m : List UInt8) (i : Nat), maskL k i (l ++ m) = maskL k i l ++ maskL k (i + l.length) m := by
    intro l
    induction l with
    | nil => intro m i; simp [maskL]
    | cons b r ih => intro m i; rw [List.cons_append, maskL, maskL, ih, List.cons_append, List.length_cons, show i + 1 + r.length = i + (r.length + 1) by omega]
  apply ext
  unfold maskD
  rw [decide_eq_false (show ¬ a < 0 by omega), decide_eq_false (show ¬ (a + (slen s : Int) < 0) by omega), cond_false, cond_false, cond_false, toL_cat, toL_ofL, toL_ofL, toL_ofL, toL_cat, app]
  rw [show (a + (slen s : Int)).toNat = a.toNat + (toL s).length by unfold slen; omega]
theorem tl_feed (m : Bool) (b : ByteArray) : ∀ (n : Nat) (x : RX) (l : List Ev), Inv x → mu x < n → slen (xIn x) + slen b ≤ 1000000 → tl m (fd x b) l = tl m (fd (tl m x l).2 b) (tl m x l).1
  | 0, x, l, _, h, _ => absurd h (Nat.not_lt_zero _)
  | n + 1, x, l, hI, hn, hl => by
    cases hok : rOk (stepT m x) with
    | false => rw [tl_no hI hok]
    | true =>
      obtain ⟨hI', hmu⟩ := step_inv (m := m) hI hok
      have hx := step_text hI hok
      rw [tl_ok hI hok]
      rw [← tl_feed m b n (rx (stepT m x)) (addE l (rEv (stepT m x))) hI' (by omega) (by omega)]
      have hIf := fd_inv (b := b) hI hl
      have hIf' := fd_inv (b := b) hI' (by omega)
      have same (e : stepT m (fd x b) = mkR (rEv (stepT m x)).k (rEv (stepT m x)).op (rEv (stepT m x)).fin (rEv (stepT m x)).len (rEv (stepT m x)).text true (fd (rx (stepT m x)) b)) :
          tl m (fd x b) l = tl m (fd (rx (stepT m x)) b) (addE l (rEv (stepT m x))) := by
        rw [tl_ok hIf (by rw [e]; rfl), e]
        rfl
      obtain ⟨h1, h2⟩ := hI
      rcases h1 with h1 | h1 | ⟨h1, t0, t1, t2⟩
      · rw [stepT_2 h1] at hok; cases hok
      · have hf : fd x b = xSet x 0 (cat (xIn x) b) (xTold x) := by rw [fd_n (by omega), h1]
        have hst := stepT_0 (m := m) h1
        have hst' := stepT_0 (m := m) (x := fd x b) (by rw [fd_st]; exact h1)
        have hin : xIn (fd x b) = cat (xIn x) b := by rw [hf]; rfl
        rw [hin] at hst'
        rw [hst] at hok
        cases ho : hOk (xIn x) with
        | false => rw [ho] at hok; cases hok
        | true =>
          obtain ⟨s1, s2, s3, s4, s5, s6, s7, s8, s9, s10⟩ := ext_head b ho
          have hm : mayS m (cat (xIn x) b) = mayS m (xIn x) := by unfold mayS; rw [s10, s5, s3, s4]
          rw [ho] at hst
          rw [s1, hm] at hst'
          cases hmm : mayS m (xIn x) with
          | false =>
            rw [hmm] at hst hst'
            have e1 : stepT m x = mkR 4 0 false 0 ⟨#[]⟩ true (xSet x 2 ⟨#[]⟩ (xTold x)) := hst
            have e2 : stepT m (fd x b) = mkR 4 0 false 0 ⟨#[]⟩ true (xSet (fd x b) 2 ⟨#[]⟩ (xTold (fd x b))) := hst'
            refine same ?_
            rw [e1, e2]
            have e3 : rx (mkR 4 0 false 0 ⟨#[]⟩ true (xSet x 2 ⟨#[]⟩ (xTold x))) = xSet x 2 ⟨#[]⟩ (xTold x) := rfl
            rw [e3, fd_2 (x := xSet x 2 ⟨#[]⟩ (xTold x)) rfl, hf]
            rfl
          | true =>
            rw [hmm] at hst hst'
            have e1 : stepT m x = mkR 1 (chr (xIn x) 0 % 16) (decide (128 ≤ chr (xIn x) 0)) (hLen (xIn x)) ⟨#[]⟩ true (xHead (xIn x)) := hst
            have e2 : stepT m (fd x b) = mkR 1 (chr (cat (xIn x) b) 0 % 16) (decide (128 ≤ chr (cat (xIn x) b) 0)) (hLen (cat (xIn x) b)) ⟨#[]⟩ true (xHead (cat (xIn x) b)) := hst'
            refine same ?_
            rw [e1, e2]
            have e3 : rx (mkR 1 (chr (xIn x) 0 % 16) (decide (128 ≤ chr (xIn x) 0)) (hLen (xIn x)) ⟨#[]⟩ true (xHead (xIn x))) = xHead (xIn x) := rfl
            have n3 := hOk_le ho
            have n1 := (hN_bd (xIn x)).1
            have e4 : xHead (cat (xIn x) b) = fd (xHead (xIn x)) b := by
              rw [fd_n (x := xHead (xIn x)) (by show (1 : Int) ≠ 2; decide)]
              unfold xHead
              rw [s2, s3, s4, s5, s6, s7, s8, s9, s10, sub_cat_tail (by omega)]
              rfl
            rw [e3, e4, s10, s3]
            rfl
      · have hne : xSt x ≠ 2 := by omega
        have hf : fd x b = xSet x 1 (cat (xIn x) b) (xTold x) := by rw [fd_n hne, h1]
        have f1 : xSt (fd x b) = 1 := by rw [fd_st]; exact h1
        have f2 : xHl (fd x b) = xHl x := by rw [hf]; rfl
        have f3 : xTold (fd x b) = xTold x := by rw [hf]; rfl
        have f4 : xIn (fd x b) = cat (xIn x) b := by rw [hf]; rfl
        have f5 : xKey (fd x b) = xKey x := by rw [hf]; rfl
        by_cases c1 : xHl x = xTold x
        · have e1 := stepT_e (m := m) h1 c1
          have e2 := stepT_e (m := m) f1 (by rw [f2, f3]; exact c1)
          refine same ?_
          rw [e1, e2, f4, f3]
          have e3 : rx (mkR 3 0 false 0 ⟨#[]⟩ true (xSet x 0 (xIn x) (xTold x))) = xSet x 0 (xIn x) (xTold x) := rfl
          rw [e3, fd_n (x := xSet x 0 (xIn x) (xTold x)) (by show (0 : Int) ≠ 2; decide), hf]
          rfl
        · by_cases c2 : slen (xIn x) = 0
          · rw [stepT_n h1 c1 c2] at hok; cases hok
          · have e1 := stepT_p (m := m) h1 c1 c2
            have e2 := stepT_p (m := m) f1 (by rw [f2, f3]; exact c1) (by rw [f4, slen_cat]; omega)
            rw [f3, f4, f5, f1] at e2
            have nf : nOf (fd x b) = min (slen (xIn x) + slen b) (xHl x - xTold x).toNat := by unfold nOf; rw [f2, f3, f4, slen_cat]
            have nx : nOf x = min (slen (xIn x)) (xHl x - xTold x).toNat := rfl
            rw [h1] at e1
            by_cases c3 : (xHl x - xTold x).toNat ≤ slen (xIn x)
            · -- all of the frame's data were there
              have hnn : nOf (fd x b) = nOf x := by omega
              have hle : nOf x ≤ slen (xIn x) := by omega
              refine same ?_
              rw [e1, e2, hnn, sub_cat_head hle, sub_cat_tail hle]
              have e3 : rx (mkR 2 0 false 0 (maskD (xKey x) (xTold x) (sub (xIn x) 0 (nOf x))) true (xSet x 1 (sub (xIn x) (nOf x) (slen (xIn x))) (xTold x + nOf x))) = xSet x 1 (sub (xIn x) (nOf x) (slen (xIn x))) (xTold x + nOf x) := rfl
              rw [e3, fd_n (x := xSet x 1 (sub (xIn x) (nOf x) (slen (xIn x))) (xTold x + nOf x)) (by show (1 : Int) ≠ 2; decide), hf]
              rfl
            · -- there are fewer: what is fed goes on with the piece
              by_cases c4 : slen b = 0
              · have hb : b = ⟨#[]⟩ := ext (toL_nil c4)
                subst hb
                rw [fd_nil, fd_nil]
                exact tl_ok ⟨.inr (.inr ⟨h1, t0, t1, t2⟩), h2⟩ hok
              · have hnx : nOf x = slen (xIn x) := by omega
                rw [hnx, sub_self, sub_end] at e1
                have e3 : rx (stepT m x) = xSet x 1 ⟨#[]⟩ (xTold x + slen (xIn x)) := by rw [e1]; rfl
                have e4 : rEv (stepT m x) = ⟨2, 0, false, 0, maskD (xKey x) (xTold x) (xIn x)⟩ := by rw [e1]; rfl
                rw [tl_ok hIf (by rw [e2]; rfl)]
                rw [e3, e4]
                rw [e3] at hIf' hI'
                have g0 : fd (xSet x 1 ⟨#[]⟩ (xTold x + slen (xIn x))) b = xSet x 1 b (xTold x + slen (xIn x)) := by
                  rw [fd_n (x := xSet x 1 ⟨#[]⟩ (xTold x + slen (xIn x))) (by show (1 : Int) ≠ 2; decide)]
                  show xSet x 1 (cat ⟨#[]⟩ b) (xTold x + slen (xIn x)) = _
                  rw [cat_nil]
                rw [g0] at hIf' ⊢
                have e5 := stepT_p (m := m) (x := xSet x 1 b (xTold x + slen (xIn x))) rfl (by show ¬ xHl x = xTold x + slen (xIn x); omega) c4
                have nn : nOf (xSet x 1 b (xTold x + slen (xIn x))) = nOf (fd x b) - slen (xIn x) := by
                  rw [nf]
                  show min (slen b) (xHl x - (xTold x + slen (xIn x))).toNat = _
                  omega
                rw [nn] at e5
                rw [tl_ok hIf' (by rw [e5]; rfl)]
                have hk : nOf (fd x b) - slen (xIn x) ≤ slen b := by omega
                have hge : slen (xIn x) ≤ nOf (fd x b) := by omega
                generalize nOf (fd x b) = N at *
                have r1 : rx (stepT m (fd x b)) = xSet x 1 (sub (cat (xIn x) b) N (slen (cat (xIn x) b))) (xTold x + N) := by rw [e2, hf]; rfl
                have r2 : rx (stepT m (xSet x 1 b (xTold x + slen (xIn x)))) = xSet x 1 (sub b (N - slen (xIn x)) (slen b)) (xTold x + slen (xIn x) + ((N - slen (xIn x) : Nat) : Int)) := by rw [e5]; rfl
                have v1 : rEv (stepT m (fd x b)) = ⟨2, 0, false, 0, maskD (xKey x) (xTold x) (sub (cat (xIn x) b) 0 N)⟩ := by rw [e2]; rfl
                have v2 : rEv (stepT m (xSet x 1 b (xTold x + slen (xIn x)))) = ⟨2, 0, false, 0, maskD (xKey x) (xTold x + slen (xIn x)) (sub b 0 (N - slen (xIn x)))⟩ := by rw [e5]; rfl
                rw [r1, r2, v1, v2, addE_merge, maskD_cat _ _ _ _ t0]
                have w1 : sub (cat (xIn x) b) N (slen (cat (xIn x) b)) = sub b (N - slen (xIn x)) (slen b) := by
                  apply ext
                  rw [toL_sub, toL_sub, toL_cat, slen_cat, List.drop_append, List.drop_of_length_le (show (toL (xIn x)).length ≤ N from hge), List.nil_append]
                  show List.take (slen (xIn x) + slen b - N) (List.drop (N - slen (xIn x)) (toL b)) = _
                  rw [show slen (xIn x) + slen b - N = slen b - (N - slen (xIn x)) by omega]
                have w2 : sub (cat (xIn x) b) 0 N = cat (xIn x) (sub b 0 (N - slen (xIn x))) := by
                  apply ext
                  rw [toL_sub, toL_cat, toL_cat, toL_sub, List.drop_zero, List.drop_zero, Nat.sub_zero, Nat.sub_zero, List.take_append, List.take_of_length_le (show (toL (xIn x)).length ≤ N from hge)]
                  rfl
                have w3 : xTold x + (slen (xIn x) : Int) + ((N - slen (xIn x) : Nat) : Int) = xTold x + N := by omega
                rw [w1, w2, w3]
end Go.Proofs.Ytfmcohbagbafmaa
