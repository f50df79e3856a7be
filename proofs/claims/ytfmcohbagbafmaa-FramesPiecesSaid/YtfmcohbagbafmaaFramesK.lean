/-
  What is told of bytes that are fed at once is the document's; contracts.
-/
import Derived.Test.YtfmcohbagbafmaaFramesJ0
set_option linter.unusedVariables false
set_option linter.unusedSimpArgs false
open Go Go.Am
namespace Go.Proofs.Ytfmcohbagbafmaa

theorem addE_n2 (l : List Ev) (e : Ev) (h : e.k ≠ 2) : addE l e = l ++ [e] := by
  unfold addE
  split
  · rw [if_neg (fun hh => h hh.1)]
  · rfl
theorem addE_b (l : List Ev) (b e : Ev) (h : b.k ≠ 2) : addE (l ++ [b]) e = l ++ [b] ++ [e] := by
  unfold addE
  rw [List.getLast?_append]
  simp [h]
theorem tell_ok {m : Bool} {N : Nat} {x : RX} {l : List Ev} (h : rOk (stepT m x) = true) : tell m (N + 1) x l = tell m N (rx (stepT m x)) (addE l (rEv (stepT m x))) := by
  rw [tell, h]; rfl
theorem tell_no {m : Bool} {N : Nat} {x : RX} {l : List Ev} (h : rOk (stepT m x) = false) : tell m (N + 1) x l = (l, rx (stepT m x)) := by
  rw [tell, h]; rfl
/-- What the walk ends with, beside the document's answer. -/
def Agrees (m : Bool) (a : List Ev × RX) (b : List Ev × Bool × Bool) : Prop :=
  a.1 = b.1 ∧ (b.2.1 = (xSt a.2 == 2)) ∧ (b.2.2 = ((xSt a.2 == 0) && (toL (xIn a.2) == []))) ∧ rOk (stepT m a.2) = false ∧ Inv a.2
theorem head_inv {m : Bool} {s : ByteArray} (ho : hOk s = true) (hmm : mayS m s = true) (hs : slen s ≤ 1000000) : Inv (xHead s) := by
  obtain ⟨b1, b2, b3⟩ := behind_len ho
  have n2 := hLen_bd s
  exact ⟨.inr (.inr ⟨rfl, Int.le_refl _, n2.1, mayS_len hmm⟩), by show slen (behind s) ≤ _; omega⟩
theorem toL_nil {s : ByteArray} (h : slen s = 0) : toL s = [] := List.length_eq_zero_iff.1 h
theorem tell_all (m : Bool) : ∀ (n : Nat) (s : ByteArray) (l : List Ev) (N : Nat) (x : RX), xSt x = 0 → xIn x = s → slen s < n → slen s ≤ 1000000 → mu x < N → Agrees m (tell m N x l) (allD m n s l)
  | 0, s, l, N, x, _, _, h, _, _ => absurd h (Nat.not_lt_zero _)
  | n + 1, s, l, N, x, h0, hi, hn, hs, hN => by
    obtain ⟨N, rfl⟩ : ∃ k, N = k + 1 := ⟨N - 1, by omega⟩
    have hI : Inv x := ⟨.inr (.inl h0), by rw [hi]; exact hs⟩
    have hst := stepT_0 (m := m) h0
    rw [hi] at hst
    rw [allD]
    cases ho : hOk s with
    | false =>
      rw [ho] at hst
      have hst : stepT m x = mkR 0 0 false 0 ⟨#[]⟩ false x := hst
      have hno : rOk (stepT m x) = false := by rw [hst]; rfl
      rw [tell_no hno, hst]
      refine ⟨rfl, ?_, ?_, ?_, hI⟩
      · show false = (xSt x == 2); rw [h0]; rfl
      · show (toL s == []) = ((xSt x == 0) && (toL (xIn x) == [])); rw [h0, hi]; rfl
      · show rOk (stepT m x) = false; exact hno
    | true =>
      obtain ⟨b1, b2, b3⟩ := behind_len ho
      have n2 := hLen_bd s
      rw [ho] at hst
      cases hmm : mayS m s with
      | false =>
        rw [hmm] at hst
        have hst : stepT m x = mkR 4 0 false 0 ⟨#[]⟩ true (xSet x 2 ⟨#[]⟩ (xTold x)) := hst
        have hok : rOk (stepT m x) = true := by rw [hst]; rfl
        rw [tell_ok hok]
        have he : rEv (stepT m x) = evFail := by rw [hst]; rfl
        have hx : rx (stepT m x) = xSet x 2 ⟨#[]⟩ (xTold x) := by rw [hst]; rfl
        rw [he, hx, addE_n2 _ _ (by decide)]
        have hno : stepT m (xSet x 2 ⟨#[]⟩ (xTold x)) = mkR 0 0 false 0 ⟨#[]⟩ false (xSet x 2 ⟨#[]⟩ (xTold x)) := stepT_2 rfl
        have hmu : 0 < N := by
          have : mu x = 3 * slen s := by unfold mu; rw [hi, if_neg (by omega)]; rfl
          omega
        obtain ⟨N, rfl⟩ : ∃ k, N = k + 1 := ⟨N - 1, by omega⟩
        rw [tell_no (by rw [hno]; rfl), hno]
        exact ⟨rfl, rfl, rfl, by show rOk (stepT m (xSet x 2 ⟨#[]⟩ (xTold x))) = false; rw [hno]; rfl, ⟨.inl rfl, by show 0 ≤ 1000000; omega⟩⟩
      | true =>
        have n4 := mayS_len hmm
        have hIh := head_inv ho hmm hs
        rw [hmm] at hst
        have hst : stepT m x = mkR 1 (chr (xIn x) 0 % 16) (decide (128 ≤ chr (xIn x) 0)) (hLen (xIn x)) ⟨#[]⟩ true (xHead (xIn x)) := by
          have := stepT_0 (m := m) h0
          rw [hi, ho, hmm] at this
          rw [hi]; exact this
        rw [hi] at hst
        have hok : rOk (stepT m x) = true := by rw [hst]; rfl
        rw [tell_ok hok]
        have he : rEv (stepT m x) = evBegin s := by rw [hst]; rfl
        have hx : rx (stepT m x) = xHead s := by rw [hst]; rfl
        rw [he, hx, addE_n2 _ _ (by show (1 : Int) ≠ 2; decide)]
        have hmu : mu (xHead s) < N := by
          have e1 : mu x = 3 * slen s := by unfold mu; rw [hi, if_neg (by omega)]; rfl
          have e2 : mu (xHead s) = 3 * slen (behind s) + 2 := by unfold mu; rfl
          omega
        obtain ⟨N, rfl⟩ : ∃ k, N = k + 1 := ⟨N - 1, by omega⟩
        have q1 : xSt (xHead s) = 1 := rfl
        have q2 : xHl (xHead s) = hLen s := rfl
        have q3 : xTold (xHead s) = 0 := rfl
        have q4 : xIn (xHead s) = behind s := rfl
        have q5 : nOf (xHead s) = kOfS s := by unfold nOf kOfS; rw [q2, q3, q4, Int.sub_zero]
        have hmux : mu (xHead s) = 3 * slen (behind s) + 2 := by unfold mu; rfl
        simp only [Bool.not_true, cond_false]
        by_cases c0 : hLen s = 0
        · -- an empty frame
          have hk : kOfS s = 0 := by unfold kOfS; omega
          have hev : evsOf s = [evBegin s] := by unfold evsOf; rw [if_pos hk]
          rw [hk, decide_eq_false (show ¬ (((0 : Nat) : Int) < hLen s) by omega), cond_false, hev]
          have hst2 := stepT_e (m := m) q1 (by rw [q2, q3]; exact c0)
          rw [tell_ok (by rw [hst2]; rfl), hst2]
          have he2 : rEv (mkR 3 0 false 0 ⟨#[]⟩ true (xSet (xHead s) 0 (xIn (xHead s)) (xTold (xHead s)))) = evEnd := rfl
          have hx2 : rx (mkR 3 0 false 0 ⟨#[]⟩ true (xSet (xHead s) 0 (xIn (xHead s)) (xTold (xHead s)))) = xSet (xHead s) 0 (behind s) 0 := rfl
          rw [he2, hx2, addE_n2 _ _ (by show (3 : Int) ≠ 2; decide)]
          have hb0 : sub (behind s) 0 (slen (behind s)) = behind s := by
            have : toL (sub (behind s) 0 (slen (behind s))) = toL (behind s) := by
              rw [toL_sub, List.drop_zero, List.take_of_length_le (by unfold slen; omega)]
            rw [← ofL_toL (sub (behind s) 0 (slen (behind s))), this, ofL_toL]
          rw [hb0]
          exact tell_all m n (behind s) _ N _ rfl rfl (by omega) (by omega) (by
            have : mu (xSet (xHead s) 0 (behind s) 0) = 3 * slen (behind s) + 0 := by unfold mu; rfl
            omega)
        · have c0' : ¬ xHl (xHead s) = xTold (xHead s) := by rw [q2, q3]; exact c0
          by_cases c1 : slen (behind s) = 0
          · -- nothing there
            have hk : kOfS s = 0 := by unfold kOfS; omega
            have hev : evsOf s = [evBegin s] := by unfold evsOf; rw [if_pos hk]
            rw [hk, decide_eq_true (show (((0 : Nat) : Int) < hLen s) by omega), cond_true, hev]
            have hst2 := stepT_n (m := m) q1 c0' (by rw [q4]; exact c1)
            rw [tell_no (by rw [hst2]; rfl), hst2]
            exact ⟨rfl, rfl, rfl, by show rOk (stepT m (xHead s)) = false; rw [hst2]; rfl, hIh⟩
          · -- a piece
            have hk : 0 < kOfS s := by unfold kOfS; omega
            have hk2 : kOfS s ≤ slen (behind s) := by unfold kOfS; omega
            have hk3 : (kOfS s : Int) ≤ hLen s := by unfold kOfS; omega
            have hev : evsOf s = [evBegin s, evPiece s] := by unfold evsOf; rw [if_neg (by omega)]
            have hst2 := stepT_p (m := m) q1 c0' (by rw [q4]; exact c1)
            rw [q5, q4, q3, q1] at hst2
            have hok2 : rOk (stepT m (xHead s)) = true := by rw [hst2]; rfl
            obtain ⟨hI2, hmu2⟩ := step_inv (m := m) hIh hok2
            rw [tell_ok hok2]
            have he2 : rEv (stepT m (xHead s)) = evPiece s := by rw [hst2]; rfl
            have hx2 : rx (stepT m (xHead s)) = xSet (xHead s) 1 (sub (behind s) (kOfS s) (slen (behind s))) (0 + kOfS s) := by rw [hst2]; rfl
            rw [hx2] at hI2 hmu2
            rw [he2, hx2, addE_b _ _ _ (by show (1 : Int) ≠ 2; decide), hev, show l ++ [evBegin s, evPiece s] = l ++ [evBegin s] ++ [evPiece s] by simp]
            generalize hy : xSet (xHead s) 1 (sub (behind s) (kOfS s) (slen (behind s))) (0 + kOfS s) = y at *
            have y1 : xSt y = 1 := by rw [← hy]; rfl
            have y2 : xHl y = hLen s := by rw [← hy]; rfl
            have y3 : xTold y = kOfS s := by rw [← hy]; show (0 : Int) + (kOfS s : Int) = _; omega
            have y4 : xIn y = sub (behind s) (kOfS s) (slen (behind s)) := by rw [← hy]; rfl
            have yl : slen (xIn y) = slen (behind s) - kOfS s := by rw [y4, slen_sub]; omega
            obtain ⟨N, rfl⟩ : ∃ k, N = k + 1 := ⟨N - 1, by omega⟩
            by_cases c2 : (kOfS s : Int) = hLen s
            · rw [decide_eq_false (show ¬ ((kOfS s : Int) < hLen s) by omega), cond_false]
              have hst3 := stepT_e (m := m) y1 (by rw [y2, y3]; exact c2.symm)
              rw [tell_ok (by rw [hst3]; rfl), hst3]
              have he3 : rEv (mkR 3 0 false 0 ⟨#[]⟩ true (xSet y 0 (xIn y) (xTold y))) = evEnd := rfl
              have hx3 : rx (mkR 3 0 false 0 ⟨#[]⟩ true (xSet y 0 (xIn y) (xTold y))) = xSet y 0 (xIn y) (xTold y) := rfl
              rw [he3, hx3, addE_n2 _ _ (by show (3 : Int) ≠ 2; decide)]
              refine tell_all m n (sub (behind s) (kOfS s) (slen (behind s))) _ N _ rfl ?_ (by rw [← y4, yl]; omega) (by rw [← y4, yl]; omega) ?_
              · show xIn y = _; exact y4
              · have e1 : mu (xSet y 0 (xIn y) (xTold y)) = 3 * slen (xIn y) + 0 := by unfold mu; rfl
                have e2 : mu y = 3 * slen (xIn y) + 2 := by unfold mu; rw [if_pos y1]
                omega
            · rw [decide_eq_true (show ((kOfS s : Int) < hLen s) by omega), cond_true]
              have hz : slen (xIn y) = 0 := by rw [yl]; unfold kOfS at c2 ⊢; omega
              have hst3 := stepT_n (m := m) y1 (by rw [y2, y3]; omega) hz
              rw [tell_no (by rw [hst3]; rfl), hst3]
              refine ⟨rfl, ?_, ?_, ?_, hI2⟩
              · show false = (xSt y == 2); rw [y1]; rfl
              · show false = ((xSt y == 0) && _); rw [y1]; rfl
              · show rOk (stepT m y) = false; rw [hst3]; rfl
end Go.Proofs.Ytfmcohbagbafmaa
