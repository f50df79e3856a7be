/-
  The statement MessageCuts: its loops go through.
-/
import Derived.Test.YtgaedhpeiamdfaaMessageI
import Derived.Test.YtgaedhpeiamdfaaMessageV
set_option linter.unusedVariables false
set_option linter.unusedSimpArgs false
open Go Go.Am
namespace Go.Proofs.Ytgaedhpeiamdfaa

set_option maxHeartbeats 2000000 in
theorem inner (T : List ByteArray) (B : List Bool) (n : Nat) (A : List Value) (lim : Int) (hlim : 0 ≤ lim ∧ lim ≤ 1000) (hn : n ≤ 60) (hA : A.length = n) (hAi : ∀ v ∈ A, isInt .i64 v = true) (hAf : A.all flat = true)
    (op : Int) (hop : op = 1 ∨ op = 2) (i : Int) (s : ByteArray) (hs : slen s ≤ 300) (hv : op = 1 → wholeD (0, 0, 0, 0) (toL s) = true) (sum nn : Nat) (h1 : sum + nn ≤ slen s) (last : Bool) (hlast : last = decide (sum + nn = slen s)) (c : Int) (at0 : Nat)
    (HW : last = true → ∀ (lk : Int) (at2 : Nat) (l lo hi x a2 : Int) (cb : Bool), at2 ≤ n → AEnds E 8 0 (cuts_h6 T B n A lim i 0 0 true lk at2 l lo hi x a2 cb) (.bool true) [])
    (H1 : last = false → ∀ (lk : Int) (at2 : Nat) (l lo hi x a2 : Int) (cb : Bool), at0 ≤ at2 → at2 ≤ n → sum + nn = 0 → CK op l lo hi x a2 cb (sub s 0 (sum + nn)) → AEnds E 8 0 (cuts_h7 T B n A lim op op c false lk at2 l lo hi x a2 cb i s ((sum + nn : Nat) : Int) false) (.bool true) [])
    (H2 : last = false → ∀ (lk : Int) (at2 : Nat) (l lo hi x a2 : Int) (cb : Bool), at0 ≤ at2 → at2 ≤ n → sum + nn = 0 → CK op l lo hi x a2 cb (sub s 0 (sum + nn)) → AEnds E 8 0 (cuts_h9 T B n A lim op i s op c false lk at2 l lo hi x a2 cb ((sum + nn : Nat) : Int) false) (.bool true) [])
    (H3 : last = false → ∀ (lk : Int) (at2 : Nat) (l lo hi x a2 : Int) (cb : Bool), at0 ≤ at2 → at2 ≤ n → 0 < sum + nn → CK op l lo hi x a2 cb (sub s 0 (sum + nn)) → AEnds E 8 0 (cuts_h11 T B n A lim op i s op c (sum + nn) false lk at2 (ofBytes (sub s 0 (sum + nn))) l lo hi x a2 cb ((sum + nn : Nat) : Int) false) (.bool true) []) :
    ∀ (m b0 a left : Nat), 2 * (n - b0) + min left 1 ≤ m → a + left = sum + nn → left ≤ nn → at0 ≤ b0 → b0 ≤ n →
    (a = 0 → ∀ (l lo hi x a2 : Int) (cb : Bool), CK op l lo hi x a2 cb (sub s 0 (a)) → AEnds E 8 0 (cuts_h3 T B n A lim op op c last left b0 l lo hi x a2 cb i s sum nn last left) (.bool true) []) ∧
    (a = 0 → ∀ (l lo hi x a2 : Int) (cb : Bool), CK op l lo hi x a2 cb (sub s 0 (a)) → AEnds E 8 0 (cuts_h4 T B n A lim op i s sum nn last op c last left b0 l lo hi x a2 cb left) (.bool true) []) ∧
    (0 < a → ∀ (l lo hi x a2 : Int) (cb : Bool), CK op l lo hi x a2 cb (sub s 0 (a)) → AEnds E 8 0 (cuts_h5 T B n A lim op i s sum nn last op c (a) last left b0 (ofBytes (sub s 0 (a))) l lo hi x a2 cb left) (.bool true) [])
  | m, b0, a, left, hm, hal, hln, hb0, hbn => by
    have e1 : IntKind.i64.wrap ((sum : Int) + (nn : Int)) = ((sum + nn : Nat) : Int) := by rw [wrap64_in (by omega) (by omega)]; omega
    have hw : wakes_S0 := trivial
    rcases Nat.eq_zero_or_pos left with h0 | h0
    · subst h0
      have hd0 : (decide (0 < ((0 : Nat) : Int))) = false := rfl
      have ha : a = sum + nn := by omega
      subst ha
      cases last with
      | true =>
        have hsl : sum + nn = slen s := of_decide_eq_true hlast.symm
        have hss : sub s 0 (sum + nn) = s := by rw [hsl]; exact sub_allV s
        have ho1 : (op == op) = true := by simp
        refine ⟨fun hz l lo hi x a2 cb hck => ?_, fun hz l lo hi x a2 cb hck => ?_, fun hz l lo hi x a2 cb hck => ?_⟩
        · rw [hss] at hck
          have hwh := hck.whole hv true
          have hse : s = ⟨#[]⟩ := nil_ofV s (by omega)
          have hmm : (!(op == op && ([] == toL s && true))) = false := by rw [hse]; simp [toL]
          refine Gets.ends ?_ (HW rfl ((0 : Nat) : Int) b0 l lo hi x a2 cb hbn)
          have w := cuts_w3_2 T B n A lim op op c true ((0 : Nat) : Int) b0 l lo hi x a2 cb i s sum nn true ((0 : Nat) : Int)
          apply w
          all_goals first | rfl | assumption | exact ⟨⟨hwh, rfl⟩, trivial⟩ | (simp; done)
        · rw [hss] at hck
          have hwh := hck.whole hv true
          have hse : s = ⟨#[]⟩ := nil_ofV s (by omega)
          have hmm : (!(op == op && ([] == toL s && true))) = false := by rw [hse]; simp [toL]
          refine Gets.ends ?_ (HW rfl ((0 : Nat) : Int) b0 l lo hi x a2 cb hbn)
          have w := cuts_w4_2 T B n A lim op i s sum nn true op c true ((0 : Nat) : Int) b0 l lo hi x a2 cb ((0 : Nat) : Int)
          apply w
          all_goals first | rfl | assumption | exact ⟨⟨hwh, rfl⟩, trivial⟩ | (simp; done)
        · rw [hss] at hck
          have hwh := hck.whole hv true
          have hmm : (!(op == op && (toL (bytesOf (ofBytes (sub s 0 (sum + nn)))) == toL s && true))) = false := by rw [hss, ob_back]; simp
          have hfl := ob_flat (sub s 0 (sum + nn))
          have hpe : e_pr3 lim 0 op c true true ((0 : Nat) : Int) (sum + nn) (ofBytes (sub s 0 (sum + nn))) l lo hi x a2 cb := ⟨⟨sub s 0 (sum + nn), by rw [slen_subV]; omega, rfl⟩, by omega, by omega⟩
          refine Gets.ends ?_ (HW rfl ((0 : Nat) : Int) b0 l lo hi x a2 cb hbn)
          have w := cuts_w5_1 T B n A lim op i s sum nn true op c (sum + nn) true ((0 : Nat) : Int) b0 (ofBytes (sub s 0 (sum + nn))) l lo hi x a2 cb ((0 : Nat) : Int)
          apply w
          all_goals first | rfl | assumption | exact ⟨⟨hwh, rfl⟩, trivial⟩ | exact ⟨⟨hwh, rfl⟩, hpe⟩ | (simp; done)
      | false =>
        have ho0 : ((op != 0) == false) = false := by rcases hop with rfl | rfl <;> rfl
        refine ⟨fun hz l lo hi x a2 cb hck => ?_, fun hz l lo hi x a2 cb hck => ?_, fun hz l lo hi x a2 cb hck => ?_⟩
        · have hec := ecodeM op l cb
          refine Gets.ends ?_ (H1 rfl ((0 : Nat) : Int) b0 l lo hi x a2 cb hb0 hbn hz hck)
          have w := cuts_w3_5 T B n A lim op op c false ((0 : Nat) : Int) b0 l lo hi x a2 cb i s sum nn false ((0 : Nat) : Int)
          rw [e1] at w
          apply w
          all_goals first | rfl | assumption | exact ⟨⟨hec, rfl⟩, trivial⟩ | (simp; done)
        · have hec := ecodeM op l cb
          refine Gets.ends ?_ (H2 rfl ((0 : Nat) : Int) b0 l lo hi x a2 cb hb0 hbn hz hck)
          have w := cuts_w4_5 T B n A lim op i s sum nn false op c false ((0 : Nat) : Int) b0 l lo hi x a2 cb ((0 : Nat) : Int)
          rw [e1] at w
          apply w
          all_goals first | rfl | assumption | exact ⟨⟨hec, rfl⟩, trivial⟩ | (simp; done)
        · have hec := ecodeM op l cb
          have hfl := ob_flat (sub s 0 (sum + nn))
          have hpe : e_pr3 lim 0 op c true false ((0 : Nat) : Int) (sum + nn) (ofBytes (sub s 0 (sum + nn))) l lo hi x a2 cb := ⟨⟨sub s 0 (sum + nn), by rw [slen_subV]; omega, rfl⟩, by omega, by omega⟩
          refine Gets.ends ?_ (H3 rfl ((0 : Nat) : Int) b0 l lo hi x a2 cb hb0 hbn hz hck)
          have w := cuts_w5_4 T B n A lim op i s sum nn false op c (sum + nn) false ((0 : Nat) : Int) b0 (ofBytes (sub s 0 (sum + nn))) l lo hi x a2 cb ((0 : Nat) : Int)
          rw [e1] at w
          apply w
          all_goals first | rfl | assumption | exact ⟨⟨hec, rfl⟩, trivial⟩ | exact ⟨⟨hec, rfl⟩, hpe⟩ | (simp; done)
    · cases m with
      | zero => omega
      | succ m =>
      obtain ⟨k, b, er, hk1, hk2, hk3, hk4⟩ := next_val left b0 n A (by omega) hbn hn
      have hns := next_safe left b0 n A (by omega) hbn hn hA hAi hAf
      have ih := inner T B n A lim hlim hn hA hAi hAf op hop i s hs hv sum nn h1 last hlast c at0 HW H1 H2 H3 m b (a + k) (left - k) (by
        by_cases hbb : b = b0
        · have := hk4 hbb
          omega
        · omega) (by omega) (by omega) (by omega) hk3
      have hdl : (decide (0 < (left : Int))) = true := decide_eq_true (by omega)
      have e2 : IntKind.i64.wrap (((sum + nn : Nat) : Int) - (left : Int)) = (a : Int) := by rw [wrap64_in (by omega) (by omega)]; omega
      have e3 : IntKind.i64.wrap ((a : Int) + (k : Int)) = ((a + k : Nat) : Int) := by rw [wrap64_in (by omega) (by omega)]; omega
      have lX : slen (sub s a (a + k)) = k := by rw [slen_subV]; omega
      have e5 : IntKind.i64.wrap ((left : Int) - (k : Int)) = ((left - k : Nat) : Int) := by rw [wrap64_in (by omega) (by omega)]; omega
      have hcat : ofBytes (sub s 0 a) ++ ofBytes (sub s a (a + k)) = ofBytes (sub s 0 (a + k)) := by rw [ob_cat, cat_subV s (by omega)]
      have hpc : (pcode 0 (left : Int) true (sub s a (a + k)) == 0) = true := by
        unfold pcode
        rw [lX, decide_eq_false (show ¬ (left : Int) < (k : Int) by omega)]
        rfl
      have hsa : a + k ≤ slen s := by omega
      refine ⟨fun hz l lo hi x a2 cb hck => ?_, fun hz l lo hi x a2 cb hck => ?_, fun hz l lo hi x a2 cb hck => ?_⟩
      · obtain ⟨hc2, hfd⟩ := hck.piece hv hs (a := a) (b := a + k) (by omega) hsa
        have hat := hck.1
        have hpp : p_pr1 lim 0 op c true last left l lo hi x a2 cb (sub s a (a + k)) := ⟨by omega, by omega, by omega⟩
        rcases Nat.eq_zero_or_pos k with hk0 | hk0
        · have hz0 : (decide (slen (sub s a (a + k)) = 0)) = true := decide_eq_true (by omega)
          have hz1 : (decide (k = 0)) = true := decide_eq_true hk0
          refine Gets.ends ?_ (ih.2.1 (by omega) (fedP op l lo hi x a2 cb (sub s a (a + k))).1.1 (fedP op l lo hi x a2 cb (sub s a (a + k))).1.2.1 (fedP op l lo hi x a2 cb (sub s a (a + k))).1.2.2.1 (fedP op l lo hi x a2 cb (sub s a (a + k))).1.2.2.2 (fedP op l lo hi x a2 cb (sub s a (a + k))).2.1 (fedP op l lo hi x a2 cb (sub s a (a + k))).2.2 hc2)
          have w := cuts_w3_0 T B n A lim op op c last left b0 l lo hi x a2 cb i s sum nn last left
          have w := w _ er _ rfl
          simp only [e1, e2, e3, e5, lX, hcat, Int.toNat_natCast] at w
          apply w
          all_goals first | rfl | assumption | exact hns | exact ob_flat _ | exact ⟨⟨hpc, hfd, hz0⟩, hpp⟩ | omega | (simp; done)
        · have hz0 : (decide (slen (sub s a (a + k)) = 0)) = false := decide_eq_false (by omega)
          have hz1 : (decide (k = 0)) = false := decide_eq_false (by omega)
          subst hz
          rw [Nat.zero_add] at ih hc2 hz0 lX hpc hfd hpp e3 hcat hsa
          have ih2 := ih.2.2 (by omega) (fedP op l lo hi x a2 cb (sub s 0 (k))).1.1 (fedP op l lo hi x a2 cb (sub s 0 (k))).1.2.1 (fedP op l lo hi x a2 cb (sub s 0 (k))).1.2.2.1 (fedP op l lo hi x a2 cb (sub s 0 (k))).1.2.2.2 (fedP op l lo hi x a2 cb (sub s 0 (k))).2.1 (fedP op l lo hi x a2 cb (sub s 0 (k))).2.2 hc2
          refine Gets.ends ?_ ih2
          have w := cuts_w3_1 T B n A lim op op c last left b0 l lo hi x a2 cb i s sum nn last left
          have w := w _ er _ rfl
          simp only [e1, e2, e3, e5, lX, Int.toNat_natCast] at w
          apply w
          all_goals first | rfl | assumption | exact hns | exact ob_flat _ | exact ⟨⟨hpc, hfd, hz0⟩, hpp⟩ | omega | (simp; done)
      · obtain ⟨hc2, hfd⟩ := hck.piece hv hs (a := a) (b := a + k) (by omega) hsa
        have hat := hck.1
        have hpp : p_pr2 lim 0 op c true last left l lo hi x a2 cb (sub s a (a + k)) := ⟨by omega, by omega, by omega⟩
        rcases Nat.eq_zero_or_pos k with hk0 | hk0
        · have hz0 : (decide (slen (sub s a (a + k)) = 0)) = true := decide_eq_true (by omega)
          have hz1 : (decide (k = 0)) = true := decide_eq_true hk0
          refine Gets.ends ?_ (ih.2.1 (by omega) (fedP op l lo hi x a2 cb (sub s a (a + k))).1.1 (fedP op l lo hi x a2 cb (sub s a (a + k))).1.2.1 (fedP op l lo hi x a2 cb (sub s a (a + k))).1.2.2.1 (fedP op l lo hi x a2 cb (sub s a (a + k))).1.2.2.2 (fedP op l lo hi x a2 cb (sub s a (a + k))).2.1 (fedP op l lo hi x a2 cb (sub s a (a + k))).2.2 hc2)
          have w := cuts_w4_0 T B n A lim op i s sum nn last op c last left b0 l lo hi x a2 cb left
          have w := w _ er _ rfl
          simp only [e1, e2, e3, e5, lX, hcat, Int.toNat_natCast] at w
          apply w
          all_goals first | rfl | assumption | exact hns | exact ob_flat _ | exact ⟨⟨hpc, hfd, hz0⟩, hpp⟩ | omega | (simp; done)
        · have hz0 : (decide (slen (sub s a (a + k)) = 0)) = false := decide_eq_false (by omega)
          have hz1 : (decide (k = 0)) = false := decide_eq_false (by omega)
          subst hz
          rw [Nat.zero_add] at ih hc2 hz0 lX hpc hfd hpp e3 hcat hsa
          have ih2 := ih.2.2 (by omega) (fedP op l lo hi x a2 cb (sub s 0 (k))).1.1 (fedP op l lo hi x a2 cb (sub s 0 (k))).1.2.1 (fedP op l lo hi x a2 cb (sub s 0 (k))).1.2.2.1 (fedP op l lo hi x a2 cb (sub s 0 (k))).1.2.2.2 (fedP op l lo hi x a2 cb (sub s 0 (k))).2.1 (fedP op l lo hi x a2 cb (sub s 0 (k))).2.2 hc2
          refine Gets.ends ?_ ih2
          have w := cuts_w4_1 T B n A lim op i s sum nn last op c last left b0 l lo hi x a2 cb left
          have w := w _ er _ rfl
          simp only [e1, e2, e3, e5, lX, Int.toNat_natCast] at w
          apply w
          all_goals first | rfl | assumption | exact hns | exact ob_flat _ | exact ⟨⟨hpc, hfd, hz0⟩, hpp⟩ | omega | (simp; done)
      · obtain ⟨hc2, hfd⟩ := hck.piece hv hs (a := a) (b := a + k) (by omega) hsa
        have hat := hck.1
        have hpp : p_pr3 lim 0 op c true last left a (ofBytes (sub s 0 a)) l lo hi x a2 cb (sub s a (a + k)) := ⟨⟨sub s 0 a, by rw [slen_subV]; omega, rfl⟩, by omega, by omega, by omega, by omega⟩
        refine Gets.ends ?_ (ih.2.2 (by omega) (fedP op l lo hi x a2 cb (sub s a (a + k))).1.1 (fedP op l lo hi x a2 cb (sub s a (a + k))).1.2.1 (fedP op l lo hi x a2 cb (sub s a (a + k))).1.2.2.1 (fedP op l lo hi x a2 cb (sub s a (a + k))).1.2.2.2 (fedP op l lo hi x a2 cb (sub s a (a + k))).2.1 (fedP op l lo hi x a2 cb (sub s a (a + k))).2.2 hc2)
        have w := cuts_w5_0 T B n A lim op i s sum nn last op c a last left b0 (ofBytes (sub s 0 a)) l lo hi x a2 cb left
        have w := w _ er _ rfl
        simp only [e1, e2, e3, e5, lX, hcat, Int.toNat_natCast] at w
        apply w
        all_goals first | rfl | assumption | exact hns | exact ob_flat _ | exact ⟨⟨hpc, hfd⟩, hpp⟩ | omega | (simp; done)

end Go.Proofs.Ytgaedhpeiamdfaa

/-
  The statement MessageCuts: a text's frames; all texts.
-/
set_option linter.unusedVariables false
set_option linter.unusedSimpArgs false
open Go Go.Am
namespace Go.Proofs.Ytgaedhpeiamdfaa

set_option maxHeartbeats 2000000 in
theorem middle (T : List ByteArray) (B : List Bool) (n : Nat) (A : List Value) (lim : Int) (hlim : 0 ≤ lim ∧ lim ≤ 1000) (hn : n ≤ 60) (hA : A.length = n) (hAi : ∀ v ∈ A, isInt .i64 v = true) (hAf : A.all flat = true)
    (op : Int) (hop : op = 1 ∨ op = 2) (i : Int) (s : ByteArray) (hs : slen s ≤ 300) (hv : op = 1 → wholeD (0, 0, 0, 0) (toL s) = true)
    (HO : ∀ (lk : Int) (at2 : Nat) (l lo hi x a2 : Int) (cb : Bool), at2 ≤ n → AEnds E 8 0 (cuts_h6 T B n A lim i 0 0 true lk at2 l lo hi x a2 cb) (.bool true) []) : ∀ (m b0 sum : Nat), n - b0 < m → b0 ≤ n → sum ≤ slen s → (sum : Int) ≤ lim →
    (sum = 0 → ∀ (last : Bool) (lk : Int) (l lo hi x a2 : Int) (cb : Bool), CK op l lo hi x a2 cb (sub s 0 sum) → AEnds E 8 0 (cuts_h7 T B n A lim op op ((sum : Nat) : Int) last lk b0 l lo hi x a2 cb i s ((sum : Nat) : Int) false) (.bool true) []) ∧
    (sum = 0 → ∀ (last : Bool) (lk : Int) (l lo hi x a2 : Int) (cb : Bool), CK op l lo hi x a2 cb (sub s 0 sum) → AEnds E 8 0 (cuts_h9 T B n A lim op i s op ((sum : Nat) : Int) last lk b0 l lo hi x a2 cb ((sum : Nat) : Int) false) (.bool true) []) ∧
    (0 < sum → ∀ (last : Bool) (lk : Int) (l lo hi x a2 : Int) (cb : Bool), CK op l lo hi x a2 cb (sub s 0 sum) → AEnds E 8 0 (cuts_h11 T B n A lim op i s op ((sum : Nat) : Int) sum last lk b0 (ofBytes (sub s 0 sum)) l lo hi x a2 cb ((sum : Nat) : Int) false) (.bool true) [])
  | 0, b0, sum, hm, _, _, _ => absurd hm (Nat.not_lt_zero _)
  | m + 1, b0, sum, hm, hbn, hsum, hsl => by
    have hw : wakes_S0 := trivial
    obtain ⟨k, b, er, hk1, hk2, hk3, hk4⟩ := next_val (slen s - sum) b0 n A (by omega) hbn hn
    have hns := next_safe (slen s - sum) b0 n A (by omega) hbn hn hA hAi hAf
    have e1 : IntKind.i64.wrap ((slen s : Int) - (sum : Int)) = ((slen s - sum : Nat) : Int) := by rw [wrap64_in (by omega) (by omega)]; omega
    have e2 : IntKind.i64.wrap ((sum : Int) + (k : Int)) = ((sum + k : Nat) : Int) := by rw [wrap64_in (by omega) (by omega)]; omega
    have hbc := bcodeV (lim := lim) (op := op) (sum := sum) (o := 0) (n := k) ⟨hlim.1, by omega⟩ ⟨by omega, hsl⟩ (by omega) (.inl rfl) (by rcases hop with rfl | rfl <;> simp)
    have hkk : (((k : Int)) != (k : Int)) = false := by simp
    by_cases c1 : lim - (sum : Int) < (k : Int)
    · rw [if_pos c1] at hbc
      have q1 : (bcode lim 0 op sum false 0 k == 1009) = true := by rw [hbc]; rfl
      have q2 : (bcode lim 0 op sum false 0 k == 0) = false := by rw [hbc]; rfl
      have q3 : (decide (lim < ((sum + k : Nat) : Int))) = true := decide_eq_true (by omega)
      refine ⟨fun hz last lk l lo hi x a2 cb hck => ?_, fun hz last lk l lo hi x a2 cb hck => ?_, fun hz last lk l lo hi x a2 cb hck => ?_⟩
      · have w := cuts_w7_4 T B n A lim op op sum last lk b0 l lo hi x a2 cb i s sum false
        rw [e1] at w
        have w := w _ er
        simp only [e2] at w
        apply w
        all_goals first | rfl | assumption | exact ⟨q2, trivial⟩ | (simp; done)
      · have w := cuts_w9_4 T B n A lim op i s op sum last lk b0 l lo hi x a2 cb sum false
        rw [e1] at w
        have w := w _ er
        simp only [e2] at w
        apply w
        all_goals first | rfl | assumption | exact ⟨q2, trivial⟩ | (simp; done)
      · have w := cuts_w11_4 T B n A lim op i s op sum sum last lk b0 (ofBytes (sub s 0 sum)) l lo hi x a2 cb sum false
        rw [e1] at w
        have w := w _ er
        simp only [e2] at w
        have hfl := ob_flat (sub s 0 sum)
        have hpr : ∃ b : ByteArray, slen b = sum ∧ ofBytes (sub s 0 sum) = ofBytes b := ⟨sub s 0 sum, by rw [slen_subV]; omega, rfl⟩
        apply w
        all_goals first | rfl | assumption | exact ⟨q2, hpr⟩ | (simp; done)
    · rw [if_neg c1] at hbc
      have q2 : (bcode lim 0 op sum false 0 k == 0) = true := by rw [hbc]; rfl
      have q3 : (decide (lim < ((sum + k : Nat) : Int))) = false := decide_eq_false (by omega)
      have hlast : (((sum + k : Nat) : Int) == (slen s : Int)) = decide (sum + k = slen s) := by rw [beqV]; exact decide_eq_decide.2 (by omega)
      have hbb : (((sum + k : Nat) : Int) == (slen s : Int)) = false → b0 < b := fun hf => by
        rw [hlast] at hf
        have := of_decide_eq_false hf
        by_cases e : b = b0
        · have := hk4 e; omega
        · omega
      have hin := inner T B n A lim hlim hn hA hAi hAf op hop i s hs hv sum k (by omega) (((sum + k : Nat) : Int) == (slen s : Int)) hlast ((sum + k : Nat) : Int) b (fun _ => HO)
        (fun hf lk at2 l lo hi x a2 cb h1 h2 hz hck => (middle T B n A lim hlim hn hA hAi hAf op hop i s hs hv HO m at2 (sum + k) (by have := hbb hf; omega) h2 (by omega) (by omega)).1 hz false lk l lo hi x a2 cb hck)
        (fun hf lk at2 l lo hi x a2 cb h1 h2 hz hck => (middle T B n A lim hlim hn hA hAi hAf op hop i s hs hv HO m at2 (sum + k) (by have := hbb hf; omega) h2 (by omega) (by omega)).2.1 hz false lk l lo hi x a2 cb hck)
        (fun hf lk at2 l lo hi x a2 cb h1 h2 hz hck => (middle T B n A lim hlim hn hA hAi hAf op hop i s hs hv HO m at2 (sum + k) (by have := hbb hf; omega) h2 (by omega) (by omega)).2.2 hz false lk l lo hi x a2 cb hck)
        _ b sum k (Nat.le_refl _) rfl (Nat.le_refl _) (Nat.le_refl _) hk3
      refine ⟨fun hz last lk l lo hi x a2 cb hck => ?_, fun hz last lk l lo hi x a2 cb hck => ?_, fun hz last lk l lo hi x a2 cb hck => ?_⟩
      · refine Gets.ends ?_ (hin.1 hz l lo hi x a2 cb hck)
        have w := cuts_w7_3 T B n A lim op op sum last lk b0 l lo hi x a2 cb i s sum false
        rw [e1] at w
        have w := w _ er
        simp only [e2] at w
        apply w
        all_goals first | rfl | assumption | exact ⟨⟨q2, rfl⟩, trivial⟩ | (simp; done)
      · refine Gets.ends ?_ (hin.2.1 hz l lo hi x a2 cb hck)
        have w := cuts_w9_3 T B n A lim op i s op sum last lk b0 l lo hi x a2 cb sum false
        rw [e1] at w
        have w := w _ er
        simp only [e2] at w
        apply w
        all_goals first | rfl | assumption | exact ⟨⟨q2, rfl⟩, trivial⟩ | (simp; done)
      · refine Gets.ends ?_ (hin.2.2 hz l lo hi x a2 cb hck)
        have w := cuts_w11_3 T B n A lim op i s op sum sum last lk b0 (ofBytes (sub s 0 sum)) l lo hi x a2 cb sum false
        rw [e1] at w
        have w := w _ er
        simp only [e2] at w
        have hfl := ob_flat (sub s 0 sum)
        have hpr : ∃ b : ByteArray, slen b = sum ∧ ofBytes (sub s 0 sum) = ofBytes b := ⟨sub s 0 sum, by rw [slen_subV]; omega, rfl⟩
        apply w
        all_goals first | rfl | assumption | exact ⟨⟨q2, rfl⟩, hpr⟩ | (simp; done)
theorem first1 (T : List ByteArray) (B : List Bool) (n : Nat) (A : List Value) (lim : Int) (hlim : 0 ≤ lim ∧ lim ≤ 1000) (hn : n ≤ 60) (hA : A.length = n) (hAi : ∀ v ∈ A, isInt .i64 v = true) (hAf : A.all flat = true)
    (op : Int) (hop : op = 1 ∨ op = 2) (i : Int) (s : ByteArray) (hs : slen s ≤ 300) (hv : op = 1 → wholeD (0, 0, 0, 0) (toL s) = true)
    (HO : ∀ (lk : Int) (at2 : Nat) (l lo hi x a2 : Int) (cb : Bool), at2 ≤ n → AEnds E 8 0 (cuts_h6 T B n A lim i 0 0 true lk at2 l lo hi x a2 cb) (.bool true) []) (b0 : Nat) (hbn : b0 ≤ n) (last : Bool) (lk : Int) (l lo hi x a2 : Int) (cb : Bool) : AEnds E 8 0 (cuts_h7 T B n A lim op 0 0 last lk b0 l lo hi x a2 cb i s 0 true) (.bool true) [] := by
  have hw : wakes_S0 := trivial
  have ho0 : (op == 0) = false := by rcases hop with rfl | rfl <;> rfl
  obtain ⟨k, b, er, hk1, hk2, hk3, hk4⟩ := next_val (slen s) b0 n A hs hbn hn
  have hns := next_safe (slen s) b0 n A hs hbn hn hA hAi hAf
  have e1 : IntKind.i64.wrap ((slen s : Int) - 0) = (slen s : Int) := by rw [Int.sub_zero]; exact wrap64_in (by omega) (by omega)
  have e2 : IntKind.i64.wrap (0 + (k : Int)) = (k : Int) := by rw [Int.zero_add]; exact wrap64_in (by omega) (by omega)
  have hbc := bcodeV (lim := lim) (op := 0) (sum := 0) (o := op) (n := k) ⟨hlim.1, by omega⟩ ⟨by omega, hlim.1⟩ (by omega) (.inr hop) (by rcases hop with rfl | rfl <;> simp)
  by_cases c1 : lim - 0 < (k : Int)
  · rw [if_pos c1] at hbc
    have q1 : (bcode lim 0 0 0 false op k == 1009) = true := by rw [hbc]; rfl
    have q2 : (bcode lim 0 0 0 false op k == 0) = false := by rw [hbc]; rfl
    have q3 : (decide (lim < (k : Int))) = true := decide_eq_true (by omega)
    have w := cuts_w7_1 T B n A lim op 0 0 last lk b0 l lo hi x a2 cb i s 0 true
    rw [e1] at w
    have w := w _ er
    simp only [e2] at w
    apply w
    all_goals first | rfl | assumption | exact ⟨q2, trivial⟩ | (simp; done)
  · rw [if_neg c1] at hbc
    have q2 : (bcode lim 0 0 0 false op k == 0) = true := by rw [hbc]; rfl
    have q3 : (decide (lim < (k : Int))) = false := decide_eq_false (by omega)
    have hlast : ((k : Int) == (slen s : Int)) = decide (0 + k = slen s) := by rw [beqV]; exact decide_eq_decide.2 (by omega)
    have hmid := fun (at2 : Nat) (h2 : at2 ≤ n) => middle T B n A lim hlim hn hA hAi hAf op hop i s hs hv HO (n + 1) at2 (0 + k) (by omega) h2 (by omega) (by omega)
    have ek : (((0 + k : Nat)) : Int) = (k : Int) := by omega
    have hin := inner T B n A lim hlim hn hA hAi hAf op hop i s hs hv 0 k (by omega) ((k : Int) == (slen s : Int)) hlast (((0 + k : Nat)) : Int) b (fun _ => HO)
      (fun hf lk at2 l lo hi x a2 cb h1 h2 hz hck => (hmid at2 h2).1 hz false lk l lo hi x a2 cb hck)
      (fun hf lk at2 l lo hi x a2 cb h1 h2 hz hck => (hmid at2 h2).2.1 hz false lk l lo hi x a2 cb hck)
      (fun hf lk at2 l lo hi x a2 cb h1 h2 hz hck => (hmid at2 h2).2.2 hz false lk l lo hi x a2 cb hck)
      _ b 0 k (Nat.le_refl _) rfl (Nat.le_refl _) (Nat.le_refl _) hk3
    have hin := hin.1 rfl 0 0 0 0 0 false (CK.new op s)
    rw [ek] at hin
    refine Gets.ends ?_ hin
    have w := cuts_w7_2 T B n A lim op 0 0 last lk b0 l lo hi x a2 cb i s 0 true
    rw [e1] at w
    have w := w _ er
    simp only [e2] at w
    apply w
    all_goals first | rfl | assumption | exact ⟨⟨q2, ho0⟩, trivial⟩ | (simp; done)
theorem first0 (T : List ByteArray) (B : List Bool) (n : Nat) (A : List Value) (lim : Int) (hlim : 0 ≤ lim ∧ lim ≤ 1000) (hn : n ≤ 60) (hA : A.length = n) (hAi : ∀ v ∈ A, isInt .i64 v = true) (hAf : A.all flat = true)
    (op : Int) (hop : op = 1 ∨ op = 2) (s : ByteArray) (hs : slen s ≤ 300) (hv : op = 1 → wholeD (0, 0, 0, 0) (toL s) = true) (hT : T[0]? = some s)
    (HO : ∀ (lk : Int) (at2 : Nat) (l lo hi x a2 : Int) (cb : Bool), at2 ≤ n → AEnds E 8 0 (cuts_h6 T B n A lim 0 0 0 true lk at2 l lo hi x a2 cb) (.bool true) []) (b0 : Nat) (hbn : b0 ≤ n) (last : Bool) (lk : Int) : AEnds E 8 0 (cuts_h2 T B n A lim 0 0 last lk b0 op) (.bool true) [] := by
  have hw : wakes_S0 := trivial
  have ho0 : (op == 0) = false := by rcases hop with rfl | rfl <;> rfl
  obtain ⟨k, b, er, hk1, hk2, hk3, hk4⟩ := next_val (slen s) b0 n A hs hbn hn
  have hns := next_safe (slen s) b0 n A hs hbn hn hA hAi hAf
  have e1 : IntKind.i64.wrap ((slen s : Int) - 0) = (slen s : Int) := by rw [Int.sub_zero]; exact wrap64_in (by omega) (by omega)
  have e2 : IntKind.i64.wrap (0 + (k : Int)) = (k : Int) := by rw [Int.zero_add]; exact wrap64_in (by omega) (by omega)
  have hbc := bcodeV (lim := lim) (op := 0) (sum := 0) (o := op) (n := k) ⟨hlim.1, by omega⟩ ⟨by omega, hlim.1⟩ (by omega) (.inr hop) (by rcases hop with rfl | rfl <;> simp)
  by_cases c1 : lim - 0 < (k : Int)
  · rw [if_pos c1] at hbc
    have q1 : (bcode lim 0 0 0 false op k == 1009) = true := by rw [hbc]; rfl
    have q2 : (bcode lim 0 0 0 false op k == 0) = false := by rw [hbc]; rfl
    have q3 : (decide (lim < (k : Int))) = true := decide_eq_true (by omega)
    have w := cuts_w2_1 T B n A lim 0 0 last lk b0 op
    simp only [getStrV hT, toStr] at w
    rw [e1] at w
    have w := w _ er
    simp only [e2] at w
    apply w
    all_goals first | rfl | assumption | exact ⟨q2, trivial⟩ | (simp; done)
  · rw [if_neg c1] at hbc
    have q2 : (bcode lim 0 0 0 false op k == 0) = true := by rw [hbc]; rfl
    have q3 : (decide (lim < (k : Int))) = false := decide_eq_false (by omega)
    have hlast : ((k : Int) == (slen s : Int)) = decide (0 + k = slen s) := by rw [beqV]; exact decide_eq_decide.2 (by omega)
    have hmid := fun (at2 : Nat) (h2 : at2 ≤ n) => middle T B n A lim hlim hn hA hAi hAf op hop 0 s hs hv HO (n + 1) at2 (0 + k) (by omega) h2 (by omega) (by omega)
    have ek : (((0 + k : Nat)) : Int) = (k : Int) := by omega
    have hin := inner T B n A lim hlim hn hA hAi hAf op hop 0 s hs hv 0 k (by omega) ((k : Int) == (slen s : Int)) hlast (((0 + k : Nat)) : Int) b (fun _ => HO)
      (fun hf lk at2 l lo hi x a2 cb h1 h2 hz hck => (hmid at2 h2).1 hz false lk l lo hi x a2 cb hck)
      (fun hf lk at2 l lo hi x a2 cb h1 h2 hz hck => (hmid at2 h2).2.1 hz false lk l lo hi x a2 cb hck)
      (fun hf lk at2 l lo hi x a2 cb h1 h2 hz hck => (hmid at2 h2).2.2 hz false lk l lo hi x a2 cb hck)
      _ b 0 k (Nat.le_refl _) rfl (Nat.le_refl _) (Nat.le_refl _) hk3
    have hin := hin.1 rfl 0 0 0 0 0 false (CK.new op s)
    rw [ek] at hin
    refine Gets.ends ?_ hin
    have w := cuts_w2_0 T B n A lim 0 0 last lk b0 op
    simp only [getStrV hT, toStr] at w
    rw [e1] at w
    have w := w _ er
    simp only [e2] at w
    apply w
    all_goals first | rfl | assumption | exact ⟨⟨q2, ho0⟩, trivial⟩ | (simp; done)
theorem texts (T : List ByteArray) (B : List Bool) (n : Nat) (A : List Value) (lim : Int) (hlim : 0 ≤ lim ∧ lim ≤ 1000) (hn : n ≤ 60) (hA : A.length = n) (hAi : ∀ v ∈ A, isInt .i64 v = true) (hAf : A.all flat = true) (hT : T.length ≤ 5) (hBT : T.length ≤ B.length) : ∀ (m i : Nat), T.length - i ≤ m → i < 5 → ∀ (lk : Int) (b0 : Nat) (l lo hi x a2 : Int) (cb : Bool), b0 ≤ n → AEnds E 8 0 (cuts_h6 T B n A lim i 0 0 true lk b0 l lo hi x a2 cb) (.bool true) []
  | m, i, hm, hi5, lk, b0, l, lo, hi, x, a2, cb, hb => by
    have e1 : IntKind.i64.wrap ((i : Int) + 1) = ((i + 1 : Nat) : Int) := by rw [wrap64_in (by omega) (by omega)]; omega
    cases m with
    | zero =>
      have hw : wakes_S0 := trivial
      have w := cuts_w6_4 T B n A lim i 0 0 true lk b0 l lo hi x a2 cb
      rw [e1] at w
      apply w
      all_goals first | assumption | exact decide_eq_false (by omega)
    | succ m =>
    by_cases c9 : T.length ≤ i + 1
    · have hw : wakes_S0 := trivial
      have w := cuts_w6_4 T B n A lim i 0 0 true lk b0 l lo hi x a2 cb
      rw [e1] at w
      apply w
      all_goals first | assumption | exact decide_eq_false (by omega)
    have HO := texts T B n A lim hlim hn hA hAi hAf hT hBT m (i + 1) (by omega) (by omega)
    have hw : wakes_S0 := trivial
    by_cases c0 : T.length ≤ (i + 1)
    · have w := cuts_w6_4 T B n A lim i 0 0 true lk b0 l lo hi x a2 cb
      rw [e1] at w
      apply w
      all_goals first | assumption | exact decide_eq_false (by omega)
    · obtain ⟨s, hs⟩ : ∃ s, T[(i + 1)]? = some s := ⟨_, List.getElem?_eq_getElem (by omega)⟩
      obtain ⟨t, ht⟩ : ∃ t, B[(i + 1)]? = some t := ⟨_, List.getElem?_eq_getElem (by omega)⟩
      have g1 := getStrV hs
      have g2 := getBoolV ht
      have l1 : (T.map Value.string).length = T.length := List.length_map ..
      have l2 : (B.map Value.bool).length = B.length := List.length_map ..
      by_cases c1 : 300 < (slen s : Int)
      ·
        have w := cuts_w6_0 T B n A lim i 0 0 true lk b0 l lo hi x a2 cb
        simp only [e1, Int.toNat_natCast, Nat.mul_one, g1, g2, toStr, Am.toBool, isStr, isBool, l1, l2] at w
        have c2 : decide (300 < (slen s : Int)) = true := decide_eq_true c1
        apply w
        all_goals first | rfl | assumption | omega | (simp; omega) | (simp; done)
      have c2 : decide (300 < (slen s : Int)) = false := decide_eq_false c1
      have hvp : valid_pre s := by unfold valid_pre; omega
      cases t with
      | false =>
        refine Gets.ends ?_ (first1 T B n A lim hlim hn hA hAi hAf 2 (.inr rfl) ((i + 1 : Nat) : Int) s (by omega) (fun e => absurd e (by decide)) HO b0 hb true lk l lo hi x a2 cb)
        have w := cuts_w6_3 T B n A lim i 0 0 true lk b0 l lo hi x a2 cb
        simp only [e1, Int.toNat_natCast, Nat.mul_one, g1, g2, toStr, Am.toBool, isStr, isBool, l1, l2] at w
        apply w
        all_goals first | rfl | assumption | omega | (simp; omega) | (simp; done)
      | true =>
      cases hvv : wholeD (0, 0, 0, 0) (toL s) with
      | true =>
        refine Gets.ends ?_ (first1 T B n A lim hlim hn hA hAi hAf 1 (.inl rfl) ((i + 1 : Nat) : Int) s (by omega) (fun _ => hvv) HO b0 hb true lk l lo hi x a2 cb)
        have w := cuts_w6_1 T B n A lim i 0 0 true lk b0 l lo hi x a2 cb
        simp only [e1, Int.toNat_natCast, Nat.mul_one, g1, g2, toStr, Am.toBool, isStr, isBool, l1, l2] at w
        apply w
        all_goals first | rfl | assumption | omega | (simp; omega) | (simp; done)
      | false =>
        refine Gets.ends ?_ (first1 T B n A lim hlim hn hA hAi hAf 2 (.inr rfl) ((i + 1 : Nat) : Int) s (by omega) (fun e => absurd e (by decide)) HO b0 hb true lk l lo hi x a2 cb)
        have w := cuts_w6_2 T B n A lim i 0 0 true lk b0 l lo hi x a2 cb
        simp only [e1, Int.toNat_natCast, Nat.mul_one, g1, g2, toStr, Am.toBool, isStr, isBool, l1, l2] at w
        apply w
        all_goals first | rfl | assumption | omega | (simp; omega) | (simp; done)

theorem start (T : List ByteArray) (B : List Bool) (n : Nat) (A : List Value) (lim : Int) (hlim : 0 ≤ lim ∧ lim ≤ 1000) (hn : n ≤ 60) (hA : A.length = n) (hAi : ∀ v ∈ A, isInt .i64 v = true) (hAf : A.all flat = true) (hT : T.length ≤ 5) (hBT : T.length ≤ B.length) : AEnds E 8 0 (cuts_h1 T B n A lim 0 0 false 0 0) (.bool true) [] := by
    have HO := fun (z : Nat) => texts T B n A lim hlim hn hA hAi hAf hT hBT T.length 0 (by omega) (by omega)
    have hw : wakes_S0 := trivial
    by_cases c0 : T.length ≤ 0
    · have w := cuts_w1_4 T B n A lim 0 0 false 0 0
      apply w
      all_goals first | assumption | exact decide_eq_false (by omega)
    · obtain ⟨s, hs⟩ : ∃ s, T[0]? = some s := ⟨_, List.getElem?_eq_getElem (by omega)⟩
      obtain ⟨t, ht⟩ : ∃ t, B[0]? = some t := ⟨_, List.getElem?_eq_getElem (by omega)⟩
      have g1 := getStrV hs
      have g2 := getBoolV ht
      have l1 : (T.map Value.string).length = T.length := List.length_map ..
      have l2 : (B.map Value.bool).length = B.length := List.length_map ..
      by_cases c1 : 300 < (slen s : Int)
      ·
        have w := cuts_w1_0 T B n A lim 0 0 false 0 0
        simp only [g1, g2, toStr, Am.toBool, isStr, isBool, l1, l2] at w
        have c2 : decide (300 < (slen s : Int)) = true := decide_eq_true c1
        apply w
        all_goals first | rfl | assumption | omega | (simp; omega) | (simp; done)
      have c2 : decide (300 < (slen s : Int)) = false := decide_eq_false c1
      have hvp : valid_pre s := by unfold valid_pre; omega
      cases t with
      | false =>
        refine Gets.ends ?_ (first0 T B n A lim hlim hn hA hAi hAf 2 (.inr rfl) s (by omega) (fun e => absurd e (by decide)) hs (HO 0) 0 (Nat.zero_le _) false 0)
        have w := cuts_w1_3 T B n A lim 0 0 false 0 0
        simp only [g1, g2, toStr, Am.toBool, isStr, isBool, l1, l2] at w
        apply w
        all_goals first | rfl | assumption | omega | (simp; omega) | (simp; done)
      | true =>
      cases hvv : wholeD (0, 0, 0, 0) (toL s) with
      | true =>
        refine Gets.ends ?_ (first0 T B n A lim hlim hn hA hAi hAf 1 (.inl rfl) s (by omega) (fun _ => hvv) hs (HO 0) 0 (Nat.zero_le _) false 0)
        have w := cuts_w1_1 T B n A lim 0 0 false 0 0
        simp only [g1, g2, toStr, Am.toBool, isStr, isBool, l1, l2] at w
        apply w
        all_goals first | rfl | assumption | omega | (simp; omega) | (simp; done)
      | false =>
        refine Gets.ends ?_ (first0 T B n A lim hlim hn hA hAi hAf 2 (.inr rfl) s (by omega) (fun e => absurd e (by decide)) hs (HO 0) 0 (Nat.zero_le _) false 0)
        have w := cuts_w1_2 T B n A lim 0 0 false 0 0
        simp only [g1, g2, toStr, Am.toBool, isStr, isBool, l1, l2] at w
        apply w
        all_goals first | rfl | assumption | omega | (simp; omega) | (simp; done)


end Go.Proofs.Ytgaedhpeiamdfaa
