/-
  PROVED: the law MessageBad hands back true at every input, and its arguments read behind the call as they read before.
-/
import Derived.Test.YtgaedhpeiamdfaaRows
import Derived.Test.YtgaedhpeiamdfaaMessageG
import Derived.Test.YtgaedhpeiamdfaaUtfO18
set_option linter.unusedVariables false
set_option linter.unusedSimpArgs false
open Go Go.Am Go.ChangeShapes Go.WideShapes Go.ChangeAt Go.RowKit
namespace Go.Proofs.Ytgaedhpeiamdfaa.messageBad

theorem slen_sub (s : ByteArray) (l h : Nat) : slen (sub s l h) = min (h - l) (slen s - l) := by
  unfold slen sub
  simp [toL, ofL]
theorem toL_sub (s : ByteArray) (l h : Nat) : toL (sub s l h) = ((toL s).drop l).take (h - l) := by simp [sub, toL, ofL]
theorem turn_in (n many : Int) (hm : 0 < many) (hb : many ≤ 1000000) : ∃ k : Nat, turn_t0 n many = (k : Int) ∧ (k : Int) < many := by
  have h1 := Int.tmod_lt_of_pos n hm
  have h2 : -many < n.tmod many := by
    have := Int.tmod_lt_of_pos (-n) hm
    rw [Int.neg_tmod] at this
    omega
  unfold turn_t0
  by_cases c : n.tmod many < 0
  · simp only [decide_eq_true c, cond_true]
    rw [wrap64_in (by omega) (by omega)]
    refine ⟨(n.tmod many + many).toNat, ?_, by omega⟩
    show (n.tmod many + many : Int) = _
    omega
  · simp only [decide_eq_false c, cond_false]
    refine ⟨(n.tmod many).toNat, ?_, by omega⟩
    show (n.tmod many : Int) = _
    omega
theorem ob_cat3 (x y z : ByteArray) : (ofBytes x ++ ofBytes y) ++ ofBytes z = ofBytes (cat (cat x y) z) := by rw [ob_cat, ob_cat]
theorem ob_cat4 (x y z : ByteArray) : ofBytes x ++ (ofBytes y ++ ofBytes z) = ofBytes (cat x (cat y z)) := by rw [ob_cat, ob_cat]
theorem fedP_1 (left low high x at' : Int) (cbad : Bool) (s : ByteArray) : fedP 1 left low high x at' cbad s = feedL (left, low, high, x) at' cbad (toL s) := rfl

set_option maxHeartbeats 4000000 in
theorem all (s : ByteArray) (a : Int) (_ : -9223372036854775808 ≤ a ∧ a ≤ 9223372036854775807) (b : Int) (_ : -9223372036854775808 ≤ b ∧ b ≤ 9223372036854775807) : AEnds E 7 0 (startC E 7 [.string s, .int .i64 a, .int .i64 b] []) (.bool true) [] := by
  have hw : wakes_S0 := trivial
  by_cases c0 : 300 < (slen s : Int)
  · exact badt_w0_0 s a b hw (decide_eq_true c0)
  have hc0 : decide (300 < (slen s : Int)) = false := decide_eq_false c0
  have hs : slen s ≤ 300 := by omega
  have hvp : valid_pre s := by unfold valid_pre; omega
  have e1 : IntKind.i64.wrap ((slen s : Int) + 1) = (slen s : Int) + 1 := wrap64_in (by omega) (by omega)
  obtain ⟨k, hk, hk2⟩ := turn_in a ((slen s : Int) + 1) (by omega) (by omega)
  have hkS : turn_S0 a ((slen s : Int) + 1) := by
    have : ((slen s : Int) + 1 != 0) = true := by simp; omega
    exact ⟨fun _ => this, fun _ => this⟩
  have e2 : IntKind.i64.wrap ((slen s : Int) - (k : Int)) = (slen s : Int) - k := wrap64_in (by omega) (by omega)
  have e3 : IntKind.i64.wrap ((slen s : Int) - (k : Int) + 1) = (slen s : Int) - k + 1 := wrap64_in (by omega) (by omega)
  obtain ⟨m, hm, hm2⟩ := turn_in b ((slen s : Int) - k + 1) (by omega) (by omega)
  have hmS : turn_S0 b ((slen s : Int) - k + 1) := by
    have : ((slen s : Int) - k + 1 != 0) = true := by simp; omega
    exact ⟨fun _ => this, fun _ => this⟩
  obtain ⟨l, hl⟩ : ∃ l : Nat, (k : Int) + (m : Int) = (l : Int) := ⟨k + m, by omega⟩
  have e4 : IntKind.i64.wrap ((k : Int) + (m : Int)) = (l : Int) := by rw [hl]; exact wrap64_in (by omega) (by omega)
  have e5 : IntKind.i64.wrap (0 + (k : Int)) = (k : Int) := by rw [Int.zero_add]; exact wrap64_in (by omega) (by omega)
  have e6 : IntKind.i64.wrap ((k : Int) + ((slen s : Int) - k)) = (slen s : Int) := by rw [show (k : Int) + ((slen s : Int) - k) = slen s by omega]; exact wrap64_in (by omega) (by omega)
  have e7 : IntKind.i64.wrap (1000 - (k : Int)) = 1000 - (k : Int) := wrap64_in (by omega) (by omega)
  have lX : slen (sub s 0 k) = k := by rw [slen_sub]; omega
  have lY : slen (sub s k l) = l - k := by rw [slen_sub]; omega
  have lZ : slen (sub s l (slen s)) = slen s - l := by rw [slen_sub]; omega
  have tX : toL s = toL (sub s 0 k) ++ (toL (sub s k l) ++ toL (sub s l (slen s))) := by
    rw [toL_sub, toL_sub, toL_sub, List.drop_zero, Nat.sub_zero]
    have h3 : ((toL s).drop l).take (slen s - l) = (toL s).drop l := List.take_of_length_le (by unfold slen; simp)
    rw [h3, show l = k + (l - k) by omega, ← List.drop_drop, show k + (l - k) - k = l - k by omega, List.take_append_drop, List.take_append_drop]
  have hbN : bcode 1000 0 0 0 false 1 (k : Int) = 0 := by simp [bcode, bop, show ¬ (k : Int) < 0 by omega, show ¬ (1000 : Int) < k by omega, show IntKind.i64.wrap 1000 = 1000 from rfl]
  have hbM : bcode 1000 0 1 (k : Int) false 0 ((slen s : Int) - k) = 0 := by simp [bcode, bop, e7, show ¬ (slen s : Int) - k < 0 by omega, show ¬ 1000 - (k : Int) < (slen s : Int) - k by omega]
  have hpX : pcode 0 (k : Int) true (sub s 0 k) = 0 := by simp [pcode, lX]
  have hpY : pcode 0 ((slen s : Int) - k) true (sub s k l) = 0 := by simp [pcode, lY, show ¬ (slen s : Int) - (k : Int) < ((l - k : Nat) : Int) by omega]
  have e8 : IntKind.i64.wrap ((k : Int) - (slen (sub s 0 k) : Int)) = 0 := by rw [lX, Int.sub_self]; rfl
  have e9 : IntKind.i64.wrap ((slen s : Int) - k - (slen (sub s k l) : Int)) = (slen s : Int) - l := by rw [lY, show (slen s : Int) - k - ((l - k : Nat) : Int) = (slen s : Int) - l by omega]; exact wrap64_in (by omega) (by omega)
  have hpZ : pcode 0 ((slen s : Int) - l) true (sub s l (slen s)) = 0 := by simp [pcode, lZ, show ¬ (slen s : Int) - (l : Int) < ((slen s - l : Nat) : Int) by omega]
  have e10 : IntKind.i64.wrap ((slen s : Int) - l - (slen (sub s l (slen s)) : Int)) = 0 := by rw [lZ, show (slen s : Int) - l - ((slen s - l : Nat) : Int) = 0 by omega]; rfl
  obtain ⟨⟨⟨a1, b1, c1, d1⟩, at1, bad1⟩, hr1⟩ : ∃ r, feedL (0, 0, 0, 0) 0 false (toL (sub s 0 k)) = r := ⟨_, rfl⟩
  obtain ⟨⟨⟨a2, b2, c2, d2⟩, at2, bad2⟩, hr2⟩ : ∃ r, feedL (a1, b1, c1, d1) at1 bad1 (toL (sub s k l)) = r := ⟨_, rfl⟩
  obtain ⟨⟨⟨a3, b3, c3, d3⟩, at3, bad3⟩, hr3⟩ : ∃ r, feedL (a2, b2, c2, d2) at2 bad2 (toL (sub s l (slen s))) = r := ⟨_, rfl⟩
  have hD : wholeD (0, 0, 0, 0) (toL s) = (!bad3 && a3 == 0) := by
    rw [wholeD_feed _ _ 0, tX, feedL_append, hr1]
    simp only []
    rw [feedL_append, hr2]
    simp only []
    rw [hr3]
  have g1 : 0 ≤ at1 ∧ at1 ≤ 300 := by
    have h := feedL_at (toL (sub s 0 k)) (0, 0, 0, 0) 0
    rw [hr1] at h
    have hx : (toL (sub s 0 k)).length = k := lX
    rw [hx] at h
    simp only [] at h
    omega
  have u1 : fedP 1 0 0 0 0 0 false (sub s 0 (Int.toNat (turn_t0 a (IntKind.i64.wrap ((slen s : Int) + 1))))) = ((a1, b1, c1, d1), at1, bad1) := by rw [e1, hk]; exact hr1
  have u2 : fedP 1 a1 b1 c1 d1 at1 bad1 (sub s (Int.toNat (turn_t0 a (IntKind.i64.wrap ((slen s : Int) + 1)))) (IntKind.i64.wrap (turn_t0 a (IntKind.i64.wrap ((slen s : Int) + 1)) + turn_t0 b (IntKind.i64.wrap (IntKind.i64.wrap ((slen s : Int) - turn_t0 a (IntKind.i64.wrap ((slen s : Int) + 1))) + 1)))).toNat) = ((a2, b2, c2, d2), at2, bad2) := by
    simp only [e1, hk, e2, e3, hm, e4, Int.toNat_natCast, fedP_1]
    exact hr2
  have u3 : fedP 1 a2 b2 c2 d2 at2 bad2 (sub s (IntKind.i64.wrap (turn_t0 a (IntKind.i64.wrap ((slen s : Int) + 1)) + turn_t0 b (IntKind.i64.wrap (IntKind.i64.wrap ((slen s : Int) - turn_t0 a (IntKind.i64.wrap ((slen s : Int) + 1))) + 1)))).toNat (slen s)) = ((a3, b3, c3, d3), at3, bad3) := by
    simp only [e1, hk, e2, e3, hm, e4, Int.toNat_natCast, fedP_1]
    exact hr3
  have ek : ∀ at' l0, ecode 1007 1 l0 at' true false true = 1007 := fun _ _ => rfl
  have hE0 : slen ⟨#[]⟩ = 0 := rfl
  have tX1 : ∃ b : ByteArray, slen b = slen (sub s 0 k) ∧ ofBytes (sub s 0 k) = ofBytes b := ⟨_, rfl, rfl⟩
  have tY1 : ∃ b : ByteArray, slen b = slen (sub s k l) ∧ ofBytes (sub s k l) = ofBytes b := ⟨_, rfl, rfl⟩
  have tXY1 : ∃ b : ByteArray, slen b = slen (sub s 0 k) + slen (sub s k l) ∧ ofBytes (sub s 0 k) ++ ofBytes (sub s k l) = ofBytes b := ⟨cat _ _, slen_cat _ _, ob_cat _ _⟩
  cases bad1 with
  | true =>
    rw [feedL_bad] at hr2
    simp only [Prod.mk.injEq] at hr2
    obtain ⟨⟨rfl, rfl, rfl, rfl⟩, rfl, rfl⟩ := hr2
    rw [feedL_bad] at hr3
    simp only [Prod.mk.injEq] at hr3
    obtain ⟨⟨rfl, rfl, rfl, rfl⟩, rfl, rfl⟩ := hr3
    have w := badt_w0_1 s a b ((a1, b1, c1, d1), at1, _) u1
    simp only [e1, hk, e2, e3, hm, e4, e5, e6, e8, e9, e10, Int.toNat_natCast] at w
    apply w
    all_goals first | exact hw | exact hvp | exact hkS | exact hmS | exact hc0 | omega | ((try simp only [b0N_pre, b1M_pre, b2M_pre, b3M_pre, b1F_pre, b2F_pre, b3F_pre, b_pr0, b_pr1, b_pr2, b_pr3, p1S_pre, p1T_pre, p1B_pre, p2S_pre, p2T_pre, p2B_pre, p3T_pre, p3B_pre, p1F_pre, p2F_pre, p3F_pre, p_pr1, p_pr2, p_pr3, e1M_pre, e2M_pre, e3M_pre, e1F_pre, e2F_pre, e3F_pre, e1W_pre, e2W_pre, e3W_pre, e1G_pre, e2G_pre, e3G_pre, e_pr1, e_pr2, e_pr3]); (try simp only [hE0, hbN, hbM, hpX, hpY, hpZ, fedP_1, hr1, hD, lX, lY, lZ, ob_flat, List.all_append]); (try simp [bcode, pcode, ecode, hE0, Bool.true_and]); first | done | omega | (first | exact ⟨_, by rw [slen_sub]; omega, rfl⟩ | exact ⟨_, by rw [slen_cat, slen_sub, slen_sub]; omega, ob_cat _ _⟩ | exact ⟨_, by rw [slen_cat, slen_cat, slen_sub, slen_sub, slen_sub]; omega, ob_cat3 _ _ _⟩ | exact ⟨_, by rw [slen_cat, slen_cat, slen_sub, slen_sub, slen_sub]; omega, ob_cat4 _ _ _⟩) | (refine ⟨?_, ?_⟩ <;> first | omega | (first | exact ⟨_, by rw [slen_sub]; omega, rfl⟩ | exact ⟨_, by rw [slen_cat, slen_sub, slen_sub]; omega, ob_cat _ _⟩ | exact ⟨_, by rw [slen_cat, slen_cat, slen_sub, slen_sub, slen_sub]; omega, ob_cat3 _ _ _⟩ | exact ⟨_, by rw [slen_cat, slen_cat, slen_sub, slen_sub, slen_sub]; omega, ob_cat4 _ _ _⟩)) | skip)
  | false =>
    by_cases cx : k = 0
    ·
      have g2 : 0 ≤ at2 ∧ at2 ≤ 600 := by
        have h := feedL_at (toL (sub s k l)) (a1, b1, c1, d1) at1
        rw [hr2] at h
        have hx : (toL (sub s k l)).length = l - k := lY
        rw [hx] at h
        simp only [] at h
        omega
      cases bad2 with
      | true =>
        rw [feedL_bad] at hr3
        simp only [Prod.mk.injEq] at hr3
        obtain ⟨⟨rfl, rfl, rfl, rfl⟩, rfl, rfl⟩ := hr3
        have w := badt_w0_2 s a b ((a1, b1, c1, d1), at1, _) u1 ((a2, b2, c2, d2), at2, _) u2
        simp only [e1, hk, e2, e3, hm, e4, e5, e6, e8, e9, e10, Int.toNat_natCast] at w
        apply w
        all_goals first | exact hw | exact hvp | exact hkS | exact hmS | exact hc0 | omega | ((try simp only [b0N_pre, b1M_pre, b2M_pre, b3M_pre, b1F_pre, b2F_pre, b3F_pre, b_pr0, b_pr1, b_pr2, b_pr3, p1S_pre, p1T_pre, p1B_pre, p2S_pre, p2T_pre, p2B_pre, p3T_pre, p3B_pre, p1F_pre, p2F_pre, p3F_pre, p_pr1, p_pr2, p_pr3, e1M_pre, e2M_pre, e3M_pre, e1F_pre, e2F_pre, e3F_pre, e1W_pre, e2W_pre, e3W_pre, e1G_pre, e2G_pre, e3G_pre, e_pr1, e_pr2, e_pr3]); (try simp only [hE0, hbN, hbM, hpX, hpY, hpZ, fedP_1, hr1, hD, lX, lY, lZ, ob_flat, List.all_append, hr2]); (try simp [bcode, pcode, ecode, hE0, cx]); first | done | omega | (first | exact ⟨_, by rw [slen_sub]; omega, rfl⟩ | exact ⟨_, by rw [slen_cat, slen_sub, slen_sub]; omega, ob_cat _ _⟩ | exact ⟨_, by rw [slen_cat, slen_cat, slen_sub, slen_sub, slen_sub]; omega, ob_cat3 _ _ _⟩ | exact ⟨_, by rw [slen_cat, slen_cat, slen_sub, slen_sub, slen_sub]; omega, ob_cat4 _ _ _⟩) | (refine ⟨?_, ?_⟩ <;> first | omega | (first | exact ⟨_, by rw [slen_sub]; omega, rfl⟩ | exact ⟨_, by rw [slen_cat, slen_sub, slen_sub]; omega, ob_cat _ _⟩ | exact ⟨_, by rw [slen_cat, slen_cat, slen_sub, slen_sub, slen_sub]; omega, ob_cat3 _ _ _⟩ | exact ⟨_, by rw [slen_cat, slen_cat, slen_sub, slen_sub, slen_sub]; omega, ob_cat4 _ _ _⟩)) | skip)
      | false =>
        by_cases cy : l - k = 0
        ·
          have g3 : 0 ≤ at3 ∧ at3 ≤ 900 := by
            have h := feedL_at (toL (sub s l (slen s))) (a2, b2, c2, d2) at2
            rw [hr3] at h
            have hx : (toL (sub s l (slen s))).length = slen s - l := lZ
            rw [hx] at h
            simp only [] at h
            omega
          cases bad3 with
          | true =>
            have w := badt_w0_3 s a b ((a1, b1, c1, d1), at1, _) u1 ((a2, b2, c2, d2), at2, _) u2 ((a3, b3, c3, d3), at3, _) u3
            simp only [e1, hk, e2, e3, hm, e4, e5, e6, e8, e9, e10, Int.toNat_natCast] at w
            apply w
            all_goals first | exact hw | exact hvp | exact hkS | exact hmS | exact hc0 | omega | ((try simp only [b0N_pre, b1M_pre, b2M_pre, b3M_pre, b1F_pre, b2F_pre, b3F_pre, b_pr0, b_pr1, b_pr2, b_pr3, p1S_pre, p1T_pre, p1B_pre, p2S_pre, p2T_pre, p2B_pre, p3T_pre, p3B_pre, p1F_pre, p2F_pre, p3F_pre, p_pr1, p_pr2, p_pr3, e1M_pre, e2M_pre, e3M_pre, e1F_pre, e2F_pre, e3F_pre, e1W_pre, e2W_pre, e3W_pre, e1G_pre, e2G_pre, e3G_pre, e_pr1, e_pr2, e_pr3]); (try simp only [hE0, hbN, hbM, hpX, hpY, hpZ, fedP_1, hr1, hD, lX, lY, lZ, ob_flat, List.all_append, hr2, hr3]); (try simp [bcode, pcode, ecode, hE0, cx, cy]); first | done | omega | (first | exact ⟨_, by rw [slen_sub]; omega, rfl⟩ | exact ⟨_, by rw [slen_cat, slen_sub, slen_sub]; omega, ob_cat _ _⟩ | exact ⟨_, by rw [slen_cat, slen_cat, slen_sub, slen_sub, slen_sub]; omega, ob_cat3 _ _ _⟩ | exact ⟨_, by rw [slen_cat, slen_cat, slen_sub, slen_sub, slen_sub]; omega, ob_cat4 _ _ _⟩) | (refine ⟨?_, ?_⟩ <;> first | omega | (first | exact ⟨_, by rw [slen_sub]; omega, rfl⟩ | exact ⟨_, by rw [slen_cat, slen_sub, slen_sub]; omega, ob_cat _ _⟩ | exact ⟨_, by rw [slen_cat, slen_cat, slen_sub, slen_sub, slen_sub]; omega, ob_cat3 _ _ _⟩ | exact ⟨_, by rw [slen_cat, slen_cat, slen_sub, slen_sub, slen_sub]; omega, ob_cat4 _ _ _⟩)) | skip)
          | false =>
            by_cases cz : slen s - l = 0
            ·
              by_cases ca : a3 = 0
              · have ca2 : (a3 == 0) = true := by simpa using ca
                have w := badt_w0_4 s a b ((a1, b1, c1, d1), at1, _) u1 ((a2, b2, c2, d2), at2, _) u2 ((a3, b3, c3, d3), at3, _) u3
                simp only [e1, hk, e2, e3, hm, e4, e5, e6, e8, e9, e10, Int.toNat_natCast] at w
                apply w
                all_goals first | exact hw | exact hvp | exact hkS | exact hmS | exact hc0 | omega | ((try simp only [b0N_pre, b1M_pre, b2M_pre, b3M_pre, b1F_pre, b2F_pre, b3F_pre, b_pr0, b_pr1, b_pr2, b_pr3, p1S_pre, p1T_pre, p1B_pre, p2S_pre, p2T_pre, p2B_pre, p3T_pre, p3B_pre, p1F_pre, p2F_pre, p3F_pre, p_pr1, p_pr2, p_pr3, e1M_pre, e2M_pre, e3M_pre, e1F_pre, e2F_pre, e3F_pre, e1W_pre, e2W_pre, e3W_pre, e1G_pre, e2G_pre, e3G_pre, e_pr1, e_pr2, e_pr3]); (try simp only [hE0, hbN, hbM, hpX, hpY, hpZ, fedP_1, hr1, hD, lX, lY, lZ, ob_flat, List.all_append, hr2, hr3]); (try simp [bcode, pcode, ecode, hE0, cx, cy, cz, ca, ca2]); first | done | omega | (first | exact ⟨_, by rw [slen_sub]; omega, rfl⟩ | exact ⟨_, by rw [slen_cat, slen_sub, slen_sub]; omega, ob_cat _ _⟩ | exact ⟨_, by rw [slen_cat, slen_cat, slen_sub, slen_sub, slen_sub]; omega, ob_cat3 _ _ _⟩ | exact ⟨_, by rw [slen_cat, slen_cat, slen_sub, slen_sub, slen_sub]; omega, ob_cat4 _ _ _⟩) | (refine ⟨?_, ?_⟩ <;> first | omega | (first | exact ⟨_, by rw [slen_sub]; omega, rfl⟩ | exact ⟨_, by rw [slen_cat, slen_sub, slen_sub]; omega, ob_cat _ _⟩ | exact ⟨_, by rw [slen_cat, slen_cat, slen_sub, slen_sub, slen_sub]; omega, ob_cat3 _ _ _⟩ | exact ⟨_, by rw [slen_cat, slen_cat, slen_sub, slen_sub, slen_sub]; omega, ob_cat4 _ _ _⟩)) | skip)
              · have ca2 : (a3 == 0) = false := by simpa using ca
                have w := badt_w0_5 s a b ((a1, b1, c1, d1), at1, _) u1 ((a2, b2, c2, d2), at2, _) u2 ((a3, b3, c3, d3), at3, _) u3
                simp only [e1, hk, e2, e3, hm, e4, e5, e6, e8, e9, e10, Int.toNat_natCast] at w
                apply w
                all_goals first | exact hw | exact hvp | exact hkS | exact hmS | exact hc0 | omega | ((try simp only [b0N_pre, b1M_pre, b2M_pre, b3M_pre, b1F_pre, b2F_pre, b3F_pre, b_pr0, b_pr1, b_pr2, b_pr3, p1S_pre, p1T_pre, p1B_pre, p2S_pre, p2T_pre, p2B_pre, p3T_pre, p3B_pre, p1F_pre, p2F_pre, p3F_pre, p_pr1, p_pr2, p_pr3, e1M_pre, e2M_pre, e3M_pre, e1F_pre, e2F_pre, e3F_pre, e1W_pre, e2W_pre, e3W_pre, e1G_pre, e2G_pre, e3G_pre, e_pr1, e_pr2, e_pr3]); (try simp only [hE0, hbN, hbM, hpX, hpY, hpZ, fedP_1, hr1, hD, lX, lY, lZ, ob_flat, List.all_append, hr2, hr3]); (try simp [bcode, pcode, ecode, hE0, cx, cy, cz, ca, ca2]); first | done | omega | (first | exact ⟨_, by rw [slen_sub]; omega, rfl⟩ | exact ⟨_, by rw [slen_cat, slen_sub, slen_sub]; omega, ob_cat _ _⟩ | exact ⟨_, by rw [slen_cat, slen_cat, slen_sub, slen_sub, slen_sub]; omega, ob_cat3 _ _ _⟩ | exact ⟨_, by rw [slen_cat, slen_cat, slen_sub, slen_sub, slen_sub]; omega, ob_cat4 _ _ _⟩) | (refine ⟨?_, ?_⟩ <;> first | omega | (first | exact ⟨_, by rw [slen_sub]; omega, rfl⟩ | exact ⟨_, by rw [slen_cat, slen_sub, slen_sub]; omega, ob_cat _ _⟩ | exact ⟨_, by rw [slen_cat, slen_cat, slen_sub, slen_sub, slen_sub]; omega, ob_cat3 _ _ _⟩ | exact ⟨_, by rw [slen_cat, slen_cat, slen_sub, slen_sub, slen_sub]; omega, ob_cat4 _ _ _⟩)) | skip)
            ·
              by_cases ca : a3 = 0
              · have ca2 : (a3 == 0) = true := by simpa using ca
                have w := badt_w0_6 s a b ((a1, b1, c1, d1), at1, _) u1 ((a2, b2, c2, d2), at2, _) u2 ((a3, b3, c3, d3), at3, _) u3
                simp only [e1, hk, e2, e3, hm, e4, e5, e6, e8, e9, e10, Int.toNat_natCast] at w
                apply w
                all_goals first | exact hw | exact hvp | exact hkS | exact hmS | exact hc0 | omega | ((try simp only [b0N_pre, b1M_pre, b2M_pre, b3M_pre, b1F_pre, b2F_pre, b3F_pre, b_pr0, b_pr1, b_pr2, b_pr3, p1S_pre, p1T_pre, p1B_pre, p2S_pre, p2T_pre, p2B_pre, p3T_pre, p3B_pre, p1F_pre, p2F_pre, p3F_pre, p_pr1, p_pr2, p_pr3, e1M_pre, e2M_pre, e3M_pre, e1F_pre, e2F_pre, e3F_pre, e1W_pre, e2W_pre, e3W_pre, e1G_pre, e2G_pre, e3G_pre, e_pr1, e_pr2, e_pr3]); (try simp only [hE0, hbN, hbM, hpX, hpY, hpZ, fedP_1, hr1, hD, lX, lY, lZ, ob_flat, List.all_append, hr2, hr3]); (try simp [bcode, pcode, ecode, hE0, cx, cy, cz, ca, ca2]); first | done | omega | (first | exact ⟨_, by rw [slen_sub]; omega, rfl⟩ | exact ⟨_, by rw [slen_cat, slen_sub, slen_sub]; omega, ob_cat _ _⟩ | exact ⟨_, by rw [slen_cat, slen_cat, slen_sub, slen_sub, slen_sub]; omega, ob_cat3 _ _ _⟩ | exact ⟨_, by rw [slen_cat, slen_cat, slen_sub, slen_sub, slen_sub]; omega, ob_cat4 _ _ _⟩) | (refine ⟨?_, ?_⟩ <;> first | omega | (first | exact ⟨_, by rw [slen_sub]; omega, rfl⟩ | exact ⟨_, by rw [slen_cat, slen_sub, slen_sub]; omega, ob_cat _ _⟩ | exact ⟨_, by rw [slen_cat, slen_cat, slen_sub, slen_sub, slen_sub]; omega, ob_cat3 _ _ _⟩ | exact ⟨_, by rw [slen_cat, slen_cat, slen_sub, slen_sub, slen_sub]; omega, ob_cat4 _ _ _⟩)) | skip)
              · have ca2 : (a3 == 0) = false := by simpa using ca
                have w := badt_w0_7 s a b ((a1, b1, c1, d1), at1, _) u1 ((a2, b2, c2, d2), at2, _) u2 ((a3, b3, c3, d3), at3, _) u3
                simp only [e1, hk, e2, e3, hm, e4, e5, e6, e8, e9, e10, Int.toNat_natCast] at w
                apply w
                all_goals first | exact hw | exact hvp | exact hkS | exact hmS | exact hc0 | omega | ((try simp only [b0N_pre, b1M_pre, b2M_pre, b3M_pre, b1F_pre, b2F_pre, b3F_pre, b_pr0, b_pr1, b_pr2, b_pr3, p1S_pre, p1T_pre, p1B_pre, p2S_pre, p2T_pre, p2B_pre, p3T_pre, p3B_pre, p1F_pre, p2F_pre, p3F_pre, p_pr1, p_pr2, p_pr3, e1M_pre, e2M_pre, e3M_pre, e1F_pre, e2F_pre, e3F_pre, e1W_pre, e2W_pre, e3W_pre, e1G_pre, e2G_pre, e3G_pre, e_pr1, e_pr2, e_pr3]); (try simp only [hE0, hbN, hbM, hpX, hpY, hpZ, fedP_1, hr1, hD, lX, lY, lZ, ob_flat, List.all_append, hr2, hr3]); (try simp [bcode, pcode, ecode, hE0, cx, cy, cz, ca, ca2]); first | done | omega | (first | exact ⟨_, by rw [slen_sub]; omega, rfl⟩ | exact ⟨_, by rw [slen_cat, slen_sub, slen_sub]; omega, ob_cat _ _⟩ | exact ⟨_, by rw [slen_cat, slen_cat, slen_sub, slen_sub, slen_sub]; omega, ob_cat3 _ _ _⟩ | exact ⟨_, by rw [slen_cat, slen_cat, slen_sub, slen_sub, slen_sub]; omega, ob_cat4 _ _ _⟩) | (refine ⟨?_, ?_⟩ <;> first | omega | (first | exact ⟨_, by rw [slen_sub]; omega, rfl⟩ | exact ⟨_, by rw [slen_cat, slen_sub, slen_sub]; omega, ob_cat _ _⟩ | exact ⟨_, by rw [slen_cat, slen_cat, slen_sub, slen_sub, slen_sub]; omega, ob_cat3 _ _ _⟩ | exact ⟨_, by rw [slen_cat, slen_cat, slen_sub, slen_sub, slen_sub]; omega, ob_cat4 _ _ _⟩)) | skip)
        ·
          have g3 : 0 ≤ at3 ∧ at3 ≤ 900 := by
            have h := feedL_at (toL (sub s l (slen s))) (a2, b2, c2, d2) at2
            rw [hr3] at h
            have hx : (toL (sub s l (slen s))).length = slen s - l := lZ
            rw [hx] at h
            simp only [] at h
            omega
          cases bad3 with
          | true =>
            have w := badt_w0_8 s a b ((a1, b1, c1, d1), at1, _) u1 ((a2, b2, c2, d2), at2, _) u2 ((a3, b3, c3, d3), at3, _) u3
            simp only [e1, hk, e2, e3, hm, e4, e5, e6, e8, e9, e10, Int.toNat_natCast] at w
            apply w
            all_goals first | exact hw | exact hvp | exact hkS | exact hmS | exact hc0 | omega | ((try simp only [b0N_pre, b1M_pre, b2M_pre, b3M_pre, b1F_pre, b2F_pre, b3F_pre, b_pr0, b_pr1, b_pr2, b_pr3, p1S_pre, p1T_pre, p1B_pre, p2S_pre, p2T_pre, p2B_pre, p3T_pre, p3B_pre, p1F_pre, p2F_pre, p3F_pre, p_pr1, p_pr2, p_pr3, e1M_pre, e2M_pre, e3M_pre, e1F_pre, e2F_pre, e3F_pre, e1W_pre, e2W_pre, e3W_pre, e1G_pre, e2G_pre, e3G_pre, e_pr1, e_pr2, e_pr3]); (try simp only [hE0, hbN, hbM, hpX, hpY, hpZ, fedP_1, hr1, hD, lX, lY, lZ, ob_flat, List.all_append, hr2, hr3]); (try simp [bcode, pcode, ecode, hE0, cx, cy]); first | done | omega | (first | exact ⟨_, by rw [slen_sub]; omega, rfl⟩ | exact ⟨_, by rw [slen_cat, slen_sub, slen_sub]; omega, ob_cat _ _⟩ | exact ⟨_, by rw [slen_cat, slen_cat, slen_sub, slen_sub, slen_sub]; omega, ob_cat3 _ _ _⟩ | exact ⟨_, by rw [slen_cat, slen_cat, slen_sub, slen_sub, slen_sub]; omega, ob_cat4 _ _ _⟩) | (refine ⟨?_, ?_⟩ <;> first | omega | (first | exact ⟨_, by rw [slen_sub]; omega, rfl⟩ | exact ⟨_, by rw [slen_cat, slen_sub, slen_sub]; omega, ob_cat _ _⟩ | exact ⟨_, by rw [slen_cat, slen_cat, slen_sub, slen_sub, slen_sub]; omega, ob_cat3 _ _ _⟩ | exact ⟨_, by rw [slen_cat, slen_cat, slen_sub, slen_sub, slen_sub]; omega, ob_cat4 _ _ _⟩)) | skip)
          | false =>
            by_cases ca : a3 = 0
            · have ca2 : (a3 == 0) = true := by simpa using ca
              have w := badt_w0_9 s a b ((a1, b1, c1, d1), at1, _) u1 ((a2, b2, c2, d2), at2, _) u2 ((a3, b3, c3, d3), at3, _) u3
              simp only [e1, hk, e2, e3, hm, e4, e5, e6, e8, e9, e10, Int.toNat_natCast] at w
              apply w
              all_goals first | exact hw | exact hvp | exact hkS | exact hmS | exact hc0 | omega | ((try simp only [b0N_pre, b1M_pre, b2M_pre, b3M_pre, b1F_pre, b2F_pre, b3F_pre, b_pr0, b_pr1, b_pr2, b_pr3, p1S_pre, p1T_pre, p1B_pre, p2S_pre, p2T_pre, p2B_pre, p3T_pre, p3B_pre, p1F_pre, p2F_pre, p3F_pre, p_pr1, p_pr2, p_pr3, e1M_pre, e2M_pre, e3M_pre, e1F_pre, e2F_pre, e3F_pre, e1W_pre, e2W_pre, e3W_pre, e1G_pre, e2G_pre, e3G_pre, e_pr1, e_pr2, e_pr3]); (try simp only [hE0, hbN, hbM, hpX, hpY, hpZ, fedP_1, hr1, hD, lX, lY, lZ, ob_flat, List.all_append, hr2, hr3]); (try simp [bcode, pcode, ecode, hE0, cx, cy, ca, ca2]); first | done | omega | (first | exact ⟨_, by rw [slen_sub]; omega, rfl⟩ | exact ⟨_, by rw [slen_cat, slen_sub, slen_sub]; omega, ob_cat _ _⟩ | exact ⟨_, by rw [slen_cat, slen_cat, slen_sub, slen_sub, slen_sub]; omega, ob_cat3 _ _ _⟩ | exact ⟨_, by rw [slen_cat, slen_cat, slen_sub, slen_sub, slen_sub]; omega, ob_cat4 _ _ _⟩) | (refine ⟨?_, ?_⟩ <;> first | omega | (first | exact ⟨_, by rw [slen_sub]; omega, rfl⟩ | exact ⟨_, by rw [slen_cat, slen_sub, slen_sub]; omega, ob_cat _ _⟩ | exact ⟨_, by rw [slen_cat, slen_cat, slen_sub, slen_sub, slen_sub]; omega, ob_cat3 _ _ _⟩ | exact ⟨_, by rw [slen_cat, slen_cat, slen_sub, slen_sub, slen_sub]; omega, ob_cat4 _ _ _⟩)) | skip)
            · have ca2 : (a3 == 0) = false := by simpa using ca
              have w := badt_w0_10 s a b ((a1, b1, c1, d1), at1, _) u1 ((a2, b2, c2, d2), at2, _) u2 ((a3, b3, c3, d3), at3, _) u3
              simp only [e1, hk, e2, e3, hm, e4, e5, e6, e8, e9, e10, Int.toNat_natCast] at w
              apply w
              all_goals first | exact hw | exact hvp | exact hkS | exact hmS | exact hc0 | omega | ((try simp only [b0N_pre, b1M_pre, b2M_pre, b3M_pre, b1F_pre, b2F_pre, b3F_pre, b_pr0, b_pr1, b_pr2, b_pr3, p1S_pre, p1T_pre, p1B_pre, p2S_pre, p2T_pre, p2B_pre, p3T_pre, p3B_pre, p1F_pre, p2F_pre, p3F_pre, p_pr1, p_pr2, p_pr3, e1M_pre, e2M_pre, e3M_pre, e1F_pre, e2F_pre, e3F_pre, e1W_pre, e2W_pre, e3W_pre, e1G_pre, e2G_pre, e3G_pre, e_pr1, e_pr2, e_pr3]); (try simp only [hE0, hbN, hbM, hpX, hpY, hpZ, fedP_1, hr1, hD, lX, lY, lZ, ob_flat, List.all_append, hr2, hr3]); (try simp [bcode, pcode, ecode, hE0, cx, cy, ca, ca2]); first | done | omega | (first | exact ⟨_, by rw [slen_sub]; omega, rfl⟩ | exact ⟨_, by rw [slen_cat, slen_sub, slen_sub]; omega, ob_cat _ _⟩ | exact ⟨_, by rw [slen_cat, slen_cat, slen_sub, slen_sub, slen_sub]; omega, ob_cat3 _ _ _⟩ | exact ⟨_, by rw [slen_cat, slen_cat, slen_sub, slen_sub, slen_sub]; omega, ob_cat4 _ _ _⟩) | (refine ⟨?_, ?_⟩ <;> first | omega | (first | exact ⟨_, by rw [slen_sub]; omega, rfl⟩ | exact ⟨_, by rw [slen_cat, slen_sub, slen_sub]; omega, ob_cat _ _⟩ | exact ⟨_, by rw [slen_cat, slen_cat, slen_sub, slen_sub, slen_sub]; omega, ob_cat3 _ _ _⟩ | exact ⟨_, by rw [slen_cat, slen_cat, slen_sub, slen_sub, slen_sub]; omega, ob_cat4 _ _ _⟩)) | skip)
    ·
      have g2 : 0 ≤ at2 ∧ at2 ≤ 600 := by
        have h := feedL_at (toL (sub s k l)) (a1, b1, c1, d1) at1
        rw [hr2] at h
        have hx : (toL (sub s k l)).length = l - k := lY
        rw [hx] at h
        simp only [] at h
        omega
      cases bad2 with
      | true =>
        rw [feedL_bad] at hr3
        simp only [Prod.mk.injEq] at hr3
        obtain ⟨⟨rfl, rfl, rfl, rfl⟩, rfl, rfl⟩ := hr3
        have w := badt_w0_11 s a b ((a1, b1, c1, d1), at1, _) u1 ((a2, b2, c2, d2), at2, _) u2
        simp only [e1, hk, e2, e3, hm, e4, e5, e6, e8, e9, e10, Int.toNat_natCast] at w
        apply w
        all_goals first | exact hw | exact hvp | exact hkS | exact hmS | exact hc0 | omega | ((try simp only [b0N_pre, b1M_pre, b2M_pre, b3M_pre, b1F_pre, b2F_pre, b3F_pre, b_pr0, b_pr1, b_pr2, b_pr3, p1S_pre, p1T_pre, p1B_pre, p2S_pre, p2T_pre, p2B_pre, p3T_pre, p3B_pre, p1F_pre, p2F_pre, p3F_pre, p_pr1, p_pr2, p_pr3, e1M_pre, e2M_pre, e3M_pre, e1F_pre, e2F_pre, e3F_pre, e1W_pre, e2W_pre, e3W_pre, e1G_pre, e2G_pre, e3G_pre, e_pr1, e_pr2, e_pr3]); (try simp only [hE0, hbN, hbM, hpX, hpY, hpZ, fedP_1, hr1, hD, lX, lY, lZ, ob_flat, List.all_append, hr2]); (try simp [bcode, pcode, ecode, hE0, cx]); first | done | omega | (first | exact ⟨_, by rw [slen_sub]; omega, rfl⟩ | exact ⟨_, by rw [slen_cat, slen_sub, slen_sub]; omega, ob_cat _ _⟩ | exact ⟨_, by rw [slen_cat, slen_cat, slen_sub, slen_sub, slen_sub]; omega, ob_cat3 _ _ _⟩ | exact ⟨_, by rw [slen_cat, slen_cat, slen_sub, slen_sub, slen_sub]; omega, ob_cat4 _ _ _⟩) | (refine ⟨?_, ?_⟩ <;> first | omega | (first | exact ⟨_, by rw [slen_sub]; omega, rfl⟩ | exact ⟨_, by rw [slen_cat, slen_sub, slen_sub]; omega, ob_cat _ _⟩ | exact ⟨_, by rw [slen_cat, slen_cat, slen_sub, slen_sub, slen_sub]; omega, ob_cat3 _ _ _⟩ | exact ⟨_, by rw [slen_cat, slen_cat, slen_sub, slen_sub, slen_sub]; omega, ob_cat4 _ _ _⟩)) | skip)
      | false =>
        have g3 : 0 ≤ at3 ∧ at3 ≤ 900 := by
          have h := feedL_at (toL (sub s l (slen s))) (a2, b2, c2, d2) at2
          rw [hr3] at h
          have hx : (toL (sub s l (slen s))).length = slen s - l := lZ
          rw [hx] at h
          simp only [] at h
          omega
        cases bad3 with
        | true =>
          have w := badt_w0_12 s a b ((a1, b1, c1, d1), at1, _) u1 ((a2, b2, c2, d2), at2, _) u2 ((a3, b3, c3, d3), at3, _) u3
          simp only [e1, hk, e2, e3, hm, e4, e5, e6, e8, e9, e10, Int.toNat_natCast] at w
          apply w
          all_goals first | exact hw | exact hvp | exact hkS | exact hmS | exact hc0 | omega | ((try simp only [b0N_pre, b1M_pre, b2M_pre, b3M_pre, b1F_pre, b2F_pre, b3F_pre, b_pr0, b_pr1, b_pr2, b_pr3, p1S_pre, p1T_pre, p1B_pre, p2S_pre, p2T_pre, p2B_pre, p3T_pre, p3B_pre, p1F_pre, p2F_pre, p3F_pre, p_pr1, p_pr2, p_pr3, e1M_pre, e2M_pre, e3M_pre, e1F_pre, e2F_pre, e3F_pre, e1W_pre, e2W_pre, e3W_pre, e1G_pre, e2G_pre, e3G_pre, e_pr1, e_pr2, e_pr3]); (try simp only [hE0, hbN, hbM, hpX, hpY, hpZ, fedP_1, hr1, hD, lX, lY, lZ, ob_flat, List.all_append, hr2, hr3]); (try simp [bcode, pcode, ecode, hE0, cx]); first | done | omega | (first | exact ⟨_, by rw [slen_sub]; omega, rfl⟩ | exact ⟨_, by rw [slen_cat, slen_sub, slen_sub]; omega, ob_cat _ _⟩ | exact ⟨_, by rw [slen_cat, slen_cat, slen_sub, slen_sub, slen_sub]; omega, ob_cat3 _ _ _⟩ | exact ⟨_, by rw [slen_cat, slen_cat, slen_sub, slen_sub, slen_sub]; omega, ob_cat4 _ _ _⟩) | (refine ⟨?_, ?_⟩ <;> first | omega | (first | exact ⟨_, by rw [slen_sub]; omega, rfl⟩ | exact ⟨_, by rw [slen_cat, slen_sub, slen_sub]; omega, ob_cat _ _⟩ | exact ⟨_, by rw [slen_cat, slen_cat, slen_sub, slen_sub, slen_sub]; omega, ob_cat3 _ _ _⟩ | exact ⟨_, by rw [slen_cat, slen_cat, slen_sub, slen_sub, slen_sub]; omega, ob_cat4 _ _ _⟩)) | skip)
        | false =>
          by_cases ca : a3 = 0
          · have ca2 : (a3 == 0) = true := by simpa using ca
            have w := badt_w0_13 s a b ((a1, b1, c1, d1), at1, _) u1 ((a2, b2, c2, d2), at2, _) u2 ((a3, b3, c3, d3), at3, _) u3
            simp only [e1, hk, e2, e3, hm, e4, e5, e6, e8, e9, e10, Int.toNat_natCast] at w
            apply w
            all_goals first | exact hw | exact hvp | exact hkS | exact hmS | exact hc0 | omega | ((try simp only [b0N_pre, b1M_pre, b2M_pre, b3M_pre, b1F_pre, b2F_pre, b3F_pre, b_pr0, b_pr1, b_pr2, b_pr3, p1S_pre, p1T_pre, p1B_pre, p2S_pre, p2T_pre, p2B_pre, p3T_pre, p3B_pre, p1F_pre, p2F_pre, p3F_pre, p_pr1, p_pr2, p_pr3, e1M_pre, e2M_pre, e3M_pre, e1F_pre, e2F_pre, e3F_pre, e1W_pre, e2W_pre, e3W_pre, e1G_pre, e2G_pre, e3G_pre, e_pr1, e_pr2, e_pr3]); (try simp only [hE0, hbN, hbM, hpX, hpY, hpZ, fedP_1, hr1, hD, lX, lY, lZ, ob_flat, List.all_append, hr2, hr3]); (try simp [bcode, pcode, ecode, hE0, cx, ca, ca2]); first | done | omega | (first | exact ⟨_, by rw [slen_sub]; omega, rfl⟩ | exact ⟨_, by rw [slen_cat, slen_sub, slen_sub]; omega, ob_cat _ _⟩ | exact ⟨_, by rw [slen_cat, slen_cat, slen_sub, slen_sub, slen_sub]; omega, ob_cat3 _ _ _⟩ | exact ⟨_, by rw [slen_cat, slen_cat, slen_sub, slen_sub, slen_sub]; omega, ob_cat4 _ _ _⟩) | (refine ⟨?_, ?_⟩ <;> first | omega | (first | exact ⟨_, by rw [slen_sub]; omega, rfl⟩ | exact ⟨_, by rw [slen_cat, slen_sub, slen_sub]; omega, ob_cat _ _⟩ | exact ⟨_, by rw [slen_cat, slen_cat, slen_sub, slen_sub, slen_sub]; omega, ob_cat3 _ _ _⟩ | exact ⟨_, by rw [slen_cat, slen_cat, slen_sub, slen_sub, slen_sub]; omega, ob_cat4 _ _ _⟩)) | skip)
          · have ca2 : (a3 == 0) = false := by simpa using ca
            have w := badt_w0_14 s a b ((a1, b1, c1, d1), at1, _) u1 ((a2, b2, c2, d2), at2, _) u2 ((a3, b3, c3, d3), at3, _) u3
            simp only [e1, hk, e2, e3, hm, e4, e5, e6, e8, e9, e10, Int.toNat_natCast] at w
            apply w
            all_goals first | exact hw | exact hvp | exact hkS | exact hmS | exact hc0 | omega | ((try simp only [b0N_pre, b1M_pre, b2M_pre, b3M_pre, b1F_pre, b2F_pre, b3F_pre, b_pr0, b_pr1, b_pr2, b_pr3, p1S_pre, p1T_pre, p1B_pre, p2S_pre, p2T_pre, p2B_pre, p3T_pre, p3B_pre, p1F_pre, p2F_pre, p3F_pre, p_pr1, p_pr2, p_pr3, e1M_pre, e2M_pre, e3M_pre, e1F_pre, e2F_pre, e3F_pre, e1W_pre, e2W_pre, e3W_pre, e1G_pre, e2G_pre, e3G_pre, e_pr1, e_pr2, e_pr3]); (try simp only [hE0, hbN, hbM, hpX, hpY, hpZ, fedP_1, hr1, hD, lX, lY, lZ, ob_flat, List.all_append, hr2, hr3]); (try simp [bcode, pcode, ecode, hE0, cx, ca, ca2]); first | done | omega | (first | exact ⟨_, by rw [slen_sub]; omega, rfl⟩ | exact ⟨_, by rw [slen_cat, slen_sub, slen_sub]; omega, ob_cat _ _⟩ | exact ⟨_, by rw [slen_cat, slen_cat, slen_sub, slen_sub, slen_sub]; omega, ob_cat3 _ _ _⟩ | exact ⟨_, by rw [slen_cat, slen_cat, slen_sub, slen_sub, slen_sub]; omega, ob_cat4 _ _ _⟩) | (refine ⟨?_, ?_⟩ <;> first | omega | (first | exact ⟨_, by rw [slen_sub]; omega, rfl⟩ | exact ⟨_, by rw [slen_cat, slen_sub, slen_sub]; omega, ob_cat _ _⟩ | exact ⟨_, by rw [slen_cat, slen_cat, slen_sub, slen_sub, slen_sub]; omega, ob_cat3 _ _ _⟩ | exact ⟨_, by rw [slen_cat, slen_cat, slen_sub, slen_sub, slen_sub]; omega, ob_cat4 _ _ _⟩)) | skip)

theorem walk (a0 : ByteArray) (w0 : a0.size ≤ maxLen) (a1 : Int) (w1 : (Lit.int .i64 a1).wf = true) (a2 : Int) (w2 : (Lit.int .i64 a2).wf = true) (W : World) (args' : Array Value)
    (ha : ∀ ρ, VL (prOf W) (AN []) ρ [.string a0, .int .i64 a1, .int .i64 a2] args'.toList) :
    Calls Try.prog 7 args' W fun e w' => e = .returned (.bool true) ∧ Stays W w' :=
  calls_of_ends (all a0 a1 (by simp [Lit.wf, IntKind.min, IntKind.max, IntKind.bits, IntKind.signed] at w1; omega) a2 (by simp [Lit.wf, IntKind.min, IntKind.max, IntKind.bits, IntKind.signed] at w2; omega)) (by kernel_rfl) rfl ha

theorem own : ownKnob Try.prog.godebug = none := by kernel_rfl
theorem laid : laidOutB Try.prog = true := by kernel_rfl

set_option maxRecDepth 100000 in
theorem lifted (os : Os) (started : os.Started) (H : Type) (enc : TypeId × Value → H) :
    ReturnsInHanded {} Try.checked os 7 .any (Rows.messageBadSpec.pre6 enc Try.prog Try.f7 Rows.messageBadRow.domain false) (Rows.messageBadSpec.post enc Try.prog Try.f7 false true false false) := by
  refine returnsInHanded_of_change (C := Try.checked) own started (by kernel_rfl) Try.func7
    (ChangeSpec.witness6 (enc := enc) (C := Try.checked) false ⟨#[], #[.string ⟨#[]⟩, .int .i64 0, .int .i64 0], []⟩ 8 (by kernel_rfl) (by kernel_rfl) (by kernel_rfl) (by kernel_rfl)) ?_
  intro W base args ds gs before hval0 hW hcnd _
  have hval : ∀ (j : Nat) t v, Try.f7.params[j]? = some t → args[j]? = some v → Value.okWide Try.prog W .any base t v := hval0
  have hW' := hW
  obtain ⟨p, q, hA0, hV, rfl, hfz, hnd⟩ := hW
  have hA : DataW.TrodAll enc Try.prog W 0 (fun _ => true) true Try.f7.params.toList args.toList ds p := hA0
  rw [Try.params7] at hA hval
  obtain ⟨v0, vs0, d0, ds0, p0, q0, hargs, rfl, rfl, h0, r0⟩ := trodAll_cons hA
  obtain ⟨v1, vs1, d1, ds1, p1, q1, rfl, rfl, rfl, h1, r1⟩ := trodAll_cons r0
  obtain ⟨v2, vs2, d2, ds2, p2, q2, rfl, rfl, rfl, h2, r2⟩ := trodAll_cons r1
  obtain ⟨rfl, rfl, rfl⟩ := trodAll_nil r2
  obtain rfl : args = #[v0, v1, v2] := by cases args; simp_all
  obtain ⟨a0, x0, w0⟩ := read_string Try.underlying9 (hval 0 9 v0 rfl rfl) h0
  obtain ⟨a1, x1, w1⟩ := read_int Try.underlying3 (hval 1 3 v1 rfl rfl) h1
  obtain ⟨a2, x2, w2⟩ := read_int Try.underlying3 (hval 2 3 v2 rfl rfl) h2
  refine (walk a0 w0 a1 w1 a2 w2 W _ (fun ρ => .cons (x0 _ _) (.cons (x1 _ _) (.cons (x2 _ _) (.nil))))).mono fun e W' ⟨he, hg⟩ => ?_
  subst he
  exact ⟨_, rfl, post_law (tb := 4) laid (by rw [Try.params7]; intro t ht; simp only [List.mem_cons, List.not_mem_nil, or_false] at ht; rcases ht with rfl | rfl | rfl <;> exact ⟨by kernel_rfl, by decide +kernel⟩) rfl (by kernel_rfl) Try.underlying4 (by rintro _ rfl; rfl) hW' hg⟩

theorem over : Rows.messageBadRow.holds Try.pinned (OpenSpec.ofChange Rows.messageBadSpec) :=
  OpenClaim.holds_of_wide 7 Try.f7 rfl rfl rfl rfl rfl rfl rfl ⟨rfl, rfl, rfl, rfl, rfl⟩ rfl rfl rfl rfl rfl (by kernel_rfl) Try.func7 (by kernel_rfl)
    (of_decide_eq_true (by kernel_rfl)) (by unfold Func.isWrapper; first | (rw [if_pos (by decide +kernel)]; kernel_rfl) | (rw [if_neg (by decide +kernel)]; exact ⟨rfl, rfl⟩))
    (fun os started H enc _ => lifted os started H enc)

theorem proved : Rows.MessageBadSaid :=
  over


end Go.Proofs.Ytgaedhpeiamdfaa.messageBad
