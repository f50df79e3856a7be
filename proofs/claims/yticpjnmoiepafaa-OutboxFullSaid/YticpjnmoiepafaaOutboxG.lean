/-
  The statement OutboxFull hands back true.
-/
import Derived.Test.YticpjnmoiepafaaOutboxF
set_option linter.unusedVariables false
set_option linter.unusedSimpArgs false
open Go Go.Am
namespace Go.Proofs.Yticpjnmoiepafaa

theorem S_get {l : List ByteArray} {i : Nat} {x : ByteArray} (h : l[i]? = some x) : (l.map Value.string).getD i undef = .string x := by
  rw [List.getD_eq_getElem?_getD, List.getElem?_map, h]; rfl
def itF (s : ByteArray) : Int × Int × ByteArray := (3, 1, s)
theorem mR_pre {mx first n : Int} {ln : Nat} {L : List Value} {l : List mT} (h : mR mx first n ln L l) (k o : Int) (x : ByteArray) : mpushc_pre mx first n ln L k o x := ⟨_, h⟩
theorem full_run2 {q : Int} (hq : 1 ≤ q ∧ q ≤ 64) (l : List ByteArray) (hl : l.length ≤ 100) (m : Nat) (hm : (m : Int) = bif decide ((l.length : Int) < q) then (l.length : Int) else q) : ∀ (k j : Nat) (first n : Int) (ln : Nat) (L : List Value), j + k = m → mR q first n ln L (((l.take m).drop j).map itF) →
    AEnds E 3 0 (full_h2 q l first n ln L j) (.bool true) []
  | 0, j, first, n, ln, L, hj, hR => by
    have hd : ((l.take m).drop j).map itF = [] := by rw [List.drop_eq_nil_of_le (by simp; omega)]; rfl
    rw [hd] at hR
    obtain ⟨p1, p2⟩ := mpop_nil hR
    obtain ⟨f', n', ln', L', u1, u2⟩ := mpush_in hR (3, 2, ⟨#[120]⟩) (by have := (mR_n hR).1; simp at this; omega)
    have hn := (mR_n u2).1
    have w := full_w2_7 q l first n ln L j _ p2 _ u1
    have hd2 : decide ((j : Int) < bif decide ((l.length : Int) < q) then (l.length : Int) else q) = false := by rw [← hm]; simp; omega
    exact w trivial (by simp [hn]) (mR_flat u2) (mlen_in u2) rfl (mR_flat hR) (mR_pre hR _ _ _) rfl (mR_flat hR) p1 hd2
  | k + 1, j, first, n, ln, L, hj, hR => by
    have hml : m ≤ l.length := by
      by_cases c : (l.length : Int) < q
      · rw [decide_eq_true c, cond_true] at hm; omega
      · rw [decide_eq_false c, cond_false] at hm; omega
    obtain ⟨x, hx⟩ : ∃ x, l[j]? = some x := ⟨_, List.getElem?_eq_getElem (by omega)⟩
    have hget := S_get hx
    have hd : (l.take m).drop j = x :: (l.take m).drop (j + 1) := by
      have hjl : j < (l.take m).length := by simp; omega
      rw [List.drop_eq_getElem_cons hjl]
      congr 1
      have : (l.take m)[j]? = some x := by rw [List.getElem?_take, if_pos (by omega)]; exact hx
      rw [List.getElem?_eq_getElem hjl] at this
      exact Option.some.inj this
    rw [hd, List.map_cons] at hR
    obtain ⟨p1, f', n', L', p2, p3⟩ := mpop_cons hR
    have w := full_w2_3 q l first n ln L j
    simp only [Int.toNat_natCast, Nat.mul_one, hget, toStr, isStr] at w
    have w := w _ p2
    rw [wrap64_in (x := (j : Int) + 1) (by omega) (by omega)] at w
    have hd2 : decide ((j : Int) < bif decide ((l.length : Int) < q) then (l.length : Int) else q) = true := by rw [← hm]; simp; omega
    refine Gets.ends ?_ (full_run2 hq l hl m hm k (j + 1) f' n' ln L' (by omega) p3)
    exact w (mR_flat p3) rfl rfl (by simp [itF]) (by simp; omega) trivial (by omega) (by omega) (by simp; omega) rfl (mR_flat hR) p1 hd2
theorem full_run1 {q : Int} (hq : 1 ≤ q ∧ q ≤ 64) (l : List ByteArray) (hl : l.length ≤ 100) : ∀ (k i : Nat) (first n : Int) (ln : Nat) (L : List Value), i + k = l.length → mR q first n ln L ((l.take (min i q.toNat)).map itF) →
    AEnds E 3 0 (full_h1 q l i first n ln L) (.bool true) []
  | 0, i, first, n, ln, L, hi, hR => by
    have w := full_w1_5 q l i first n ln L (mR_flat hR) (by simp; omega)
    refine w.ends (full_run2 hq l hl (min i q.toNat) ?_ (min i q.toNat) 0 first n ln L (by omega) hR)
    by_cases c : (l.length : Int) < q
    · rw [decide_eq_true c, cond_true]; omega
    · rw [decide_eq_false c, cond_false]; omega
  | k + 1, i, first, n, ln, L, hi, hR => by
    obtain ⟨x, hx⟩ : ∃ x, l[i]? = some x := ⟨_, List.getElem?_eq_getElem (by omega)⟩
    have hget := S_get hx
    have hLf := mR_flat hR
    have hn := (mR_n hR).1
    simp only [List.length_map, List.length_take] at hn
    by_cases hs : 60 < (slen x : Int)
    · have w := full_w1_0 q l i first n ln L
      simp only [Int.toNat_natCast, Nat.mul_one, hget, toStr, isStr] at w
      exact w trivial (decide_eq_true hs) (by simp; omega) trivial (by omega) (by omega) (by simp; omega) (by simp; omega)
    · by_cases hiq : (i : Int) < q
      · obtain ⟨f', n', ln', L', u1, u2⟩ := mpush_in hR (itF x) (by omega)
        have w := full_w1_4 q l i first n ln L
        simp only [Int.toNat_natCast, Nat.mul_one, hget, toStr, isStr] at w
        have w := w _ u1
        rw [wrap64_in (x := (i : Int) + 1) (by omega) (by omega)] at w
        have e : (l.take (min i q.toNat)).map itF ++ [itF x] = (l.take (min (i + 1) q.toNat)).map itF := by
          rw [show min i q.toNat = i by omega, show min (i + 1) q.toNat = i + 1 by omega, List.take_add_one, hx]
          simp
        rw [e] at u2
        refine Gets.ends ?_ (full_run1 hq l hl k (i + 1) f' n' ln' L' (by omega) u2)
        exact w (mR_flat u2) (by rw [decide_eq_true hiq]; rfl) rfl hLf (mR_pre hR _ _ _) (by simp; omega) trivial (by omega) (by omega) (by simp; omega) (decide_eq_false hs) (by simp; omega)
      · have u1 := mpush_full (ln := ln) (L := L) (first := first) (itF x) (show q ≤ n by omega)
        have w := full_w1_2 q l i first n ln L
        simp only [Int.toNat_natCast, Nat.mul_one, hget, toStr, isStr] at w
        have w := w _ u1
        rw [wrap64_in (x := (i : Int) + 1) (by omega) (by omega)] at w
        have e : min i q.toNat = min (i + 1) q.toNat := by omega
        have hR2 := hR
        rw [e] at hR2
        refine Gets.ends ?_ (full_run1 hq l hl k (i + 1) first n ln L (by omega) hR2)
        exact w hLf (by rw [decide_eq_false hiq]; rfl) rfl hLf (mR_pre hR _ _ _) (by simp; omega) trivial (by omega) (by omega) (by simp; omega) (decide_eq_false hs) (by simp; omega)
theorem full_all (q : Int) (l : List ByteArray) : AEnds E 3 0 (startC E 3 [.int .i64 q, .iface l.length (.agg (l.map Value.string).toArray)] []) (.bool true) [] := by
  by_cases c1 : q < 1
  · exact full_w0_0 q l trivial (decide_eq_true c1)
  by_cases c2 : 64 < q
  · exact full_w0_1 q l trivial (decide_eq_true c2) (decide_eq_false c1)
  by_cases c3 : 100 < (l.length : Int)
  · exact full_w0_2 q l trivial (decide_eq_true c3) (decide_eq_false c2) (decide_eq_false c1)
  refine (full_w0_4 q l (decide_eq_false (by omega)) (decide_eq_false c1) (decide_eq_false c2) (decide_eq_false c3)).ends (full_run1 ⟨by omega, by omega⟩ l (by omega) l.length 0 0 0 0 [] (Nat.zero_add _) ?_)
  rw [show min 0 q.toNat = 0 by omega]
  exact mR_nil (by omega) (by omega)
end Go.Proofs.Yticpjnmoiepafaa
