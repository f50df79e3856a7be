/-
  The statement RingOrder hands back true.
-/
import Derived.Test.YtabloimmlmgcbaaRingDq
import Derived.Test.YtabloimmlmgcbaaRingE
set_option linter.unusedVariables false
set_option linter.unusedSimpArgs false
open Go Go.Am
namespace Go.Proofs.Ytabloimmlmgcbaa

abbrev U (l : List Int) : List Value := l.map (Value.int .u16)
theorem U_flat (l : List Int) : (U l).all flat = true := by
  induction l with
  | nil => rfl
  | cons a r ih => rw [U, List.map_cons, List.all_cons, ih]; rfl
theorem U_get {l : List Int} {i : Nat} {x : Int} (h : l[i]? = some x) : (U l).getD i undef = .int .u16 x := by
  rw [List.getD_eq_getElem?_getD, List.getElem?_map, h]; rfl
theorem U_take (l : List Int) : List.take l.length (U l) = U l := List.take_of_length_le (by simp)
section
variable {most : Int} {l : List Int}
/-- All that is there, walked over. -/
theorem ulen_in {mx first n : Int} {ln : Nat} {L : List Value} {q : List Int} (h : uR mx first n ln L q) : ulen_S0 mx first n ln L := uR_flat h
theorem order_mx (hm : 0 ≤ most ∧ most ≤ 255) : IntKind.i64.wrap (1 + IntKind.i64.wrap most) = 1 + most := by rw [wrap64_in (x := most) (by omega) (by omega), wrap64_in (by omega) (by omega)]
theorem order_run6 (hm : 0 ≤ most ∧ most ≤ 255) {all q : List Int} {g : Nat} {first n : Int} {ln : Nat} {L : List Value} (hall : all.length ≤ 1000) (hgl : g ≤ all.length) (hg : all.drop g = q) (hR : uR (1 + most) first n ln L q) : ∀ k i, i + k = q.length →
    AEnds E 3 0 (order_h6 most l all.length first n ln (U all) L g q.length (U q) i ((g + i : Nat) : Int)) (.bool true) []
  | k, i, hi => by
    have hMX := order_mx hm
    have hLf := uR_flat hR
    obtain ⟨a1, a2, a3, a4, a5, a6, a7⟩ := uR_n hR
    have hql : q.length = all.length - g := by rw [← hg]; simp
    match k with
    | 0 =>
      have w := order_w6_1 most l all.length first n ln (U all) L g q.length (U q) i ((g + i : Nat) : Int)
      have e : (n == IntKind.i64.wrap (((g + i : Nat) : Int) - (g : Int))) = true := by
        rw [wrap64_in (by omega) (by omega)]; simp; omega
      rw [e, hMX] at w
      exact w hLf (ulen_in hR) (by simp; omega) (by simp; omega)
    | k + 1 =>
      have hiq : i < q.length := by omega
      obtain ⟨x, hx⟩ : ∃ x, q[i]? = some x := ⟨_, List.getElem?_eq_getElem hiq⟩
      have hxa : all[g + i]? = some x := by rw [← hg, List.getElem?_drop] at hx; exact hx
      obtain ⟨s1, s2⟩ := uat_in hR hx
      have hga := U_get hxa
      have hgq := U_get hx
      have w := order_w6_7 most l all.length first n ln (U all) L g q.length (U q) i ((g + i : Nat) : Int)
      simp only [hMX, Int.toNat_natCast, Nat.mul_one, Nat.zero_add, hga, hgq, toInt, isInt, s2] at w
      rw [wrap64_in (x := ((g + i : Nat) : Int) - (g : Int)) (by omega) (by omega), wrap64_in (x := (i : Int) + 1) (by omega) (by omega), wrap64_in (x := ((g + i : Nat) : Int) + 1) (by omega) (by omega)] at w
      have ih := order_run6 hm hall hgl hg hR k (i + 1) (by omega)
      refine Gets.ends ?_ ih
      apply w
      all_goals first | assumption | rfl | omega | exact U_flat _ | (simp; done) | (simp; omega)
/-- All that is there, gathered. -/
theorem order_run5 (hm : 0 ≤ most ∧ most ≤ 255) {all q : List Int} {g : Nat} {first n : Int} {ln : Nat} {L : List Value} (hall : all.length ≤ 1000) (hgl : g ≤ all.length) (hg : all.drop g = q) (hR : uR (1 + most) first n ln L q) : ∀ k i, i + k = q.length →
    AEnds E 3 0 (order_h5 most l all.length first n ln (U all) L g i i (U (q.take i))) (.bool true) []
  | k, i, hi => by
    have hMX := order_mx hm
    have hLf := uR_flat hR
    obtain ⟨a1, a2, a3, a4, a5, a6, a7⟩ := uR_n hR
    have hql : q.length = all.length - g := by rw [← hg]; simp
    match k with
    | 0 =>
      have w := order_w5_1 most l all.length first n ln (U all) L g i i (U (q.take i))
      have ih := order_run6 (l := l) hm hall hgl hg hR q.length 0 (by omega)
      have e : q.take i = q := List.take_of_length_le (by omega)
      rw [e] at w ⊢
      rw [show i = q.length by omega] at w ⊢
      exact (w (U_flat _) (U_flat _) hLf (by simp; omega)).ends ih
    | k + 1 =>
      have hiq : i < q.length := by omega
      obtain ⟨x, hx⟩ : ∃ x, q[i]? = some x := ⟨_, List.getElem?_eq_getElem hiq⟩
      obtain ⟨s1, s2⟩ := uat_in hR hx
      have w := order_w5_0 most l all.length first n ln (U all) L g i i (U (q.take i))
      have e1 : List.take (i * 1) (List.drop 0 (U (q.take i))) ++ [Value.int .u16 x] = U (q.take (i + 1)) := by
        rw [List.take_add_one, hx, List.drop_zero, List.take_of_length_le (by simp; omega)]
        simp [U]
      simp only [hMX, s2, e1] at w
      rw [wrap64_in (x := (i : Int) + 1) (by omega) (by omega)] at w
      have ih := order_run5 hm hall hgl hg hR k (i + 1) (by omega)
      refine Gets.ends ?_ ih
      apply w
      all_goals first | assumption | rfl | omega | exact U_flat _ | (simp; done) | (simp; omega)
theorem order_run3 (hm : 0 ≤ most ∧ most ≤ 255) (hl : l.length ≤ 1000) : ∀ (k j : Nat) (all : List Int) (g : Nat) (first n : Int) (ln : Nat) (L : List Value), j + 1 + k = l.length → all.length ≤ j + 1 → g ≤ all.length → uR (1 + most) first n ln L (all.drop g) →
    AEnds E 3 0 (order_h3 most l j all.length first n ln (U all) L g) (.bool true) []
  | 0, j, all, g, first, n, ln, L, hj, hal, hg, hR => by
    have hMX := order_mx hm
    have hLf := uR_flat hR
    have w := order_w3_1 most l j all.length first n ln (U all) L g
    rw [hMX, wrap64_in (x := (j : Int) + 1) (by omega) (by omega)] at w
    exact (w (U_flat _) hLf (ulen_in hR) (by simp; omega)).ends (order_run5 hm (by omega) hg rfl hR _ 0 (Nat.zero_add _))
  | k + 1, j, all, g, first, n, ln, L, hj, hal, hg, hR => by
    have hMX := order_mx hm
    have hLf := uR_flat hR
    obtain ⟨a1, a2, a3, a4, a5, a6, a7⟩ := uR_n hR
    have hql : (all.drop g).length = all.length - g := by simp
    rw [hql] at a1 a2
    obtain ⟨x, hx⟩ : ∃ x, l[j + 1]? = some x := ⟨_, List.getElem?_eq_getElem (by omega)⟩
    have hget := U_get hx
    have hW : IntKind.i64.wrap ((j : Int) + 1) = ((j + 1 : Nat) : Int) := by rw [wrap64_in (by omega) (by omega)]; omega
    have hA : List.take all.length (U all) = U all := U_take all
    have dl : decide (((j + 1 : Nat) : Int) < (l.length : Int)) = true := by simp; omega
    by_cases hodd : x.tmod 2 = 0
    · have hb : (x.tmod 2 == 0) = true := by simp [hodd]
      by_cases hn : n < 1 + most
      · obtain ⟨f', n', ln', L', hp, hR'⟩ := upush_in hR x hn
        have w := order_w3_3 most l j all.length first n ln (U all) L g
        simp only [hMX, hW, Int.toNat_natCast, Nat.mul_one, hget, toInt, isInt, hp, List.drop_zero, hA] at w
        have hRn : uR (1 + most) f' n' ln' L' ((all ++ [x]).drop g) := by rw [List.drop_append_of_le_length hg]; exact hR'
        have ih := order_run3 hm hl k (j + 1) (all ++ [x]) g f' n' ln' L' (by omega) (by simp; omega) (by simp; omega) hRn
        simp only [U, List.map_append, List.map_cons, List.map_nil, List.length_append, List.length_cons, List.length_nil, Nat.zero_add] at ih
        refine Gets.ends ?_ ih
        have hLf' := uR_flat hR'
        have hpre := uR_pre hR x
        have hAf : (List.map (Value.int IntKind.u16) all ++ [Value.int IntKind.u16 x]).all flat = true := by rw [List.all_append, U_flat]; rfl
        have d : (!true == decide (IntKind.i64.wrap ((all.length : Int) - (g : Int)) < 1 + most)) = false := by
          rw [wrap64_in (by omega) (by omega), decide_eq_true (by omega)]; rfl
        apply w
        all_goals first | assumption | rfl | omega | (simp; done) | (simp; omega)
      · have hp := upush_full (ln := ln) (L := L) (first := first) x (show 1 + most ≤ n by omega)
        have w := order_w3_5 most l j all.length first n ln (U all) L g
        simp only [hMX, hW, Int.toNat_natCast, Nat.mul_one, hget, toInt, isInt, hp, List.drop_zero, hA] at w
        have ih := order_run3 hm hl k (j + 1) all g first n ln L (by omega) (by omega) hg hR
        refine Gets.ends ?_ ih
        have hpre := uR_pre hR x
        have hAf := U_flat all
        have d : (!false == decide (IntKind.i64.wrap ((all.length : Int) - (g : Int)) < 1 + most)) = false := by
          rw [wrap64_in (by omega) (by omega), decide_eq_false (by omega)]; rfl
        apply w
        all_goals first | assumption | rfl | omega | (simp; done) | (simp; omega)
    · have hb : (x.tmod 2 == 0) = false := by simp [hodd]
      have hAf := U_flat all
      by_cases hgl : g < all.length
      · obtain ⟨y, hy⟩ : ∃ y, all[g]? = some y := ⟨_, List.getElem?_eq_getElem hgl⟩
        have hd : all.drop g = y :: all.drop (g + 1) := by
          rw [List.drop_eq_getElem_cons hgl]
          rw [List.getElem?_eq_getElem hgl] at hy
          cases hy
          rfl
        rw [hd] at hR
        obtain ⟨hS, f', n', L', hp, hR'⟩ := upop_cons hR
        have w := order_w3_7 most l j all.length first n ln (U all) L g
        simp only [hMX, hW, Int.toNat_natCast, Nat.mul_one, hget, toInt, isInt, hp, Nat.zero_add, U_get hy] at w
        have ih := order_run3 hm hl k (j + 1) all (g + 1) f' n' ln L' (by omega) (by omega) (by omega) hR'
        refine Gets.ends ?_ ih
        have hLf' := uR_flat hR'
        rw [wrap64_in (x := (g : Int) + 1) (by omega) (by omega)] at w
        have d : (!true == decide ((g : Int) < (all.length : Int))) = false := by
          rw [decide_eq_true (by omega)]; rfl
        apply w
        all_goals first | assumption | rfl | omega | (simp; done) | (simp; omega)
      · have hd : all.drop g = [] := List.drop_eq_nil_of_le (by omega)
        have hR0 := hR
        rw [hd] at hR0
        obtain ⟨hS, hp⟩ := upop_nil hR0
        have w := order_w3_6 most l j all.length first n ln (U all) L g
        simp only [hMX, hW, Int.toNat_natCast, Nat.mul_one, hget, toInt, isInt, hp] at w
        have ih := order_run3 hm hl k (j + 1) all g first n ln L (by omega) (by omega) (by omega) hR
        refine Gets.ends ?_ ih
        have d : (!false == decide ((g : Int) < (all.length : Int))) = false := by
          rw [decide_eq_false (by omega)]; rfl
        apply w
        all_goals first | assumption | rfl | omega | (simp; done) | (simp; omega)
theorem order_run1 (hm : 0 ≤ most ∧ most ≤ 255) (hl : l.length ≤ 1000) : ∀ (k j : Nat), j + k = l.length → AEnds E 3 0 (order_h1 most l j) (.bool true) []
  | 0, j, hj => by
    have w := order_w1_1 most l j trivial (by simp; omega)
    exact w.ends ((order_w2_0 most l).ends (order_w4_0 most l trivial))
  | k + 1, j, hj => by
    have hMX := order_mx hm
    obtain ⟨x, hx⟩ : ∃ x, l[j]? = some x := ⟨_, List.getElem?_eq_getElem (by omega)⟩
    have hget := U_get hx
    have dl : decide (((j : Nat) : Int) < (l.length : Int)) = true := by simp; omega
    by_cases hodd : x.tmod 2 = 0
    · have hb : (x.tmod 2 == 0) = true := by simp [hodd]
      obtain ⟨hS, hR⟩ := upush0_in (mx := 1 + most) (by omega) (by omega) x
      have w := order_w1_3 most l j
      simp only [hMX, Int.toNat_natCast, Nat.mul_one, hget, toInt, isInt] at w
      have hLf := uR_flat hR
      simp only [Nat.mul_one] at hR hLf
      have ih := order_run3 hm hl k j [x] 0 _ _ _ _ (by omega) (by simp) (by simp) hR
      refine Gets.ends ?_ ih
      have d : (!true == decide (0 < 1 + most)) = false := by
        rw [decide_eq_true (by omega)]; rfl
      apply w
      all_goals first | assumption | rfl | omega | (simp; done) | (simp; omega)
    · have hb : (x.tmod 2 == 0) = false := by simp [hodd]
      have w := order_w1_2 most l j
      simp only [hMX, Int.toNat_natCast, Nat.mul_one, hget, toInt, isInt] at w
      rw [wrap64_in (x := (j : Int) + 1) (by omega) (by omega)] at w
      have ih := order_run1 hm hl k (j + 1) (by omega)
      refine Gets.ends ?_ ih
      apply w
      all_goals first | assumption | rfl | omega | (simp; done) | (simp; omega)
theorem order_all (most : Int) (hm : 0 ≤ most ∧ most ≤ 255) (l : List Int) : AEnds E 3 0 (startC E 3 [.int .u8 most, .iface l.length (.agg (l.map (Value.int .u16)).toArray)] []) (.bool true) [] := by
  have hMX := order_mx hm
  by_cases hl : 1000 < (l.length : Int)
  · exact order_w0_0 most l (decide_eq_true hl) trivial
  · refine (order_w0_3 most l ?_ ?_ (decide_eq_false hl) trivial).ends (order_run1 hm (by omega) l.length 0 (by omega))
    · rw [hMX]; simp; omega
    · rw [hMX]; simp; omega
end
end Go.Proofs.Ytabloimmlmgcbaa
