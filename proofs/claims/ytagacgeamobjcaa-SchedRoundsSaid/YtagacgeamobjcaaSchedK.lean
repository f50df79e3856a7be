/-
  The statement SchedRounds: the program's rounds.
-/
import Derived.Test.YtagacgeamobjcaaSchedI
import Derived.Test.YtagacgeamobjcaaSchedJ
import Derived.Test.YtagacgeamobjcaaAmRows2
set_option linter.unusedVariables false
set_option linter.unusedSimpArgs false
open Go Go.Am
namespace Go.Proofs.Ytagacgeamobjcaa

theorem rds_len (n : Nat) (L : List (List Chg)) : ∀ f l o r, (rds n L f l o r).2.1.length ≤ o.length + f * n
 | 0, l, o, r => by simp [rds]
 | f + 1, l, o, r => by
  have h := rnd_did n L n 0 l o 0
  have e : (f + 1) * n = f * n + n := Nat.succ_mul f n
  rw [rds]
  cases ((rnd n L n 0 l o 0).2.2 == 0) with
  | true => simp only [cond_true]; omega
  | false =>
   have := rds_len n L f (rnd n L n 0 l o 0).1 (rnd n L n 0 l o 0).2.1 (r + 1)
   simp only [cond_false]
   omega
section
variable (on : List Bool) (L : List (List Chg)) (most : Int) (hn : on.length ≤ 30) (hL : L.length ≤ 30) (hc : ∀ c ∈ L, c.length ≤ 10 ∧ ∀ p ∈ c, 0 ≤ p.1 ∧ p.1 ≤ 255) (hm : most ≤ 50)
include hn hL hc hm
theorem change (b l : List Bool) (hl : l.length = on.length) (o : List Int) (t d : Nat) (ht : t < on.length) (hd : d ≤ 30) (made : Int) (c : List Chg) (hct : L[t]? = some c) : ∀ k i, i + k = c.length →
  Gets E 0 (rounds_h5 on L.length (ccV L) most made on.length t on.length (VC b) o.length on.length d on.length (VC (chg on.length l (c.take i))) (VJ o) i)
   (rounds_h3 on L.length (ccV L) most made on.length (VC b) o.length on.length ((d + 1 : Nat) : Int) on.length (VJ o) (VC (chg on.length l c)) ((t + 1 : Nat) : Int))
 | 0, i, hi => by
  have _ := hm
  have e1 : IntKind.i64.wrap ((d : Int) + 1) = ((d + 1 : Nat) : Int) := by rw [wrap64_in (by omega) (by omega)]; omega
  have e2 : IntKind.i64.wrap ((t : Int) + 1) = ((t + 1 : Nat) : Int) := by rw [wrap64_in (by omega) (by omega)]; omega
  obtain ⟨g1, g2, g3⟩ := ccV_row hct
  have hlt := (List.getElem?_eq_some_iff.1 hct).1
  have w := rounds_w5_2 on L.length (ccV L) most made on.length t on.length (VC b) o.length on.length d on.length (VC (chg on.length l (c.take i))) (VJ o) i
  have hl2 : (ccV L).length = L.length := by simp [ccV]
  have f1 := VC_flat b
  have f2 := VC_flat (chg on.length l (c.take i))
  have f3 := VJ_flat o
  simp only [Int.toNat_natCast, Nat.mul_one, g1, g2, g3, e1, e2, hl2] at w
  rw [List.take_of_length_le (by omega)] at w f2 ⊢
  apply w
  all_goals first | rfl | assumption | omega | exact decide_eq_true (by omega) | exact decide_eq_false (by omega) | (simp; done)
 | k + 1, i, hi => by
  have hik : i < c.length := by omega
  obtain ⟨p, hp⟩ : ∃ p, c[i]? = some p := ⟨_, List.getElem?_eq_getElem hik⟩
  obtain ⟨q1, q2⟩ := chV_get hp
  have hb := (hc c (List.mem_of_getElem? hct)).2 p (List.mem_of_getElem? hp)
  have hcl := (hc c (List.mem_of_getElem? hct)).1
  have e1 : IntKind.i64.wrap ((i : Int) + 1) = ((i + 1 : Nat) : Int) := by rw [wrap64_in (by omega) (by omega)]; omega
  have e3 : IntKind.i64.wrap p.1 = p.1 := wrap64_in (by omega) (by omega)
  have ih := change b l hl o t d ht hd made c hct k (i + 1) (by omega)
  rw [chg_next _ _ _ hp] at ih
  obtain ⟨g1, g2, g3⟩ := ccV_row hct
  have hlt := (List.getElem?_eq_some_iff.1 hct).1
  have hl2 : (ccV L).length = L.length := by simp [ccV]
  have hcv : (chV c).flatten.length = c.length * 2 := chV_len c
  have hgl := chg_len on.length (c.take i) l
  have hvl : (VC (chg on.length l (c.take i))).length = on.length := by rw [List.length_map, hgl, hl]
  have f1 := VC_flat b
  have f2 := VC_flat (chg on.length l (c.take i))
  have f3 := VJ_flat o
  have b1 : toInt (.int .u8 p.1) = p.1 := rfl
  have b2 : Am.toBool (.bool p.2) = p.2 := rfl
  have b3 : isInt IntKind.u8 (.int .u8 p.1) = true := rfl
  have b4 : isBool (.bool p.2) = true := rfl
  by_cases hpl : p.1 < (on.length : Int)
  ·rw [if_pos hpl] at ih
   have f4 := VC_flat ((chg on.length l (c.take i)).set p.1.toNat p.2)
   have w := rounds_w5_0 on L.length (ccV L) most made on.length t on.length (VC b) o.length on.length d on.length (VC (chg on.length l (c.take i))) (VJ o) i
   simp only [Int.toNat_natCast, Nat.mul_one, g1, g2, g3, e1, e3, hl2, q1, q2, b1, b2, b3, b4, hcv, hvl] at w
   rw [show (0 + p.1.toNat) = 0 + p.1.toNat * 1 by omega] at w
   simp only [setN_VC] at w
   refine Gets.trans ?_ ih
   apply w
   all_goals first | rfl | assumption | omega | exact decide_eq_true (by omega) | exact decide_eq_false (by omega) | (simp; done)
  ·rw [if_neg hpl] at ih
   have w := rounds_w5_1 on L.length (ccV L) most made on.length t on.length (VC b) o.length on.length d on.length (VC (chg on.length l (c.take i))) (VJ o) i
   simp only [Int.toNat_natCast, Nat.mul_one, g1, g2, g3, e1, e3, hl2, q1, q2, b1, b2, b3, b4, hcv, hvl] at w
   refine Gets.trans ?_ ih
   apply w
   all_goals first | rfl | assumption | omega | exact decide_eq_true (by omega) | exact decide_eq_false (by omega) | (simp; done)
theorem round (b : List Bool) (made : Int) : ∀ k l o t d, l.length = on.length → t + k = on.length → d ≤ t → o.length ≤ 10000 + t →
  Gets E 0 (rounds_h3 on L.length (ccV L) most made on.length (VC b) o.length on.length (d : Int) on.length (VJ o) (VC l) (t : Int))
   (rounds_h3 on L.length (ccV L) most made on.length (VC b) (rnd on.length L k t l o d).2.1.length on.length ((rnd on.length L k t l o d).2.2 : Int) on.length (VJ (rnd on.length L k t l o d).2.1) (VC (rnd on.length L k t l o d).1) (on.length : Int))
 | 0, l, o, t, d, hl, ht, hd, ho => by
  have e : t = on.length := by omega
  subst e
  exact Gets.refl _
 | k + 1, l, o, t, d, hl, ht, hd, ho => by
  have e2 : IntKind.i64.wrap ((t : Int) + 1) = ((t + 1 : Nat) : Int) := by rw [wrap64_in (by omega) (by omega)]; omega
  have e1 : IntKind.i64.wrap ((d : Int) + 1) = ((d + 1 : Nat) : Int) := by rw [wrap64_in (by omega) (by omega)]; omega
  obtain ⟨x, hx⟩ : ∃ x, l[t]? = some x := ⟨_, List.getElem?_eq_getElem (by omega)⟩
  have hxd : l.getD t false = x := by rw [List.getD_eq_getElem?_getD, hx]; rfl
  have hg := VC_get hx
  have hvl : (VC l).length = on.length := by rw [List.length_map, hl]
  have hol : (VJ o).length = o.length := List.length_map ..
  have f1 := VC_flat b
  have f2 := VC_flat l
  have f3 := VJ_flat o
  have f4 := VJ_flat (o ++ [(t : Int)])
  have b2 : ∀ y : Bool, Am.toBool (.bool y) = y := fun _ => rfl
  have b4 : ∀ y : Bool, isBool (.bool y) = true := fun _ => rfl
  rw [rnd, hxd]
  cases x with
  | false =>
   have ih := round b made k l o (t + 1) d hl (by omega) (by omega) (by omega)
   have w := rounds_w3_1 on L.length (ccV L) most made on.length (VC b) o.length on.length d on.length (VJ o) (VC l) t
   simp only [Int.toNat_natCast, hg, b2, b4, e2, hvl] at w
   refine Gets.trans ?_ ih
   apply w
   all_goals first | rfl | assumption | omega | exact decide_eq_true (by omega) | exact decide_eq_false (by omega) | (simp; done)
  | true =>
   have ih := round b made k (chg on.length l (L.getD t [])) (o ++ [(t : Int)]) (t + 1) (d + 1) (by rw [chg_len, hl]) (by omega) (by omega) (by simp; omega)
   have w := rounds_w3_0 on L.length (ccV L) most made on.length (VC b) o.length on.length d on.length (VJ o) (VC l) t
   simp only [Int.toNat_natCast, hg, b2, b4, VJ_app, hvl, hol] at w
   refine Gets.trans (Gets.trans (by apply w; all_goals first | rfl | assumption | omega | exact decide_eq_true (by omega) | exact decide_eq_false (by omega) | (simp; done)) ?_) ih
   have hlo : (o ++ [(t : Int)]).length = o.length + 1 := by simp
   rw [hlo]
   cases hLt : L[t]? with
   | some c =>
    have hc' : L.getD t [] = c := by rw [List.getD_eq_getElem?_getD, hLt]; rfl
    have hch := change on L most hn hL hc hm b l hl (o ++ [(t : Int)]) t d (by omega) (by omega) made c hLt c.length 0 (by omega)
    rw [hlo] at hch
    rw [hc']
    exact hch
   | none =>
    have hc' : L.getD t [] = [] := by rw [List.getD_eq_getElem?_getD, hLt]; rfl
    have hLt := List.getElem?_eq_none_iff.1 hLt
    have w := rounds_w5_3 on L.length (ccV L) most made on.length t on.length (VC b) (o.length + 1) on.length d on.length (VC l) (VJ (o ++ [(t : Int)])) 0
    simp only [e1, e2] at w
    rw [hc']
    apply w
    all_goals first | rfl | assumption | omega | exact decide_eq_true (by omega) | exact decide_eq_false (by omega) | (simp; done)
theorem rounds (b : List Bool) : ∀ f l o (r : Nat), l.length = on.length → r + f = most.toNat → o.length ≤ 30 * r →
  Gets E 0 (rounds_h2 on L.length (ccV L) most on.length (VC b) o.length on.length (VJ o) (VC l) (r : Int))
   (rounds_h4 on L.length (ccV L) most ((rds on.length L f l o r).2.2 : Int) on.length (VC b) (rds on.length L f l o r).2.1.length [] (VJ (rds on.length L f l o r).2.1) 0 0)
 | 0, l, o, r, hl, hr, ho => by
  have w := rounds_w2_1 on L.length (ccV L) most on.length (VC b) o.length on.length (VJ o) (VC l) r
  have f1 := VC_flat b
  have f3 := VJ_flat o
  apply w
  all_goals first | rfl | assumption | omega | exact decide_eq_true (by omega) | exact decide_eq_false (by omega) | (simp; done)
 | f + 1, l, o, r, hl, hr, ho => by
  have hr' := round on L most hn hL hc hm b (r : Int) on.length l o 0 0 hl (by omega) (by omega) (by omega)
  have hlen := rnd_len on.length L on.length 0 l o 0
  have hdid := rnd_did on.length L on.length 0 l o 0
  have w := rounds_w2_0 on L.length (ccV L) most on.length (VC b) o.length on.length (VJ o) (VC l) r
  have f1 := VC_flat b
  have f2 := VC_flat l
  have f3 := VJ_flat o
  refine Gets.trans (by apply w; all_goals first | rfl | assumption | omega | exact decide_eq_true (by omega) | exact decide_eq_false (by omega) | (simp; done)) (Gets.trans hr' ?_)
  rw [rds]
  generalize rnd on.length L on.length 0 l o 0 = R at hlen hdid ⊢
  obtain ⟨l', o', d'⟩ := R
  simp only at hlen hdid ⊢
  have f4 := VC_flat l'
  have f5 := VJ_flat o'
  have e2 : IntKind.i64.wrap ((r : Int) + 1) = ((r + 1 : Nat) : Int) := by rw [wrap64_in (by omega) (by omega)]; omega
  by_cases hd0 : d' = 0
  ·subst hd0
   have w := rounds_w3_5 on L.length (ccV L) most r on.length (VC b) o'.length on.length 0 on.length (VJ o') (VC l') on.length
   apply w
   all_goals first | rfl | assumption | omega | exact decide_eq_true (by omega) | exact decide_eq_false (by omega) | (simp; done)
  ·have hb : (d' == 0) = false := by simpa using hd0
   rw [hb]
   have ih := rounds b f l' o' (r + 1) (by omega) (by omega) (by omega)
   have w := rounds_w3_4 on L.length (ccV L) most r on.length (VC b) o'.length on.length d' on.length (VJ o') (VC l') on.length
   simp only [e2] at w
   refine Gets.trans ?_ ih
   apply w
   all_goals first | rfl | assumption | omega | exact decide_eq_true (by omega) | exact decide_eq_false (by omega) | (simp; done)
theorem change2 (l : List Bool) (hl : l.length = on.length) (o got : List Int) (K G : Nat) (t d : Nat) (ht : t < on.length) (hd : d ≤ 30) (R r : Int) (c : List Chg) (hct : L[t]? = some c) : ∀ k i, i + k = c.length →
  Gets E 0 (rounds_h8 on L.length (ccV L) most R r t K d on.length (VC (chg on.length l (c.take i))) G (VJ o) (VJ got) i)
   (rounds_h6 on L.length (ccV L) most R r on.length (VC (chg on.length l c)) G (VJ o) (VJ got) ((t + 1 : Nat) : Int) (K + 1) ((d + 1 : Nat) : Int))
 | 0, i, hi => by
  have _ := hm
  have e1 : IntKind.i64.wrap ((d : Int) + 1) = ((d + 1 : Nat) : Int) := by rw [wrap64_in (by omega) (by omega)]; omega
  have e2 : IntKind.i64.wrap ((t : Int) + 1) = ((t + 1 : Nat) : Int) := by rw [wrap64_in (by omega) (by omega)]; omega
  obtain ⟨g1, g2, g3⟩ := ccV_row hct
  have hlt := (List.getElem?_eq_some_iff.1 hct).1
  have w := rounds_w8_2 on L.length (ccV L) most R r t K d on.length (VC (chg on.length l (c.take i))) G (VJ o) (VJ got) i
  have hl2 : (ccV L).length = L.length := by simp [ccV]
  have f1 := VJ_flat got
  have f2 := VC_flat (chg on.length l (c.take i))
  have f3 := VJ_flat o
  simp only [Int.toNat_natCast, Nat.mul_one, g1, g2, g3, e1, e2, hl2] at w
  rw [List.take_of_length_le (by omega)] at w f2 ⊢
  apply w
  all_goals first | rfl | assumption | omega | exact decide_eq_true (by omega) | exact decide_eq_false (by omega) | (simp; done)
 | k + 1, i, hi => by
  have hik : i < c.length := by omega
  obtain ⟨p, hp⟩ : ∃ p, c[i]? = some p := ⟨_, List.getElem?_eq_getElem hik⟩
  obtain ⟨q1, q2⟩ := chV_get hp
  have hb := (hc c (List.mem_of_getElem? hct)).2 p (List.mem_of_getElem? hp)
  have hcl := (hc c (List.mem_of_getElem? hct)).1
  have e1 : IntKind.i64.wrap ((i : Int) + 1) = ((i + 1 : Nat) : Int) := by rw [wrap64_in (by omega) (by omega)]; omega
  have e3 : IntKind.i64.wrap p.1 = p.1 := wrap64_in (by omega) (by omega)
  have ih := change2 l hl o got K G t d ht hd R r c hct k (i + 1) (by omega)
  rw [chg_next _ _ _ hp] at ih
  obtain ⟨g1, g2, g3⟩ := ccV_row hct
  have hlt := (List.getElem?_eq_some_iff.1 hct).1
  have hl2 : (ccV L).length = L.length := by simp [ccV]
  have hcv : (chV c).flatten.length = c.length * 2 := chV_len c
  have hgl := chg_len on.length (c.take i) l
  have hvl : (VC (chg on.length l (c.take i))).length = on.length := by rw [List.length_map, hgl, hl]
  have f1 := VJ_flat got
  have f2 := VC_flat (chg on.length l (c.take i))
  have f3 := VJ_flat o
  have b1 : toInt (.int .u8 p.1) = p.1 := rfl
  have b2 : Am.toBool (.bool p.2) = p.2 := rfl
  have b3 : isInt IntKind.u8 (.int .u8 p.1) = true := rfl
  have b4 : isBool (.bool p.2) = true := rfl
  by_cases hpl : p.1 < (on.length : Int)
  ·rw [if_pos hpl] at ih
   have f4 := VC_flat ((chg on.length l (c.take i)).set p.1.toNat p.2)
   have w := rounds_w8_0 on L.length (ccV L) most R r t K d on.length (VC (chg on.length l (c.take i))) G (VJ o) (VJ got) i
   simp only [Int.toNat_natCast, Nat.mul_one, g1, g2, g3, e1, e3, hl2, q1, q2, b1, b2, b3, b4, hcv, hvl] at w
   rw [show (0 + p.1.toNat) = 0 + p.1.toNat * 1 by omega] at w
   simp only [setN_VC] at w
   refine Gets.trans ?_ ih
   apply w
   all_goals first | rfl | assumption | omega | exact decide_eq_true (by omega) | exact decide_eq_false (by omega) | (simp; done)
  ·rw [if_neg hpl] at ih
   have w := rounds_w8_1 on L.length (ccV L) most R r t K d on.length (VC (chg on.length l (c.take i))) G (VJ o) (VJ got) i
   simp only [Int.toNat_natCast, Nat.mul_one, g1, g2, g3, e1, e3, hl2, q1, q2, b1, b2, b3, b4, hcv, hvl] at w
   refine Gets.trans ?_ ih
   apply w
   all_goals first | rfl | assumption | omega | exact decide_eq_true (by omega) | exact decide_eq_false (by omega) | (simp; done)
theorem round2 (got : List Int) (G : Nat) (R r : Int) : ∀ k l o t d, l.length = on.length → t + k = on.length → d ≤ t → o.length ≤ 10000 + t →
  Gets E 0 (rounds_h6 on L.length (ccV L) most R r on.length (VC l) G (VJ o) (VJ got) (t : Int) o.length (d : Int))
   (rounds_h6 on L.length (ccV L) most R r on.length (VC (rnd on.length L k t l o d).1) G (VJ (rnd on.length L k t l o d).2.1) (VJ got) (on.length : Int) (rnd on.length L k t l o d).2.1.length ((rnd on.length L k t l o d).2.2 : Int))
 | 0, l, o, t, d, hl, ht, hd, ho => by
  have e : t = on.length := by omega
  subst e
  exact Gets.refl _
 | k + 1, l, o, t, d, hl, ht, hd, ho => by
  have e2 : IntKind.i64.wrap ((t : Int) + 1) = ((t + 1 : Nat) : Int) := by rw [wrap64_in (by omega) (by omega)]; omega
  have e1 : IntKind.i64.wrap ((d : Int) + 1) = ((d + 1 : Nat) : Int) := by rw [wrap64_in (by omega) (by omega)]; omega
  obtain ⟨x, hx⟩ : ∃ x, l[t]? = some x := ⟨_, List.getElem?_eq_getElem (by omega)⟩
  have hxd : l.getD t false = x := by rw [List.getD_eq_getElem?_getD, hx]; rfl
  have hg := VC_get hx
  have hvl : (VC l).length = on.length := by rw [List.length_map, hl]
  have hol : (VJ o).length = o.length := List.length_map ..
  have f1 := VJ_flat got
  have f2 := VC_flat l
  have f3 := VJ_flat o
  have f4 := VJ_flat (o ++ [(t : Int)])
  have b2 : ∀ y : Bool, Am.toBool (.bool y) = y := fun _ => rfl
  have b4 : ∀ y : Bool, isBool (.bool y) = true := fun _ => rfl
  rw [rnd, hxd]
  cases x with
  | false =>
   have ih := round2 got G R r k l o (t + 1) d hl (by omega) (by omega) (by omega)
   have w := rounds_w6_1 on L.length (ccV L) most R r on.length (VC l) G (VJ o) (VJ got) t o.length d
   simp only [Int.toNat_natCast, hg, b2, b4, e2, hvl] at w
   refine Gets.trans ?_ ih
   apply w
   all_goals first | rfl | assumption | omega | exact decide_eq_true (by omega) | exact decide_eq_false (by omega) | (simp; done)
  | true =>
   have ih := round2 got G R r k (chg on.length l (L.getD t [])) (o ++ [(t : Int)]) (t + 1) (d + 1) (by rw [chg_len, hl]) (by omega) (by omega) (by simp; omega)
   have w := rounds_w6_0 on L.length (ccV L) most R r on.length (VC l) G (VJ o) (VJ got) t o.length d
   simp only [Int.toNat_natCast, hg, b2, b4, VJ_app, hvl, hol] at w
   refine Gets.trans (Gets.trans (by apply w; all_goals first | rfl | assumption | omega | exact decide_eq_true (by omega) | exact decide_eq_false (by omega) | (simp; done)) ?_) ih
   have hlo : (o ++ [(t : Int)]).length = o.length + 1 := by simp
   rw [hlo]
   cases hLt : L[t]? with
   | some c =>
    have hc' : L.getD t [] = c := by rw [List.getD_eq_getElem?_getD, hLt]; rfl
    have hch := change2 on L most hn hL hc hm l hl (o ++ [(t : Int)]) got o.length G t d (by omega) (by omega) R r c hLt c.length 0 (by omega)
    rw [hc']
    exact hch
   | none =>
    have hc' : L.getD t [] = [] := by rw [List.getD_eq_getElem?_getD, hLt]; rfl
    have hLt := List.getElem?_eq_none_iff.1 hLt
    have w := rounds_w8_3 on L.length (ccV L) most R r t o.length d on.length (VC l) G (VJ (o ++ [(t : Int)])) (VJ got) 0
    simp only [e1, e2] at w
    rw [hc']
    apply w
    all_goals first | rfl | assumption | omega | exact decide_eq_true (by omega) | exact decide_eq_false (by omega) | (simp; done)
theorem same (S : wakesI_S0) (got : List Int) (hgl : got.length ≤ 10000) (K : Nat) : ∀ k i, i + k = got.length → AEnds E 4 0 (rounds_h7 on L.length (ccV L) most got.length (VJ got) (VJ got) got.length K (i : Int)) (.bool true) []
 | 0, i, hi => by
  have _ := And.intro hn hL
  have _ := And.intro hm trivial
  have _ := @hc
  have w := rounds_w7_1 on L.length (ccV L) most got.length (VJ got) (VJ got) got.length K i
  apply w
  all_goals first | rfl | assumption | omega | exact decide_eq_true (by omega) | exact decide_eq_false (by omega) | (simp; done)
 | k + 1, i, hi => by
  have e1 : IntKind.i64.wrap ((i : Int) + 1) = ((i + 1 : Nat) : Int) := by rw [wrap64_in (by omega) (by omega)]; omega
  have ih := same S got hgl K k (i + 1) (by omega)
  obtain ⟨x, hx⟩ : ∃ x, got[i]? = some x := ⟨_, List.getElem?_eq_getElem (by omega)⟩
  have hg := VJ_get hx
  have f1 := VJ_flat got
  have hol : (VJ got).length = got.length := List.length_map ..
  have b3 : isInt IntKind.i64 (.int .i64 x) = true := rfl
  have w := rounds_w7_0 on L.length (ccV L) most got.length (VJ got) (VJ got) got.length K i
  simp only [Int.toNat_natCast, hg, b3, e1, hol] at w
  refine Gets.ends ?_ ih
  apply w
  all_goals first | rfl | assumption | omega | exact decide_eq_true (by omega) | exact decide_eq_false (by omega) | (simp; done)
theorem rounds2 (S : wakesI_S0) : ∀ f l o (r : Nat), l.length = on.length → r + f = most.toNat → o.length ≤ 30 * r → (rds on.length L f l o r).2.1.length ≤ 10000 →
  AEnds E 4 0 (rounds_h4 on L.length (ccV L) most ((rds on.length L f l o r).2.2 : Int) on.length (VC l) (rds on.length L f l o r).2.1.length (VJ o) (VJ (rds on.length L f l o r).2.1) o.length (r : Int)) (.bool true) []
 | 0, l, o, r, hl, hr, ho, hG => by
  have w := rounds_w4_1 on L.length (ccV L) most r on.length (VC l) o.length (VJ o) (VJ o) o.length r
  have f1 := VC_flat l
  have f3 := VJ_flat o
  have ih := same on L most hn hL hc hm S o (by omega) o.length o.length 0 (by omega)
  refine Gets.ends ?_ ih
  apply w
  all_goals first | rfl | assumption | omega | exact decide_eq_true (by omega) | exact decide_eq_false (by omega) | (simp; done)
 | f + 1, l, o, r, hl, hr, ho, hG => by
  generalize hQ : rds on.length L (f + 1) l o r = Q at hG ⊢
  have hr' := round2 on L most hn hL hc hm Q.2.1 Q.2.1.length (Q.2.2 : Int) (r : Int) on.length l o 0 0 hl (by omega) (by omega) (by omega)
  have hlen := rnd_len on.length L on.length 0 l o 0
  have hdid := rnd_did on.length L on.length 0 l o 0
  have w := rounds_w4_0 on L.length (ccV L) most Q.2.2 on.length (VC l) Q.2.1.length (VJ o) (VJ Q.2.1) o.length r
  have f1 := VJ_flat Q.2.1
  have f2 := VC_flat l
  have f3 := VJ_flat o
  refine Gets.ends (by apply w; all_goals first | rfl | assumption | omega | exact decide_eq_true (by omega) | exact decide_eq_false (by omega) | (simp; done)) (Gets.ends hr' ?_)
  rw [rds] at hQ
  generalize rnd on.length L on.length 0 l o 0 = R at hlen hdid hQ ⊢
  obtain ⟨l', o', d'⟩ := R
  simp only at hlen hdid hQ ⊢
  have f4 := VC_flat l'
  have f5 := VJ_flat o'
  have e2 : IntKind.i64.wrap ((r : Int) + 1) = ((r + 1 : Nat) : Int) := by rw [wrap64_in (by omega) (by omega)]; omega
  by_cases hd0 : d' = 0
  ·subst hd0
   have hQ : Q = (l', o', r) := hQ.symm
   subst hQ
   have w := rounds_w6_2 on L.length (ccV L) most r r on.length (VC l') o'.length (VJ o') (VJ o') on.length o'.length 0
   have ih := same on L most hn hL hc hm S o' (by omega) o'.length o'.length 0 (by omega)
   refine Gets.ends ?_ ih
   apply w
   all_goals first | rfl | assumption | omega | exact decide_eq_true (by omega) | exact decide_eq_false (by omega) | (simp; done)
  ·have hb : (d' == 0) = false := by simpa using hd0
   rw [hb] at hQ
   have hQ : rds on.length L f l' o' (r + 1) = Q := hQ
   have ih := rounds2 S f l' o' (r + 1) (by omega) (by omega) (by omega) (by rw [hQ]; exact hG)
   rw [hQ] at ih
   have hdz : ((d' : Int) == 0) = false := by simp; omega
   have w := rounds_w6_3 on L.length (ccV L) most Q.2.2 r on.length (VC l') Q.2.1.length (VJ o') (VJ Q.2.1) on.length o'.length d'
   simp only [e2] at w
   refine Gets.ends ?_ ih
   apply w
   all_goals first | rfl | assumption | omega | exact decide_eq_true (by omega) | exact decide_eq_false (by omega) | (simp; done)
end
theorem start (S : wakesI_S0) (on : List Bool) (L : List (List Chg)) (most : Int) (hn : on.length ≤ 30) (hL : L.length ≤ 30) (hp : ∀ c ∈ L, ∀ p ∈ c, 0 ≤ p.1 ∧ p.1 ≤ 255) (hm : most ≤ 50) : ∀ k i, i + k = L.length → (∀ c ∈ L.take i, c.length ≤ 10) →
  AEnds E 4 0 (rounds_h1 on L.length (ccV L) most (i : Int)) (.bool true) []
 | 0, i, hi, h => by
  rw [List.take_of_length_le (by omega)] at h
  have hc : ∀ c ∈ L, c.length ≤ 10 ∧ ∀ p ∈ c, 0 ≤ p.1 ∧ p.1 ≤ 255 := fun c hc => ⟨h c hc, hp c hc⟩
  have r1 := rounds on L most hn hL hc hm on most.toNat on [] 0 rfl (by omega) (Nat.le_refl _)
  have r2 := rounds2 on L most hn hL hc hm S most.toNat on [] 0 rfl (by omega) (Nat.le_refl _) (by
   have := rds_len on.length L most.toNat on [] 0
   have e0 : ([] : List Int).length = 0 := rfl
   have : (rds on.length L most.toNat on [] 0).2.1.length ≤ 0 + most.toNat * 30 := Nat.le_trans this (Nat.add_le_add_left (Nat.mul_le_mul_left _ hn) _)
   omega)
  have f1 := VC_flat on
  have f2 := VC_one on
  have hol : (VC on).length = on.length := List.length_map ..
  have e : List.take on.length (VC on) = VC on := List.take_of_length_le (by omega)
  have w := rounds_w1_2 on L.length (ccV L) most i
  have e1 : List.map Value.bool on = VC on := rfl
  simp only [e1, Nat.mul_one, Nat.zero_add, List.nil_append, e] at w
  refine Gets.ends (Gets.trans ?_ r1) r2
  apply w
  all_goals first | rfl | assumption | omega | exact decide_eq_true (by omega) | exact decide_eq_false (by omega) | (simp; done)
 | k + 1, i, hi, h => by
  obtain ⟨c, hc⟩ : ∃ c, L[i]? = some c := ⟨_, List.getElem?_eq_getElem (by omega)⟩
  obtain ⟨g1, g2, g3⟩ := ccV_row hc
  have hl2 : (ccV L).length = L.length := by simp [ccV]
  have e1 : IntKind.i64.wrap ((i : Int) + 1) = ((i + 1 : Nat) : Int) := by rw [wrap64_in (by omega) (by omega)]; omega
  by_cases h10 : 10 < c.length
  ·have w := rounds_w1_0 on L.length (ccV L) most i
   simp only [Int.toNat_natCast, Nat.mul_one, g1, g2, g3, hl2] at w
   apply w
   all_goals first | rfl | assumption | omega | exact decide_eq_true (by omega) | exact decide_eq_false (by omega) | (simp; done)
  ·have ih := start S on L most hn hL hp hm k (i + 1) (by omega) (fun c' hc' => by
    have hi' : i < L.length := by omega
    rw [List.take_succ_eq_append_getElem hi', List.mem_append] at hc'
    rcases hc' with h1 | h1
    ·exact h _ h1
    ·simp only [List.mem_singleton] at h1
     have := (List.getElem?_eq_some_iff.1 hc).2
     rw [h1, this]; omega)
   have w := rounds_w1_1 on L.length (ccV L) most i
   simp only [Int.toNat_natCast, Nat.mul_one, g1, g2, g3, hl2, e1] at w
   refine Gets.ends ?_ ih
   apply w
   all_goals first | rfl | assumption | omega | exact decide_eq_true (by omega) | exact decide_eq_false (by omega) | (simp; done)
theorem toC : ∀ rows : List (List Value), (∀ r ∈ rows, AllL [.int .u8, .bool] r) → ∃ c : List Chg, rows = chV c ∧ ∀ p ∈ c, 0 ≤ p.1 ∧ p.1 ≤ 255
 | [], _ => ⟨[], rfl, fun p hp => by cases hp⟩
 | r :: rows, h => by
  obtain ⟨c, e, hb⟩ := toC rows (fun r hr => h r (List.mem_cons_of_mem _ hr))
  obtain ⟨_, _, rfl, ⟨z, rfl, hz⟩, _, _, rfl, ⟨b, rfl⟩, rfl⟩ := h r List.mem_cons_self
  refine ⟨(z, b) :: c, by rw [e]; rfl, fun p hp => ?_⟩
  rcases List.mem_cons.1 hp with rfl | hp
  ·simp [Lit.wf, IntKind.min, IntKind.max, IntKind.bits, IntKind.signed] at hz
   exact ⟨by omega, by omega⟩
  ·exact hb p hp
theorem toL : ∀ rr : List (List (List Value)), (∀ rows ∈ rr, rows.length ≤ maxLen ∧ ∀ r ∈ rows, AllL [.int .u8, .bool] r) → ∃ L : List (List Chg), rr.map rowV = ccV L ∧ L.length = rr.length ∧ ∀ c ∈ L, ∀ p ∈ c, 0 ≤ p.1 ∧ p.1 ≤ 255
 | [], _ => ⟨[], rfl, rfl, fun p hp => by cases hp⟩
 | rows :: rr, h => by
  obtain ⟨L, e1, e2, hb⟩ := toL rr (fun r hr => h r (List.mem_cons_of_mem _ hr))
  obtain ⟨c, e, hc⟩ := toC rows (h rows List.mem_cons_self).2
  refine ⟨c :: L, by rw [List.map_cons, e1, e]; rfl, by simp [e2], fun c' hc' => ?_⟩
  rcases List.mem_cons.1 hc' with rfl | hc'
  ·exact hc
  ·exact hb _ hc'
theorem rounds_all (S : wakesI_S0) (on : List Bool) (rr : List (List (List Value))) (u : ∀ rows ∈ rr, rows.length ≤ maxLen ∧ ∀ r ∈ rows, AllL [.int .u8, .bool] r) (most : Int) :
  AEnds E 4 0 (startC E 4 [.iface on.length (.agg (on.map Value.bool).toArray), .iface rr.length (.agg (rr.map rowV).toArray), .int .i64 most] []) (.bool true) [] := by
 obtain ⟨L, e1, e2, hp⟩ := toL rr u
 rw [e1, ← e2]
 by_cases h1 : 30 < on.length
 ·exact rounds_w0_0 on L.length (ccV L) most S (decide_eq_true (by omega))
 by_cases h2 : 30 < L.length
 ·exact rounds_w0_1 on L.length (ccV L) most S (decide_eq_true (by omega)) (decide_eq_false (by omega))
 by_cases h3 : 50 < most
 ·exact rounds_w0_2 on L.length (ccV L) most S (decide_eq_true (by omega)) (decide_eq_false (by omega)) (decide_eq_false (by omega))
 refine Gets.ends (rounds_w0_3 on L.length (ccV L) most (decide_eq_false (by omega)) (decide_eq_false (by omega)) (decide_eq_false (by omega))) ?_
 exact start S on L most (by omega) (by omega) hp (by omega) L.length 0 (by omega) (fun c hc => by simp at hc)
end Go.Proofs.Ytagacgeamobjcaa
