/-
  The reference's box: Put as a contract.
-/
import Derived.Test.YticpjnmoiepafaaOutboxS
import Derived.Test.YticpjnmoiepafaaAmMove
import Derived.Test.YticpjnmoiepafaaAmSlim
set_option linter.unusedVariables false
set_option linter.unusedSimpArgs false
open Go Go.Am
namespace Go.Proofs.Yticpjnmoiepafaa

theorem tkd (l : List mT) (n : Nat) (hn : n = l.length) : List.take (n * 3) (List.drop 0 (mQ l).flatten) = (mQ l).flatten := by
 rw [hn, List.drop_zero, List.take_of_length_le (by rw [mQ_flen]; omega)]
theorem tkd2 (l : List mT) (n : Nat) (hn : n = l.length) : List.take ((0 + n) * 3) (List.drop 0 ([] ++ (mQ l).flatten)) = (mQ l).flatten := by
 rw [Nat.zero_add, List.nil_append]; exact tkd l n hn
theorem snocC (l : List mT) (k o : Int) (x : ByteArray) : (mQ l).flatten ++ [Value.int .i64 k, Value.int .i64 o, Value.string x] = (mQ (l ++ [(k, o, x)])).flatten := by simp [mQ, mC]
def putF (mq : Int) (c e : Bool) (x : mT) (l : List mT) : Int × List mT × Bool :=
 if c = true ∨ e = true then (11, l, c)
 else if x.1 = 1 then (if 4 ≤ cnt 1 l then (6, l, c) else (0, l ++ [x], c))
 else if x.1 = 2 then (0, l.eraseP (fun y => y.1 == 2) ++ [x], c)
 else if x.1 = 3 then (if mq ≤ cnt 3 l then (6, l, c) else (0, l ++ [x], c))
 else if x.1 = 4 then (0, l ++ [x], true)
 else (0, l ++ [x], c)
theorem eraseP_at : ∀ (l : List mT) (i : Nat) (y : mT), l[i]? = some y → y.1 = 2 → (∀ (j : Nat) (z : mT), j < i → l[j]? = some z → z.1 ≠ 2) → l.eraseP (fun y => y.1 == 2) = l.eraseIdx i
 | [], i, y, h, _, _ => by simp at h
 | a :: l, 0, y, h, hy, _ => by
  simp only [List.getElem?_cons_zero, Option.some.injEq] at h
  subst h
  rw [List.eraseP_cons_of_pos (by simp [hy])]; rfl
 | a :: l, i + 1, y, h, hy, hb => by
  have ha : a.1 ≠ 2 := hb 0 a (by omega) rfl
  rw [List.eraseP_cons_of_neg (by simp [ha]), List.eraseIdx_cons_succ, eraseP_at l i y (by simpa using h) hy (fun j z hj hz => hb (j + 1) z (by omega) (by simpa using hz))]
theorem eraseP_none (l : List mT) (h : ∀ (j : Nat) (z : mT), l[j]? = some z → z.1 ≠ 2) : l.eraseP (fun y => y.1 == 2) = l := by
 apply List.eraseP_of_forall_not
 intro a ha
 obtain ⟨j, hj⟩ := List.getElem?_of_mem ha
 simp [h j a hj]

theorem put_fin {args : List Value} {H : Heap} {v : Int} {mq : Int} {n' : Nat} {c e t : Bool} {L' : List Value} (h : AEnds E2 37 1 (startC E2 37 args H) (.int .i64 v) [some (.cells [.int .i64 mq, .slice (some ⟨1, 0, none⟩) n' 0, .bool c, .bool e, .bool t] 45 none), some (.cells L' 64 (some 3))])
  (hs : canStart E2 37 args = true) (hH : H.length = 2) (hf : L'.all flat = true) : CallOk E2 37 args H (.int .i64 v) [some (.cells [.int .i64 mq, .slice (some ⟨2, 0, none⟩) n' 0, .bool c, .bool e, .bool t] 45 none), none, some (.cells L' 64 (some 3))] :=
 callOk_mov (ok := [L'.all flat]) h (by rw [hH]; kernel_rfl) (by simp [AllT, hf]) hs (by rw [hH]; exact Nat.le_of_ble_eq_true (by kernel_rfl)) (Nat.le_of_ble_eq_true (by kernel_rfl))

section
variable {n : Nat} {L : List Value} {l : List mT} (h : IsL n L l) (mq : Int) (c e t : Bool) (k o : Int) (x : ByteArray)
include h
theorem find_run (hc : c = false) : ∀ m i, i + m = l.length → (∀ (j : Nat) (z : mT), j < i → l[j]? = some z → z.1 ≠ 2) →
  AEnds E2 37 1 (rput_h1 mq n L c e t k o x n i) (.int .i64 0) [some (.cells [.int .i64 mq, .slice (some ⟨1, 0, none⟩) (l.eraseP (fun y => y.1 == 2) ++ [(k, o, x)]).length 0, .bool c, .bool e, .bool t] 45 none), some (.cells (mQ (l.eraseP (fun y => y.1 == 2) ++ [(k, o, x)])).flatten 64 (some 3))]
 | 0, i, hi, hb => by
  have hn := h.n
  have hm := h.m
  rw [eraseP_none l (fun j z hz => hb j z (by have := (List.getElem?_eq_some_iff.1 hz).1; omega) hz)]
  have w := rput_w1_2 mq n L c e t k o x n i
  rw [h.L, tkd l n hn, tkd2 l n hn, snocC] at w
  have w := w (mQ_flat _) (by simp) (by simp) (by rw [List.nil_append, mQ_flen]; omega) (by omega) (by omega) (mQ_one _) (by rw [mQ_flen]; omega) (by omega) (by omega) (decide_eq_false (by omega))
  rw [show 0 + n + 1 = (l ++ [(k, o, x)]).length by rw [List.length_append, hn]; simp] at w
  rw [h.L]
  exact w
 | m + 1, i, hi, hb => by
  have hn := h.n
  have hm := h.m
  have hlen := h.len
  obtain ⟨y, hy⟩ : ∃ y, l[i]? = some y := ⟨l[i]'(by omega), List.getElem?_eq_getElem (by omega)⟩
  obtain ⟨g0, _, _⟩ := h.get hy
  by_cases hk : y.1 = 2
  ·have w := rput_w1_0 mq n L c e t k o x n i (n, L, ((i : Nat) : Int)) rfl
   have el : (l.eraseIdx i).length = l.length - 1 := by rw [List.length_eraseIdx]; simp; omega
   simp only [h.prs, Int.toNat_natCast] at w
   rw [tkd (l.eraseIdx i) _ rfl, tkd2 (l.eraseIdx i) _ rfl, snocC, g0] at w
   have w := w (mQ_flat _) (by simp) (by simp) (by rw [List.nil_append, mQ_flen]; omega) (by omega) (by omega) (mQ_one _) (by rw [mQ_flen]; omega) (by omega) (by omega) h.flat ⟨l, i, h, rfl, by omega⟩ (mQ_flat _) (by simp [toInt, hk]) (by omega) rfl (by omega) (by omega) (decide_eq_true (by omega))
   rw [eraseP_at l i y hy hk hb]
   rw [show 0 + (l.eraseIdx i).length + 1 = (l.eraseIdx i ++ [(k, o, x)]).length by rw [List.length_append]; simp] at w
   exact w
  ·have w := rput_w1_1 mq n L c e t k o x n i
   rw [Int.toNat_natCast, g0, show IntKind.i64.wrap ((i : Int) + 1) = ((i + 1 : Nat) : Int) by rw [wrap64_in (by omega) (by omega)]; omega] at w
   refine (w h.flat (by simp [toInt, hk]) (by omega) rfl (by omega) (by omega) (decide_eq_true (by omega))).ends (find_run hc m (i + 1) (by omega) fun j z hj hz => ?_)
   by_cases hji : j = i
   ·subst hji; rw [hy] at hz; cases hz; exact hk
   ·exact hb j z (by omega) hz
end
theorem put_all (l : List mT) (hm : l.length ≤ 100000) (mq : Int) (c e t : Bool) (k o : Int) (x : ByteArray) : CallOk E2 37 [.pointer (some ⟨0, 0, none⟩), .agg #[.int .i64 k, .int .i64 o, .string x]] [some (.cells [.int .i64 mq, .slice (some ⟨1, 0, none⟩) l.length 0, .bool c, .bool e, .bool t] 45 none), some (.cells (mQ l).flatten 64 (some 3))]
  (.int .i64 (putF mq c e (k, o, x) l).1) [some (.cells [.int .i64 mq, .slice (some ⟨2, 0, none⟩) (putF mq c e (k, o, x) l).2.1.length 0, .bool (putF mq c e (k, o, x) l).2.2, .bool e, .bool t] 45 none), none, some (.cells (mQ (putF mq c e (k, o, x) l).2.1).flatten 64 (some 3))] := by
 have h : IsL l.length (mQ l).flatten l := ⟨rfl, rfl, hm⟩
 have hfl := h.flat
 have hp : ∀ k', rcountc_pre mq l.length (mQ l).flatten c e t k' := fun _ => ⟨l, h⟩
 have hsn : 0 + l.length + 1 = (l ++ [(k, o, x)]).length := by rw [List.length_append]; simp
 refine put_fin ?_ (by kernel_rfl) rfl (mQ_flat _)
 cases c with
 | true => exact rput_w0_0 mq l.length (mQ l).flatten true e t k o x hfl rfl
 | false =>
  cases e with
  | true => exact rput_w0_1 mq l.length (mQ l).flatten false true t k o x hfl rfl rfl
  | false =>
   by_cases k1 : k = 1
   ·subst k1
    by_cases c4 : 4 ≤ cnt 1 l
    ·have ef : putF mq false false (1, o, x) l = (6, l, false) := by simp [putF, c4]
     rw [ef]
     have w := rput_w0_2 mq l.length (mQ l).flatten false false t 1 o x hfl
     rw [prs_mQ] at w
     exact w (decide_eq_true (by omega)) (hp 1) rfl rfl rfl
    ·have ef : putF mq false false (1, o, x) l = (0, l ++ [(1, o, x)], false) := by simp [putF, c4]
     rw [ef]
     have w := rput_w0_3 mq l.length (mQ l).flatten false false t 1 o x
     rw [prs_mQ, tkd l _ rfl, tkd2 l _ rfl, snocC, hsn] at w
     exact w (mQ_flat _) (by simp) (by simp) (by rw [List.nil_append, mQ_flen]; omega) (by omega) (by omega) (mQ_one _) (by rw [mQ_flen]; omega) (by omega) (by omega) (decide_eq_false (by omega)) hfl (hp 1) rfl rfl rfl
   ·by_cases k2 : k = 2
    ·subst k2
     have ef : putF mq false false (2, o, x) l = (0, l.eraseP (fun y => y.1 == 2) ++ [(2, o, x)], false) := by simp [putF]
     rw [ef]
     exact (rput_w0_4 mq l.length (mQ l).flatten false false t 2 o x hfl rfl rfl rfl rfl).ends (find_run h mq false false t 2 o x rfl l.length 0 (by omega) (fun j z hj => absurd hj (Nat.not_lt_zero _)))
    ·by_cases k3 : k = 3
     ·subst k3
      by_cases c4 : mq ≤ cnt 3 l
      ·have ef : putF mq false false (3, o, x) l = (6, l, false) := by simp [putF, c4]
       rw [ef]
       have w := rput_w0_5 mq l.length (mQ l).flatten false false t 3 o x hfl
       rw [prs_mQ] at w
       exact w (decide_eq_true c4) (hp 3) rfl rfl rfl rfl rfl
      ·have ef : putF mq false false (3, o, x) l = (0, l ++ [(3, o, x)], false) := by simp [putF, c4]
       rw [ef]
       have w := rput_w0_6 mq l.length (mQ l).flatten false false t 3 o x
       rw [prs_mQ, tkd l _ rfl, tkd2 l _ rfl, snocC, hsn] at w
       exact w (mQ_flat _) (by simp) (by simp) (by rw [List.nil_append, mQ_flen]; omega) (by omega) (by omega) (mQ_one _) (by rw [mQ_flen]; omega) (by omega) (by omega) (decide_eq_false c4) hfl (hp 3) rfl rfl rfl rfl rfl
     ·have b1 : (k == 1) = false := by simp [k1]
      have b2 : (k == 2) = false := by simp [k2]
      have b3 : (k == 3) = false := by simp [k3]
      by_cases k4 : k = 4
      ·subst k4
       have ef : putF mq false false (4, o, x) l = (0, l ++ [(4, o, x)], true) := by simp [putF]
       rw [ef]
       have w := rput_w0_7 mq l.length (mQ l).flatten false false t 4 o x
       rw [tkd l _ rfl, tkd2 l _ rfl, snocC, hsn] at w
       exact w (mQ_flat _) (by simp) (by simp) (by rw [List.nil_append, mQ_flen]; omega) (by omega) (by omega) (mQ_one _) (by rw [mQ_flen]; omega) (by omega) (by omega) rfl rfl rfl rfl rfl rfl
      ·have ef : putF mq false false (k, o, x) l = (0, l ++ [(k, o, x)], false) := by simp [putF, k1, k2, k3, k4]
       rw [ef]
       have w := rput_w0_8 mq l.length (mQ l).flatten false false t k o x
       rw [tkd l _ rfl, tkd2 l _ rfl, snocC, hsn] at w
       exact w (mQ_flat _) (by simp) (by simp) (by rw [List.nil_append, mQ_flen]; omega) (by omega) (by omega) (mQ_one _) (by rw [mQ_flen]; omega) (by omega) (by omega) (by simp [k4]) b3 b2 b1 rfl rfl

def rputc_pre (mq : Int) (n : Nat) (L : List Value) (c e t : Bool) (k o : Int) (x : ByteArray) : Prop := ∃ l, IsL n L l
def rputc_v (mq : Int) (n : Nat) (L : List Value) (c e t : Bool) (k o : Int) (x : ByteArray) : Value := .int .i64 (putF mq c e (k, o, x) (prs n L)).1
def rputc_h (mq : Int) (n : Nat) (L : List Value) (c e t : Bool) (k o : Int) (x : ByteArray) : Heap := [some (.cells [.int .i64 mq, .slice (some ⟨2, 0, none⟩) (putF mq c e (k, o, x) (prs n L)).2.1.length 0, .bool (putF mq c e (k, o, x) (prs n L)).2.2, .bool e, .bool t] 45 none), none, some (.cells (mQ (putF mq c e (k, o, x) (prs n L)).2.1).flatten 64 (some 3))]
theorem rputc_call (mq : Int) (n : Nat) (L : List Value) (c e t : Bool) (k o : Int) (x : ByteArray) (h : rputc_pre mq n L c e t k o x) :
  CallOk E2 37 [.pointer (some ⟨0, 0, none⟩), .agg #[.int .i64 k, .int .i64 o, .string x]] [some (.cells [.int .i64 mq, .slice (some ⟨1, 0, none⟩) n 0, .bool c, .bool e, .bool t] 45 none), some (.cells L 64 (some 3))] (rputc_v mq n L c e t k o x) (rputc_h mq n L c e t k o x) := by
 obtain ⟨l, rfl, rfl, hm⟩ := h
 unfold rputc_v rputc_h
 rw [prs_mQ]
 exact put_all l hm mq c e t k o x

def rputc_ex (a : List Value) (h : Heap) : Int × Nat × List Value × Bool × Bool × Bool × Int × Int × ByteArray := ((toInt ((cellsOf h 0).getD 0 undef)), (sliceLen ((cellsOf h 0).getD 1 undef)), (cellsOf h 1), (toBool ((cellsOf h 0).getD 2 undef)), (toBool ((cellsOf h 0).getD 3 undef)), (toBool ((cellsOf h 0).getD 4 undef)), (toInt ((aggOf (a.getD 1 undef)).getD 0 undef)), (toInt ((aggOf (a.getD 1 undef)).getD 1 undef)), (toStr ((aggOf (a.getD 1 undef)).getD 2 undef)))
noncomputable def rputc_k : Ct := kS rputc_ex [.ptr 0 0, .agg [.int .i64, .int .i64, .str]] [.cells [.int .i64, .sl 1 (some 0) (some 0), .bool, .bool, .bool] 45 none, .any 64 (some 3)] (fun x => rputc_pre (x.1) (x.2.1) (x.2.2.1) (x.2.2.2.1) (x.2.2.2.2.1) (x.2.2.2.2.2.1) (x.2.2.2.2.2.2.1) (x.2.2.2.2.2.2.2.1) (x.2.2.2.2.2.2.2.2)) (fun x => rputc_v (x.1) (x.2.1) (x.2.2.1) (x.2.2.2.1) (x.2.2.2.2.1) (x.2.2.2.2.2.1) (x.2.2.2.2.2.2.1) (x.2.2.2.2.2.2.2.1) (x.2.2.2.2.2.2.2.2)) (fun x => rputc_h (x.1) (x.2.1) (x.2.2.1) (x.2.2.2.1) (x.2.2.2.2.1) (x.2.2.2.2.2.1) (x.2.2.2.2.2.2.1) (x.2.2.2.2.2.2.2.1) (x.2.2.2.2.2.2.2.2))
theorem rputc_k_ok : KFor E2 37 rputc_k := kS_ok (fun x hx => rputc_call (x.1) (x.2.1) (x.2.2.1) (x.2.2.2.1) (x.2.2.2.2.1) (x.2.2.2.2.2.1) (x.2.2.2.2.2.2.1) (x.2.2.2.2.2.2.2.1) (x.2.2.2.2.2.2.2.2) hx) (fun _ _ => rfl) (fun _ _ => rfl)


end Go.Proofs.Yticpjnmoiepafaa
