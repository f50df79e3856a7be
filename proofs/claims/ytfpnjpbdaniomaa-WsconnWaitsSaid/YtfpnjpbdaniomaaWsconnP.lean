/-
  A connection: Next as a contract.
-/
import Derived.Test.YtfpnjpbdaniomaaWsconnM
import Derived.Test.YtfpnjpbdaniomaaWsconnO
set_option linter.unusedVariables false
set_option linter.unusedSimpArgs false
open Go Go.Am
namespace Go.Proofs.Ytfpnjpbdaniomaa

noncomputable def evV : Option EvT → Value
 | none => .tuple #[.agg #[.int .i64 0, .int .i64 0, .int .i64 0, .string ⟨#[]⟩], .bool false]
 | some e => .tuple #[.agg #[.int .i64 e.1, .int .i64 e.2.1, .int .i64 e.2.2.1, .string e.2.2.2], .bool true]
noncomputable def hC (c : CS) : Heap := [some (.cells [.pointer (some ⟨1, 0, none⟩), .pointer (some ⟨2, 0, none⟩), .int .i64 c.st, .int .i64 c.ctl, .string c.data] 71 none), some (.obj (encR c.r)), some (.obj (enc c.j))]
theorem rnxE_enc (x : RX) : rnxE (encR x) = evR (stepT true x) := rnxE_eq _
theorem rnx_ok {x : RX} (h : Inv x) : rnx_pre (encR x) := ⟨rfl, h⟩
theorem jbgV_enc (s : JS) (l : Bool) (o n : Int) : jbgV (enc s) l o n = (beginF s l o n).1 := by unfold jbgV; rw [dec_enc]
theorem jbgJ_enc (s : JS) (l : Bool) (o n : Int) : jbgJ (enc s) l o n = enc (beginF s l o n).2 := by unfold jbgJ; rw [dec_enc]
theorem jpcV_enc (s : JS) (t : ByteArray) : jpcV (enc s) t = (pieceF s t).1 := by unfold jpcV; rw [dec_enc]
theorem jpcJ_enc (s : JS) (t : ByteArray) : jpcJ (enc s) t = enc (pieceF s t).2 := by unfold jpcJ; rw [dec_enc]
theorem jenE_enc (s : JS) : jenE (enc s) = ((endF s).1, (endF s).2.1, (endF s).2.2.1, (endF s).2.2.2.1) := by rw [jenE_eq, dec_enc]
theorem jenJ_enc (s : JS) : jenJ (enc s) = enc (endF s).2.2.2.2 := by unfold jenJ; rw [dec_enc]
theorem ne_t {a b : Int} (h : ¬ a = b) : (a != b) = true := by simpa using h
theorem ne_f {a b : Int} (h : a = b) : (a != b) = false := by simp [h]
theorem eq_t {a b : Int} (h : a = b) : (a == b) = true := by simp [h]
theorem eq_f {a b : Int} (h : ¬ a = b) : (a == b) = false := by simpa using h

section
variable {st ct : Int} {da : ByteArray} {R J : Heap} {B : Nat} (hB1 : B ≤ 1000000)
noncomputable def nH (st ct : Int) (da : ByteArray) (R J : Heap) (c : CS) : Cfg := cnext_h1 st ct da R J c.ctl c.data (encR c.r) (enc c.j)
include hB1
theorem nx_none {c : CS} (h : CW B c) (hst : c.st = st) (hs : ¬ c.st = 3) (ho : rOk (stepT true c.r) = false) : AEnds E 21 3 (nH st ct da R J c) (evV none) (hC c) := by
 have _ := hB1
 obtain ⟨e1, e2⟩ := stepT_no ho
 have w := cnext_w1_0 st ct da R J c.ctl c.data (encR c.r) (enc c.j) _ ((rnxE_enc c.r).trans e1) rfl (rnx_ok h.r) (ne_t (by rw [← hst]; exact hs))
 have hr : rnxR (encR c.r) = encR c.r := by
  show encR (rx (stepT true c.r)) = _
  rw [e2]
 rw [hr] at w
 unfold hC
 rw [hst]
 exact w
theorem nx_some0 {c : CS} (h : CW B c) (hst : c.st = st) (hs : ¬ c.st = 3) (ho : rOk (stepT true c.r) = true) (hcase : (xSt c.r = 0 ∧ evR (stepT true c.r) = (4, 0, false, 0, ⟨#[]⟩, true) ∧ rx (stepT true c.r) = xSet c.r 2 ⟨#[]⟩ (xTold c.r))) :
  match takeR c (evR (stepT true c.r)) (rx (stepT true c.r)) with
  | (some e, c') => AEnds E 21 3 (nH st ct da R J c) (evV (some e)) (hC c')
  | (none, c') => c'.st = st ∧ Gets E 3 (nH st ct da R J c) (nH st ct da R J c') := by
 have hB := h.le
 have hd := h.dat
 have hi := rnx_ok h.r
 have s3 : (st != 3) = true := ne_t (by rw [← hst]; exact hs)
 have hR : rnxR (encR c.r) = encR (rx (stepT true c.r)) := rfl
 have hcd : creadc_pre c.data := by unfold creadc_pre; omega
 obtain ⟨a1, a2, a3⟩ := hcase
 have w := cnext_w1_1 st ct da R J c.ctl c.data (encR c.r) (enc c.j) _ ((rnxE_enc c.r).trans a2) rfl rfl hi s3
 rw [a2]
 unfold takeR takesF
 simp only [if_true]
 exact w
theorem nx_some1 {c : CS} (h : CW B c) (hst : c.st = st) (hs : ¬ c.st = 3) (ho : rOk (stepT true c.r) = true) (hcase : (xSt c.r = 0 ∧ hOk (xIn c.r) = true ∧ mayS true (xIn c.r) = true ∧ evR (stepT true c.r) = (1, chr (xIn c.r) 0 % 16, decide (128 ≤ chr (xIn c.r) 0), hLen (xIn c.r), ⟨#[]⟩, true) ∧ rx (stepT true c.r) = xHead (xIn c.r))) :
  match takeR c (evR (stepT true c.r)) (rx (stepT true c.r)) with
  | (some e, c') => AEnds E 21 3 (nH st ct da R J c) (evV (some e)) (hC c')
  | (none, c') => c'.st = st ∧ Gets E 3 (nH st ct da R J c) (nH st ct da R J c') := by
 have hB := h.le
 have hd := h.dat
 have hi := rnx_ok h.r
 have s3 : (st != 3) = true := ne_t (by rw [← hst]; exact hs)
 have hR : rnxR (encR c.r) = encR (rx (stepT true c.r)) := rfl
 have hcd : creadc_pre c.data := by unfold creadc_pre; omega
 obtain ⟨a1, a2, a3, a4, a5⟩ := hcase
 have hc : c.ctl = 0 := Classical.byContradiction fun hc => by have := h.ctl hc; omega
 have er := (rnxE_enc c.r).trans a4
 rw [a4]
 unfold takeR takesF
 dsimp only
 rw [if_neg (by omega)]
 by_cases c8 : 8 ≤ chr (xIn c.r) 0 % 16
 ·rw [if_pos ⟨rfl, c8⟩]
  exact ⟨hst, cnext_w1_2 st ct da R J c.ctl c.data (encR c.r) (enc c.j) _ er (decide_eq_true c8) rfl rfl rfl hi s3⟩
 ·have f8 : decide (8 ≤ chr (xIn c.r) 0 % 16) = false := decide_eq_false c8
  rw [if_neg (fun hh => c8 hh.2), if_neg (by omega)]
  by_cases c1 : c.st = 1
  ·have s1 : (st != 1) = false := ne_f (by rw [← hst]; exact c1)
   have j := h.jl c1
   have ho3 : chr (xIn c.r) 0 % 16 = 0 ∨ chr (xIn c.r) 0 % 16 = 1 ∨ chr (xIn c.r) 0 % 16 = 2 := by
    have := may_op a3; omega
   have hnb : c.j.begun = false := by
    cases hb : c.j.begun with
    | false => rfl
    | true => have := (j.bg.1 hb).1; omega
   have hp : jbg_pre (enc c.j) (decide (128 ≤ chr (xIn c.r) 0)) (chr (xIn c.r) 0 % 16) (hLen (xIn c.r)) := ⟨JI_enc _, by rw [dec_enc]; exact j.bad, by rw [dec_enc]; exact hnb, ho3⟩
   have ev := jbgV_enc c.j (decide (128 ≤ chr (xIn c.r) 0)) (chr (xIn c.r) 0 % 16) (hLen (xIn c.r))
   have ej := jbgJ_enc c.j (decide (128 ≤ chr (xIn c.r) 0)) (chr (xIn c.r) 0 % 16) (hLen (xIn c.r))
   rw [if_neg (by omega), if_pos rfl]
   by_cases cb : (beginF c.j (decide (128 ≤ chr (xIn c.r) 0)) (chr (xIn c.r) 0 % 16) (hLen (xIn c.r))).1 = 0
   ·rw [if_neg (by omega)]
    have w := cnext_w1_11 st ct da R J c.ctl c.data (encR c.r) (enc c.j) _ er (by dsimp only; rw [ev]; exact ne_f cb) hp rfl s1 (ne_f hc) f8 rfl rfl hi s3
    dsimp only at w
    rw [ej] at w
    exact ⟨hst, w⟩
   ·rw [if_pos cb]
    have w := cnext_w1_10 st ct da R J c.ctl c.data (encR c.r) (enc c.j) _ er (by dsimp only; rw [ev]; exact ne_t cb) hp rfl s1 (ne_f hc) f8 rfl rfl hi s3
    dsimp only at w
    rw [ej, ev] at w
    exact w
  ·have s1 : (st != 1) = true := ne_t (by rw [← hst]; exact c1)
   rw [if_pos c1]
   exact ⟨hst, cnext_w1_9 st ct da R J c.ctl c.data (encR c.r) (enc c.j) _ er s1 (ne_f hc) f8 rfl rfl rfl hi s3⟩
theorem nx_some2 {c : CS} (h : CW B c) (hst : c.st = st) (hs : ¬ c.st = 3) (ho : rOk (stepT true c.r) = true) (hcase : (xSt c.r = 1 ∧ xHl c.r = xTold c.r ∧ evR (stepT true c.r) = (3, 0, false, 0, ⟨#[]⟩, true) ∧ rx (stepT true c.r) = xSet c.r 0 (xIn c.r) (xTold c.r))) :
  match takeR c (evR (stepT true c.r)) (rx (stepT true c.r)) with
  | (some e, c') => AEnds E 21 3 (nH st ct da R J c) (evV (some e)) (hC c')
  | (none, c') => c'.st = st ∧ Gets E 3 (nH st ct da R J c) (nH st ct da R J c') := by
 have hB := h.le
 have hd := h.dat
 have hi := rnx_ok h.r
 have s3 : (st != 3) = true := ne_t (by rw [← hst]; exact hs)
 have hR : rnxR (encR c.r) = encR (rx (stepT true c.r)) := rfl
 have hcd : creadc_pre c.data := by unfold creadc_pre; omega
 obtain ⟨a1, a2, a3, a4⟩ := hcase
 have er := (rnxE_enc c.r).trans a3
 rw [a3]
 unfold takeR takesF
 dsimp only
 rw [if_neg (by omega), if_neg (by omega)]
 by_cases hc : c.ctl = 0
 ·rw [if_neg (by omega)]
  by_cases c1 : c.st = 1
  ·have s1 : (st != 1) = false := ne_f (by rw [← hst]; exact c1)
   have j := h.jl c1
   have jt := j.tx
   have hbg : c.j.begun = true := j.bg.2 ⟨a1, hc⟩
   have hlk := j.lk hbg
   have hp : jen_pre (enc c.j) := by
    unfold jen_pre
    rw [dec_enc]
    exact ⟨JI_enc _, fun _ => j.ch (j.bo hbg), j.bad, hbg, by omega, by omega, j.tn⟩
   have ej := jenJ_enc c.j
   have ee := jenE_enc c.j
   rw [if_neg (by omega), if_neg (by omega), if_neg (by omega), if_pos rfl]
   by_cases ce : (endF c.j).2.2.2.1 = 0
   ·rw [if_neg (by omega)]
    cases cw : (endF c.j).2.2.1 with
    | true =>
     rw [if_pos rfl]
     have w := cnext_w1_22 st ct da R J c.ctl c.data (encR c.r) (enc c.j) _ ee _ er cw (ne_f ce) hp rfl rfl rfl s1 (ne_f hc) rfl rfl hi s3
     dsimp only at w
     rw [ej, ← hst] at w
     rw [← hst]
     exact w
    | false =>
     rw [if_neg (by simp)]
     have w := cnext_w1_23 st ct da R J c.ctl c.data (encR c.r) (enc c.j) _ ee _ er cw (ne_f ce) hp rfl rfl rfl s1 (ne_f hc) rfl rfl hi s3
     rw [ej] at w
     exact ⟨hst, w⟩
   ·rw [if_pos ce]
    have w := cnext_w1_21 st ct da R J c.ctl c.data (encR c.r) (enc c.j) _ ee _ er (ne_t ce) hp rfl rfl rfl s1 (ne_f hc) rfl rfl hi s3
    rw [ej] at w
    exact w
  ·have s1 : (st != 1) = true := ne_t (by rw [← hst]; exact c1)
   rw [if_pos c1]
   exact ⟨hst, cnext_w1_18 st ct da R J c.ctl c.data (encR c.r) (enc c.j) _ er s1 (ne_f hc) rfl rfl rfl hi s3⟩
 ·rw [if_pos hc, if_neg (by omega)]
  by_cases c8 : c.ctl = 8
  ·rw [if_pos c8]
   by_cases cd : (cdT c.data).2.2 = 0
   ·rw [if_neg (by omega)]
    exact cnext_w1_14 st ct da R J c.ctl c.data (encR c.r) (enc c.j) _ rfl _ er (ne_f cd) hcd (eq_t c8) rfl (ne_t hc) rfl rfl rfl hi s3
   ·rw [if_pos cd]
    exact cnext_w1_13 st ct da R J c.ctl c.data (encR c.r) (enc c.j) _ rfl _ er (ne_t cd) hcd (eq_t c8) rfl (ne_t hc) rfl rfl rfl hi s3
  ·rw [if_neg c8]
   by_cases c9 : c.ctl = 9
   ·by_cases c1 : c.st = 1
    ·rw [if_pos ⟨c9, c1⟩]
     have w := cnext_w1_15 st ct da R J c.ctl c.data (encR c.r) (enc c.j) _ er (eq_t (by rw [← hst]; exact c1)) (eq_t c9) (eq_f c8) rfl (ne_t hc) rfl rfl rfl hi s3
     rw [← hst] at w
     rw [← hst]
     exact w
    ·rw [if_neg (fun hh => c1 hh.2)]
     exact ⟨hst, cnext_w1_16 st ct da R J c.ctl c.data (encR c.r) (enc c.j) _ er (eq_f (by rw [← hst]; exact c1)) (eq_t c9) (eq_f c8) rfl (ne_t hc) rfl rfl rfl hi s3⟩
   ·rw [if_neg (fun hh => c9 hh.1)]
    exact ⟨hst, cnext_w1_17 st ct da R J c.ctl c.data (encR c.r) (enc c.j) _ er (eq_f c9) (eq_f c8) rfl (ne_t hc) rfl rfl rfl hi s3⟩
theorem nx_some3 {c : CS} (h : CW B c) (hst : c.st = st) (hs : ¬ c.st = 3) (ho : rOk (stepT true c.r) = true) (hcase : (xSt c.r = 1 ∧ 0 < nOf c.r ∧ nOf c.r ≤ slen (xIn c.r) ∧ (nOf c.r : Int) ≤ xHl c.r - xTold c.r ∧ evR (stepT true c.r) = (2, 0, false, 0, maskD (xKey c.r) (xTold c.r) (sub (xIn c.r) 0 (nOf c.r)), true) ∧ rx (stepT true c.r) = xSet c.r (xSt c.r) (sub (xIn c.r) (nOf c.r) (slen (xIn c.r))) (xTold c.r + nOf c.r))) :
  match takeR c (evR (stepT true c.r)) (rx (stepT true c.r)) with
  | (some e, c') => AEnds E 21 3 (nH st ct da R J c) (evV (some e)) (hC c')
  | (none, c') => c'.st = st ∧ Gets E 3 (nH st ct da R J c) (nH st ct da R J c') := by
 have hB := h.le
 have hd := h.dat
 have hi := rnx_ok h.r
 have s3 : (st != 3) = true := ne_t (by rw [← hst]; exact hs)
 have hR : rnxR (encR c.r) = encR (rx (stepT true c.r)) := rfl
 have hcd : creadc_pre c.data := by unfold creadc_pre; omega
 obtain ⟨a1, a2, a3, a4, a5, a6⟩ := hcase
 have hp := piece_len c.r a3
 have er := (rnxE_enc c.r).trans a5
 rw [a5]
 unfold takeR takesF
 dsimp only
 rw [if_neg (by omega), if_neg (by omega)]
 by_cases hc : c.ctl = 0
 ·rw [if_neg (by omega)]
  by_cases c1 : c.st = 1
  ·have s1 : (st != 1) = false := ne_f (by rw [← hst]; exact c1)
   have j := h.jl c1
   have jt := j.tx
   have ja := j.a1
   have hbg : c.j.begun = true := j.bg.2 ⟨a1, hc⟩
   have hpp : jpc_pre (enc c.j) (maskD (xKey c.r) (xTold c.r) (sub (xIn c.r) 0 (nOf c.r))) := by
    unfold jpc_pre
    rw [dec_enc, hp]
    exact ⟨JI_enc _, j.ch (j.bo hbg), j.bad, hbg, a2, by omega, j.a0, by omega⟩
   have ev := jpcV_enc c.j (maskD (xKey c.r) (xTold c.r) (sub (xIn c.r) 0 (nOf c.r)))
   have ej := jpcJ_enc c.j (maskD (xKey c.r) (xTold c.r) (sub (xIn c.r) 0 (nOf c.r)))
   rw [if_neg (by omega), if_neg (by omega), if_pos rfl]
   by_cases cp : (pieceF c.j (maskD (xKey c.r) (xTold c.r) (sub (xIn c.r) 0 (nOf c.r)))).1 = 0
   ·rw [if_neg (by omega)]
    have w := cnext_w1_20 st ct da R J c.ctl c.data (encR c.r) (enc c.j) _ er (by dsimp only; rw [ev]; exact ne_f cp) hpp rfl rfl s1 (ne_f hc) rfl rfl hi s3
    dsimp only at w
    rw [ej] at w
    exact ⟨hst, w⟩
   ·rw [if_pos cp]
    have w := cnext_w1_19 st ct da R J c.ctl c.data (encR c.r) (enc c.j) _ er (by dsimp only; rw [ev]; exact ne_t cp) hpp rfl rfl s1 (ne_f hc) rfl rfl hi s3
    dsimp only at w
    rw [ej, ev] at w
    exact w
  ·have s1 : (st != 1) = true := ne_t (by rw [← hst]; exact c1)
   rw [if_pos c1]
   exact ⟨hst, cnext_w1_18 st ct da R J c.ctl c.data (encR c.r) (enc c.j) _ er s1 (ne_f hc) rfl rfl rfl hi s3⟩
 ·rw [if_pos hc, if_pos rfl]
  have h12 : slen c.data + slen (maskD (xKey c.r) (xTold c.r) (sub (xIn c.r) 0 (nOf c.r))) ≤ 9223372036854775807 := by rw [hp]; omega
  have w := cnext_w1_12 st ct da R J c.ctl c.data (encR c.r) (enc c.j) _ er h12 rfl (ne_t hc) rfl rfl rfl hi s3
  dsimp only at w
  exact ⟨hst, w⟩
theorem nx_some {c : CS} (h : CW B c) (hst : c.st = st) (hs : ¬ c.st = 3) (ho : rOk (stepT true c.r) = true) :
  match takeR c (evR (stepT true c.r)) (rx (stepT true c.r)) with
  | (some e, c') => AEnds E 21 3 (nH st ct da R J c) (evV (some e)) (hC c')
  | (none, c') => c'.st = st ∧ Gets E 3 (nH st ct da R J c) (nH st ct da R J c') := by
 rcases step_cases h.r ho with q | q | q | q
 ·exact nx_some0 hB1 h hst hs ho q
 ·exact nx_some1 hB1 h hst hs ho q
 ·exact nx_some2 hB1 h hst hs ho q
 ·exact nx_some3 hB1 h hst hs ho q
theorem nx_run : ∀ (n : Nat) (c : CS), mu c.r < n → CW B c → c.st = st → AEnds E 21 3 (nH st ct da R J c) (evV (nextF n c).1) (hC (nextF n c).2)
 | 0, c, hm, _, _ => by omega
 | n + 1, c, hm, h, hst => by
  unfold nextF
  by_cases hs : c.st = 3
  ·rw [if_pos hs]
   have w := cnext_w1_25 st ct da R J c.ctl c.data (encR c.r) (enc c.j) (ne_f (by rw [← hst]; exact hs))
   rw [← hst] at w
   rw [← hst]
   exact w
  ·rw [if_neg hs]
   cases ho : rOk (stepT true c.r) with
   | false =>
    rw [if_pos rfl]
    exact nx_none hB1 h hst hs ho
   | true =>
    rw [if_neg (by simp)]
    have hi := takeR_inv h hs ho
    have w := nx_some (ct := ct) (da := da) (R := R) (J := J) hB1 h hst hs ho
    have hmu := (step_inv h.r ho).2
    have hrr : (takeR c (evR (stepT true c.r)) (rx (stepT true c.r))).2.r = rx (stepT true c.r) := takeR_r _ _ _
    generalize takeR c (evR (stepT true c.r)) (rx (stepT true c.r)) = q at w hi hrr
    obtain ⟨e, c'⟩ := q
    cases e with
    | some e => exact w
    | none =>
     refine w.2.ends (nx_run n c' ?_ hi w.1)
     have hrr : c'.r = rx (stepT true c.r) := hrr
     rw [hrr]; omega
end
end Go.Proofs.Ytfpnjpbdaniomaa
