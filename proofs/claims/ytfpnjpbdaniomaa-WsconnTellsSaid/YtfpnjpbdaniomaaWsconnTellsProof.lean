/-
  PROVED: the law WsconnTells hands back true at every input, and its arguments read behind the call as they read before. (Printed by tells.py.)
-/
import Derived.Test.YtfpnjpbdaniomaaRows
import Derived.Test.YtfpnjpbdaniomaaAmRows
import Derived.Test.YtfpnjpbdaniomaaWsconnX
import Derived.Test.YtfpnjpbdaniomaaWsconnTa
import Derived.Test.YtfpnjpbdaniomaaWsconnV
set_option linter.unusedVariables false
set_option linter.unusedSimpArgs false
set_option maxHeartbeats 2000000
open Go Go.Am Go.ChangeShapes Go.WideShapes Go.ChangeAt Go.RowKit
namespace Go.Proofs.Ytfpnjpbdaniomaa.wsconnTells

theorem er1 {c : CS} {q : Option EvT × CS} (h : nextC c = q) : nxT c.st c.ctl c.data (encR c.r) (enc c.j) = nxU q := by rw [nxT_U, h]
/-! parts in a row -/
def prC (p : Prt) : List Value := [.string p.1, .string p.2.1, .bool p.2.2.1, .int .i64 p.2.2.2.1, .int .i64 p.2.2.2.2.1, .bool p.2.2.2.2.2]
def pQ (l : List Prt) : List Value := (l.map prC).flatten
theorem pQ_len : ∀ (l : List Prt), (pQ l).length = l.length * 6
 | [] => rfl
 | p :: l => by
  show (prC p ++ pQ l).length = (l.length + 1) * 6
  rw [List.length_append, pQ_len l]
  show 6 + l.length * 6 = _
  omega
theorem pQ_at : ∀ (l : List Prt) (i : Nat) (p : Prt) (j : Nat), l[i]? = some p → j < 6 → (pQ l).getD (i * 6 + j) undef = (prC p).getD j undef
 | [], i, p, j, h, _ => by simp at h
 | x :: l, 0, p, j, h, hj => by
  simp at h
  subst h
  show (prC x ++ pQ l).getD (0 * 6 + j) undef = _
  rw [show 0 * 6 + j = j by omega, List.getD_eq_getElem?_getD, List.getElem?_append_left (by show j < 6; exact hj), ← List.getD_eq_getElem?_getD]
 | x :: l, i + 1, p, j, h, hj => by
  show (prC x ++ pQ l).getD ((i + 1) * 6 + j) undef = _
  have h6 : (prC x).length = 6 := rfl
  rw [List.getD_eq_getElem?_getD, List.getElem?_append_right (by rw [h6]; omega), h6, show (i + 1) * 6 + j - 6 = i * 6 + j by omega, ← List.getD_eq_getElem?_getD]
  exact pQ_at l i p j (by simpa using h) hj
theorem rows_prt : ∀ {rows : List (List Value)}, (∀ r ∈ rows, AllL [.str, .str, .bool, .int .i64, .int .i64, .bool] r) → ∃ l : List Prt, rows = l.map prC
 | [], h => ⟨[], rfl⟩
 | r :: rows, h => by
  obtain ⟨l, e⟩ := rows_prt (rows := rows) (fun r hr => h r (List.mem_cons_of_mem _ hr))
  obtain ⟨_, _, rfl, ⟨t, rfl, _⟩, _, _, rfl, ⟨g, rfl, _⟩, _, _, rfl, ⟨x, rfl, _⟩, _, _, rfl, ⟨a, rfl, _⟩, _, _, rfl, ⟨b, rfl, _⟩, _, _, rfl, ⟨y, rfl, _⟩, h4⟩ := h r List.mem_cons_self
  have h4 : _ = [] := h4
  subst h4
  exact ⟨(t, g, x, a, b, y) :: l, by rw [e]; rfl⟩
theorem row1 (W : List EvT) (G : ByteArray) : List.take (W.length * 4) (List.drop 0 (evRow W)) ++ [Value.int .i64 2, Value.int .i64 0, Value.int .i64 0, Value.string G] = evRow (W ++ [(2, 0, 0, G)]) := evRow_snoc W (2, 0, 0, G)
theorem rowm (W : List EvT) (o : Int) (T : ByteArray) : List.take (W.length * 4) (List.drop 0 (evRow W)) ++ [Value.int .i64 1, Value.int .i64 o, Value.int .i64 0, Value.string T] = evRow (W ++ [(1, o, 0, T)]) := evRow_snoc W (1, o, 0, T)
theorem rowM (W : List EvT) (e : EvT) (o : Int) (T : ByteArray) : List.take ((W.length + 1) * 4) (List.drop 0 (evRow (W ++ [e]))) ++ [Value.int .i64 1, Value.int .i64 o, Value.int .i64 0, Value.string T] = evRow (W ++ [e] ++ [(1, o, 0, T)]) := by
 have := evRow_snoc (W ++ [e]) (1, o, 0, T)
 rw [List.length_append, List.length_singleton] at this
 exact this
section
variable (n : Nat) (A : List Value) (code : Int)
theorem run3 (t5 : ByteArray) (W : List EvT) (f : Bool) (t1 : ByteArray) (i : Int) : ∀ (N : Nat) (c : CS) (out : List EvT), (tlc c).1.length = N → CW 1000000 c → out.length + N ≤ 2000 →
  Gets E 0 (tells_h3 n A code t5 W.length f t1 i (evRow W) c.st c.ctl c.data (evRow out) (encR c.r) (enc c.j) out.length)
   (tells_h2 n A code t5 W.length (evRow W) (tlc c).2.st (tlc c).2.ctl (tlc c).2.data (evRow (out ++ (tlc c).1)) (encR (tlc c).2.r) (enc (tlc c).2.j) f (sub t1 (slen t1 : Int).toNat (slen t1)) (IntKind.i64.wrap (i + 1)) (out ++ (tlc c).1).length) := by
 intro N
 induction N with
 | zero =>
  intro c out hN h hl
  have hp := nxc_ok (Nat.le_refl _) h
  generalize hq : nextC c = q
  obtain ⟨e, c'⟩ := q
  cases e with
  | none =>
   have ht := nextC_none h.r hq
   rw [ht]
   dsimp only
   rw [List.append_nil]
   have w := tells_w3_0 n A code t5 W.length f t1 i (evRow W) c.st c.ctl c.data (evRow out) (encR c.r) (enc c.j) out.length _ (er1 hq) (evRow_flat _) (evRow_flat _) rfl hp
   unfold nxU at w
   dsimp only at w
   exact w
  | some e =>
   have ht := nextC_some h.r hq
   have e0 := congrArg (fun q => q.1.length) ht
   dsimp only at e0
   simp only [List.length_cons, List.length_nil] at e0
   omega
 | succ N ih =>
  intro c out hN h hl
  have hp := nxc_ok (Nat.le_refl _) h
  have hi := nextF_inv (mu c.r + 1) c h
  have e0 : nextC c = nextF (mu c.r + 1) c := rfl
  rw [← e0] at hi
  generalize hq : nextC c = q at hi
  obtain ⟨e, c'⟩ := q
  cases e with
  | none =>
   have ht := nextC_none h.r hq
   have e0 := congrArg (fun q => q.1.length) ht
   dsimp only at e0
   simp only [List.length_cons, List.length_nil] at e0
   omega
  | some e =>
   have ht := nextC_some h.r hq
   have e1 := congrArg (fun q => q.1.length) ht
   dsimp only at e1
   rw [List.length_cons] at e1
   rw [ht]
   dsimp only
   have w := tells_w3_1 n A code t5 W.length f t1 i (evRow W) c.st c.ctl c.data (evRow out) (encR c.r) (enc c.j) out.length _ (er1 hq) (evRow_flat _) (by
    show (List.take (out.length * 4) (List.drop 0 (evRow out)) ++ evC e).all flat = true
    rw [evRow_snoc]; exact evRow_flat _) (decide_eq_false (by omega)) (by rw [evRow_len]; omega) (by omega) (by omega) rfl hp
   unfold nxU evT at w
   dsimp only [Option.getD_some] at w
   rw [show ([Value.int IntKind.i64 e.1, Value.int IntKind.i64 e.2.1, Value.int IntKind.i64 e.2.2.1, Value.string e.2.2.2] : List Value) = evC e from rfl] at w
   rw [evRow_snoc, show out.length + 1 = (out ++ [e]).length by simp] at w
   have ih := ih c' (out ++ [e]) (by omega) hi.1 (by rw [List.length_append, List.length_singleton]; omega)
   rw [List.append_assoc, List.singleton_append] at ih
   exact w.trans ih
theorem run4 (W : List EvT) (hW : W.length ≤ 100) (h0 : 0 ≤ code) (h1 : code ≤ 65535) : ∀ (m i : Nat), i + m = W.length →
  AEnds E 4 0 (tells_h4 n A code W.length (mayP code) (W ++ [endE code]).length (evRow W) (evRow (W ++ [endE code])) i) (.bool true) []
 | 0, i, hi => by
  have hL : (W ++ [endE code]).length = W.length + 1 := by simp
  have g : ∀ j, j < 4 → (evRow (W ++ [endE code])).getD (0 + (W.length : Int).toNat * 4 + j) undef = (evC (endE code)).getD j undef := fun j hj => evRow_get _ _ _ _ (by rw [Int.toNat_natCast]; simp) hj
  have g0 := g 0 (by omega)
  have g1 := g 1 (by omega)
  have g2 := g 2 (by omega)
  have g3 := g 3 (by omega)
  have hd : decide ((i : Int) < (W.length : Int)) = false := decide_eq_false (by omega)
  have hl : 0 + (W.length : Int).toNat * 4 + 4 ≤ (evRow (W ++ [endE code])).length := by rw [evRow_len, hL, Int.toNat_natCast]; omega
  have wc : IntKind.i64.wrap code = code := wrap64_in (by omega) (by omega)
  cases hm : mayP code with
  | true =>
   have he : endE code = (3, 0, code, ⟨#[]⟩) := by unfold endE; rw [hm]; rfl
   have w := tells_w4_1 n A code W.length true (W ++ [endE code]).length (evRow W) (evRow (W ++ [endE code])) i
   rw [g0, g1, g2, g3, he, wc] at w
   rw [he] at hL hl ⊢
   exact w (by simp [evC, toInt, toStr, toL]) hl rfl rfl rfl rfl (by omega) rfl hd
  | false =>
   have he : endE code = (4, 0, 1002, ⟨#[]⟩) := by unfold endE; rw [hm]; rfl
   have w := tells_w4_2 n A code W.length false (W ++ [endE code]).length (evRow W) (evRow (W ++ [endE code])) i
   rw [g0, g1, g2, g3, he] at w
   rw [he] at hL hl ⊢
   exact w (by simp [evC, toInt, toStr, toL]) hl rfl rfl rfl rfl (by omega) rfl hd
 | m + 1, i, hi => by
  have hL : (W ++ [endE code]).length = W.length + 1 := by simp
  obtain ⟨e, he⟩ : ∃ e, W[i]? = some e := ⟨_, List.getElem?_eq_getElem (by omega)⟩
  have he2 : (W ++ [endE code])[i]? = some e := by rw [List.getElem?_append_left (by omega)]; exact he
  have w := tells_w4_0 n A code W.length (mayP code) (W ++ [endE code]).length (evRow W) (evRow (W ++ [endE code])) i
  rw [Int.toNat_natCast, evRow_get _ _ _ 0 he (by omega), evRow_get _ _ _ 1 he (by omega), evRow_get _ _ _ 2 he (by omega), evRow_get _ _ _ 3 he (by omega), evRow_get _ _ _ 0 he2 (by omega), evRow_get _ _ _ 1 he2 (by omega), evRow_get _ _ _ 2 he2 (by omega), evRow_get _ _ _ 3 he2 (by omega), evRow_len, evRow_len] at w
  rw [show IntKind.i64.wrap ((i : Int) + 1) = ((i + 1 : Nat) : Int) by rw [wrap64_in (by omega) (by omega)]; omega] at w
  exact (w (evRow_flat _) (evRow_flat _) (by simp [evC, toInt, toStr, toL]) (by omega) rfl rfl rfl rfl (by omega) (by omega) (by omega) rfl rfl rfl rfl (by omega) (decide_eq_true (by omega))).ends (run4 W hW h0 h1 m (i + 1) (by omega))
theorem fin (l : List Prt) (hl : l.length ≤ 8) (hp : ∀ p ∈ l, PrtOk p) (hW : (wnt l).length ≤ 100) (h0 : 0 ≤ code) (h1 : code ≤ 65535) (f : Bool) (hf : f = mayP code) :
  AEnds E 4 0 (tells_h2 n A code (strm l) (wnt l).length (evRow (wnt l)) 1 0 ⟨#[]⟩ [] rnwR (jnwJ 1000) f (allS l code ⟨#[108, 97, 116, 101]⟩) 0 0) (.bool true) [] := by
 subst hf
 obtain ⟨a1, a2, a3⟩ := all_told hl hp h0 h1 (late := ⟨#[108, 97, 116, 101]⟩) (by decide)
 generalize hs : allS l code ⟨#[108, 97, 116, 101]⟩ = s at a1 a2 a3
 have hpos : 0 < slen s := by
  have f2 := frB_len true 9 ⟨#[108, 97, 116, 101]⟩
  have : slen s = slen (cat (strm l) (frB true 8 (cdD code))) + slen (frB true 9 ⟨#[108, 97, 116, 101]⟩) := by rw [← hs]; exact slen_cat _ _
  have : 0 < slen (frB true 9 ⟨#[108, 97, 116, 101]⟩) := by rw [f2]; show 0 < hn 4 + 4; omega
  omega
 have hi0 := c0_inv 1000
 have hs0 : ¬ (c0 1000).st = 3 := by show ¬ (1 : Int) = 3; decide
 have hc1 := fdC_inv (s := s) (k := slen s) hi0 (Nat.le_refl _) (by omega)
 have hcb : CW 1000000 (fdC (c0 1000) s) := by
  refine ⟨hc1.r, hc1.ctl, by have := hc1.dat; omega, fun hh => ?_⟩
  have j := hc1.jl hh
  have := j.tx
  have := j.a1
  exact ⟨j.bad, j.bg, j.lk, j.bo, j.ch, by omega, j.tn, j.a0, by omega⟩
 have hN : (tlc (fdC (c0 1000) s)).1.length = (wnt l).length + 1 := by rw [a1]; simp
 have w1 := tells_w2_1 n A code (strm l) (wnt l).length (evRow (wnt l)) (c0 1000).st (c0 1000).ctl (c0 1000).data (evRow []) (encR (c0 1000).r) (enc (c0 1000).j) (mayP code) s 0 0
 rw [sub_all s] at w1
 have w1 := w1 (evRow_flat _) rfl (by omega) (rfd_ok hi0 (by omega)) (ne_t hs0) (Int.le_refl _) rfl (decide_eq_true (by omega))
 rw [rfdR_enc, feedX_fd] at w1
 have w2 := run3 n A code (strm l) (wnt l) (mayP code) s 0 _ (fdC (c0 1000) s) [] rfl hcb (by rw [hN, List.length_nil]; omega)
 rw [List.nil_append, List.length_nil, a1] at w2
 have he : sub s ((slen s : Int)).toNat (slen s) = ⟨#[]⟩ := by rw [Int.toNat_natCast]; exact sub_end s
 rw [he, a2] at w2
 have w3 := tells_w2_3 n A code (strm l) (wnt l).length (evRow (wnt l)) 3 (tlc (fdC (c0 1000) s)).2.ctl (tlc (fdC (c0 1000) s)).2.data (evRow (wnt l ++ [endE code])) (encR (tlc (fdC (c0 1000) s)).2.r) (enc (tlc (fdC (c0 1000) s)).2.j) (mayP code) ⟨#[]⟩ (IntKind.i64.wrap (0 + 1)) (wnt l ++ [endE code]).length (evRow_flat _) (evRow_flat _) rfl (ne_f (by rw [wrap64_in (by omega) (by omega)]; simp)) rfl
 have w4 := run4 n A code (wnt l) hW h0 h1 (wnt l).length 0 (Nat.zero_add _)
 rw [fdC_n hs0] at w2 w3
 have w5 := w1.ends (w2.ends (w3.ends w4))
 rw [rnwR_eq, jnwJ_eq]
 exact w5
end
theorem wnt_len (l : List Prt) : (wnt l).length ≤ l.length * 2 := by
 induction l with
 | nil => exact Nat.le_refl _
 | cons p l ih =>
  have e : wnt (p :: l) = pEv p ++ wnt l := rfl
  have : (pEv p).length ≤ 2 := by unfold pEv; cases p.2.2.2.2.2 <;> simp
  rw [e, List.length_append, List.length_cons]
  omega
section
variable (l : List Prt) (code : Int) (hl : l.length ≤ 8) (h0 : 0 ≤ code) (h1 : code ≤ 65535)
include hl h0 h1
theorem finP (hp : ∀ p ∈ l, PrtOk p) : AEnds E 4 0 (tells_h1 l.length (pQ l) code (evRow (wnt l)) (strm l) (wnt l).length (l.length : Int)) (.bool true) [] := by
 obtain ⟨c, _, _, _, hs⟩ := strm_told l.length l rfl hl hp
 have hW : (wnt l).length ≤ 100 := by have := wnt_len l; omega
 have e4 : slen (cdD code) = 2 := rfl
 have f1 := fr_le true 8 (cdD code)
 have hd : decide ((l.length : Int) < (l.length : Int)) = false := decide_eq_false (by omega)
 have F := fin l.length (pQ l) code l hl hp hW h0 h1
 have q1 : slen (cat (strm l) (frB true 8 (cdD code))) + 10 ≤ 9223372036854775807 := by rw [slen_cat]; omega
 have q2 : slen (strm l) + slen (frB true 8 (cdD code)) ≤ 9223372036854775807 := by omega
 have q3 : frm_pre true 9 ⟨#[108, 97, 116, 101]⟩ := ⟨⟨by omega, by omega⟩, by decide⟩
 have q4 : frm_pre true 8 (cdD code) := ⟨⟨by omega, by omega⟩, by omega⟩
 have q5 : jnw_pre 1000 := ⟨by omega, by omega⟩
 by_cases c1 : 1000 ≤ code
 ·have d1 : decide (1000 ≤ code) = true := decide_eq_true c1
  by_cases c2 : code ≤ 1003
  ·have d2 : decide (code ≤ 1003) = true := decide_eq_true c2
   exact (tells_w1_8 l.length (pQ l) code (evRow (wnt l)) (strm l) (wnt l).length (l.length : Int) (evRow_flat _) rfl q5 q1 q3 q2 q4 d2 d1 hd).ends (F true ((by unfold mayP; exact (decide_eq_true (by omega)).symm)))
  ·have d2 : decide (code ≤ 1003) = false := decide_eq_false c2
   by_cases c3 : 1007 ≤ code
   ·have d3 : decide (1007 ≤ code) = true := decide_eq_true c3
    by_cases c4 : code ≤ 1014
    ·have d4 : decide (code ≤ 1014) = true := decide_eq_true c4
     exact (tells_w1_9 l.length (pQ l) code (evRow (wnt l)) (strm l) (wnt l).length (l.length : Int) (evRow_flat _) rfl q5 q1 q3 q2 q4 d4 d3 d2 d1 hd).ends (F true ((by unfold mayP; exact (decide_eq_true (by omega)).symm)))
    ·have d4 : decide (code ≤ 1014) = false := decide_eq_false c4
     by_cases c5 : 3000 ≤ code
     ·have d5 : decide (3000 ≤ code) = true := decide_eq_true c5
      exact (tells_w1_10 l.length (pQ l) code (evRow (wnt l)) (strm l) (wnt l).length (l.length : Int) (evRow_flat _) rfl q5 q1 q3 q2 q4 d5 d4 d3 d2 d1 hd).ends (F (decide (code ≤ 4999)) ((by unfold mayP; exact decide_eq_decide.2 (by omega))))
     ·have d5 : decide (3000 ≤ code) = false := decide_eq_false c5
      exact (tells_w1_11 l.length (pQ l) code (evRow (wnt l)) (strm l) (wnt l).length (l.length : Int) (evRow_flat _) rfl q5 q1 q3 q2 q4 d5 d4 d3 d2 d1 hd).ends (F false ((by unfold mayP; exact (decide_eq_false (by omega)).symm)))
   ·have d3 : decide (1007 ≤ code) = false := decide_eq_false c3
    have d5 : decide (3000 ≤ code) = false := decide_eq_false (by omega)
    exact (tells_w1_13 l.length (pQ l) code (evRow (wnt l)) (strm l) (wnt l).length (l.length : Int) (evRow_flat _) rfl q5 q1 q3 q2 q4 d5 d3 d2 d1 hd).ends (F false ((by unfold mayP; exact (decide_eq_false (by omega)).symm)))
 ·have d1 : decide (1000 ≤ code) = false := decide_eq_false c1
  have d3 : decide (1007 ≤ code) = false := decide_eq_false (by omega)
  have d5 : decide (3000 ≤ code) = false := decide_eq_false (by omega)
  exact (tells_w1_18 l.length (pQ l) code (evRow (wnt l)) (strm l) (wnt l).length (l.length : Int) (evRow_flat _) rfl q5 q1 q3 q2 q4 d5 d3 d1 hd).ends (F false ((by unfold mayP; exact (decide_eq_false (by omega)).symm)))
theorem runP : ∀ (m i : Nat), i + m = l.length → (∀ p ∈ l.take i, PrtOk p) → AEnds E 4 0 (tells_h1 l.length (pQ l) code (evRow (wnt (l.take i))) (strm (l.take i)) (wnt (l.take i)).length (i : Int)) (.bool true) []
 | 0, i, hi, hp => by
  obtain rfl : i = l.length := by omega
  rw [List.take_length] at hp ⊢
  exact finP l code hl h0 h1 hp
 | m + 1, i, hi, hp => by
  have hlt : i < l.length := by omega
  obtain ⟨p, hpi⟩ : ∃ p, l[i]? = some p := ⟨_, List.getElem?_eq_getElem hlt⟩
  have ih := runP m (i + 1) (by omega)
  have e1 : l.take (i + 1) = l.take i ++ [p] := by rw [List.take_succ_eq_append_getElem hlt]; rw [List.getElem?_eq_getElem hlt] at hpi; cases hpi; rfl
  rw [e1, strm_snoc, wnt_snoc] at ih
  have g := fun j hj => pQ_at l i p j hpi hj
  have lq := pQ_len l
  obtain ⟨T, G, sx, a, b, pg⟩ := p
  have g0 : (pQ l).getD (i * 6 + 0) undef = .string T := g 0 (by omega)
  have g1 : (pQ l).getD (i * 6 + 1) undef = .string G := g 1 (by omega)
  have g2 : (pQ l).getD (i * 6 + 2) undef = .bool sx := g 2 (by omega)
  have g3 : (pQ l).getD (i * 6 + 3) undef = .int .i64 a := g 3 (by omega)
  have g4 : (pQ l).getD (i * 6 + 4) undef = .int .i64 b := g 4 (by omega)
  have g5 : (pQ l).getD (i * 6 + 5) undef = .bool pg := g 5 (by omega)
  have hd : decide ((i : Int) < (l.length : Int)) = true := decide_eq_true (by omega)
  have gz : (pQ l).getD (i * 6) undef = .string T := g 0 (by omega)
  obtain ⟨c, _, _, _, hs⟩ := strm_told (l.take i).length (l.take i) rfl (by rw [List.length_take]; omega) hp
  have hWl := wnt_len (l.take i)
  rw [List.length_take] at hs hWl
  generalize strm (l.take i) = S at ih hs ⊢
  generalize wnt (l.take i) = W at ih hWl ⊢
  by_cases k1 : 200 < (slen T : Int)
  ·have w := tells_w1_0 l.length (pQ l) code (evRow W) S W.length i
   simp only [Int.toNat_natCast, gz, g0, g1, g2, g3, g4, g5, toStr, toInt, Am.toBool, isStr, isInt, isBool] at w
   apply w
   all_goals first | exact decide_eq_true k1 | assumption | exact trivial | rfl | omega
  by_cases k2 : 125 < (slen G : Int)
  ·have w := tells_w1_1 l.length (pQ l) code (evRow W) S W.length i
   simp only [Int.toNat_natCast, gz, g0, g1, g2, g3, g4, g5, toStr, toInt, Am.toBool, isStr, isInt, isBool] at w
   apply w
   all_goals first | exact decide_eq_true k2 | exact decide_eq_false k1 | assumption | exact trivial | rfl | omega
  have hok : PrtOk (T, G, sx, a, b, pg) := ⟨by show slen T ≤ 200; omega, by show slen G ≤ 125; omega⟩
  have ih := ih (fun q hq => by
   rcases List.mem_append.1 hq with hq | hq
   ·exact hp q hq
   ·rw [List.mem_singleton.1 hq]; exact hok)
  have u1 : decide (200 < (slen T : Int)) = false := decide_eq_false k1
  have u2 : decide (125 < (slen G : Int)) = false := decide_eq_false k2
  obtain ⟨b0, b1, b2, b3⟩ := p_bd hok
  have hx : turn_t0 a ((slen T : Int) + 1) = pA (T, G, sx, a, b, pg) := rfl
  have hy : turn_t0 b ((slen T : Int) - pA (T, G, sx, a, b, pg) + 1) = pB (T, G, sx, a, b, pg) := rfl
  have z1 : pF1 (T, G, sx, a, b, pg) = frB false (pOp (T, G, sx, a, b, pg)) (sub T 0 (pA (T, G, sx, a, b, pg)).toNat) := rfl
  have z2 : pF2 (T, G, sx, a, b, pg) = frB false 0 (sub T (pA (T, G, sx, a, b, pg)).toNat (pA (T, G, sx, a, b, pg) + pB (T, G, sx, a, b, pg)).toNat) := rfl
  have z3 : pF3 (T, G, sx, a, b, pg) = frB true 0 (sub T (pA (T, G, sx, a, b, pg) + pB (T, G, sx, a, b, pg)).toNat (slen T)) := rfl
  have zz : pAdd S (T, G, sx, a, b, pg) = cat (cat (cat (cat S (pF1 (T, G, sx, a, b, pg))) (pFg (T, G, sx, a, b, pg))) (pF2 (T, G, sx, a, b, pg))) (pF3 (T, G, sx, a, b, pg)) := rfl
  have zg : pFg (T, G, sx, a, b, pg) = bif pg then frB true 9 G else frB true 10 G := rfl
  have ze : pEv (T, G, sx, a, b, pg) = (bif pg then [(2, 0, 0, G)] else []) ++ [(1, pOp (T, G, sx, a, b, pg), 0, T)] := rfl
  have zo : pOp (T, G, sx, a, b, pg) = bif sx && wholeD (0, 0, 0, 0) (toL T) then 1 else 2 := rfl
  rw [zz, z1, z2, z3, zg, ze, zo] at ih
  generalize pA (T, G, sx, a, b, pg) = x at *
  generalize pB (T, G, sx, a, b, pg) = y at *
  have b1 : x ≤ (slen T : Int) := b1
  have b3 : x + y ≤ (slen T : Int) := b3
  have v1 : IntKind.i64.wrap ((slen T : Int) + 1) = (slen T : Int) + 1 := wrap64_in (by omega) (by omega)
  have v2 : IntKind.i64.wrap ((slen T : Int) - x) = (slen T : Int) - x := wrap64_in (by omega) (by omega)
  have v3 : IntKind.i64.wrap ((slen T : Int) - x + 1) = (slen T : Int) - x + 1 := wrap64_in (by omega) (by omega)
  have v4 : IntKind.i64.wrap (x + y) = x + y := wrap64_in (by omega) (by omega)
  have v5 : IntKind.i64.wrap ((i : Int) + 1) = ((i + 1 : Nat) : Int) := by rw [wrap64_in (by omega) (by omega)]; omega
  have s1 : turn_S0 a ((slen T : Int) + 1) := turn_ok _ (by omega)
  have s2 : turn_S0 b ((slen T : Int) - x + 1) := turn_ok _ (by omega)
  have t1 : slen (sub T 0 x.toNat) ≤ 200 := by rw [slen_sub]; omega
  have t2 : slen (sub T x.toNat (x + y).toNat) ≤ 200 := by rw [slen_sub]; omega
  have t3 : slen (sub T (x + y).toNat (slen T)) ≤ 200 := by rw [slen_sub]; omega
  have n1 := fr_le false 1 (sub T 0 x.toNat)
  have n2 := fr_le false 2 (sub T 0 x.toNat)
  have n3 := fr_le true 9 G
  have n4 := fr_le true 10 G
  have n5 := fr_le false 0 (sub T x.toNat (x + y).toNat)
  have n6 := fr_le true 0 (sub T (x + y).toNat (slen T))
  have m1 : frm_pre false 1 (sub T 0 x.toNat) := ⟨⟨by omega, by omega⟩, by omega⟩
  have m2 : frm_pre false 2 (sub T 0 x.toNat) := ⟨⟨by omega, by omega⟩, by omega⟩
  have m3 : frm_pre true 9 G := ⟨⟨by omega, by omega⟩, by omega⟩
  have m4 : frm_pre true 10 G := ⟨⟨by omega, by omega⟩, by omega⟩
  have m5 : frm_pre false 0 (sub T x.toNat (x + y).toNat) := ⟨⟨by omega, by omega⟩, by omega⟩
  have m6 : frm_pre true 0 (sub T (x + y).toNat (slen T)) := ⟨⟨by omega, by omega⟩, by omega⟩
  have m7 : valid_pre T := by show slen T ≤ 1000000; omega
  have fl := evRow_flat
  cases sx with
  | true =>
   cases hv : wholeD (0, 0, 0, 0) (toL T) with
   | true =>
    rw [hv, show (bif true && true then (1 : Int) else 2) = 1 from rfl] at ih
    cases pg with
    | true =>
     have w := tells_w1_2 l.length (pQ l) code (evRow W) S W.length i
     simp only [Int.toNat_natCast, gz, g0, g1, g2, g3, g4, g5, toStr, toInt, Am.toBool, isStr, isInt, isBool, v1, hx, v2, v3, hy, v4, v5, row1, rowm, rowM] at w
     refine Gets.ends ?_ ih
     have hlen : (W ++ [((2, 0, 0, G) : EvT)] ++ [((1, 1, 0, T) : EvT)]).length = W.length + 1 + 1 := by simp
     rw [cond_true, cond_true, ← List.append_assoc, hlen]
     apply w
     all_goals first | assumption | exact trivial | rfl | exact beq_self_eq_true _ | exact fl _ | omega | (simp only [evRow_len, List.length_append, List.length_cons, List.length_nil]; done) | (simp only [evRow_len, List.length_append, List.length_cons, List.length_nil]; omega) | (simp only [slen_cat]; omega)
    | false =>
     have w := tells_w1_3 l.length (pQ l) code (evRow W) S W.length i
     simp only [Int.toNat_natCast, gz, g0, g1, g2, g3, g4, g5, toStr, toInt, Am.toBool, isStr, isInt, isBool, v1, hx, v2, v3, hy, v4, v5, row1, rowm, rowM] at w
     refine Gets.ends ?_ ih
     have hlen : (W ++ [((1, 1, 0, T) : EvT)]).length = W.length + 1 := by simp
     rw [cond_false, cond_false, List.nil_append, hlen]
     apply w
     all_goals first | assumption | exact trivial | rfl | exact beq_self_eq_true _ | exact fl _ | omega | (simp only [evRow_len, List.length_append, List.length_cons, List.length_nil]; done) | (simp only [evRow_len, List.length_append, List.length_cons, List.length_nil]; omega) | (simp only [slen_cat]; omega)
   | false =>
    rw [hv, show (bif true && false then (1 : Int) else 2) = 2 from rfl] at ih
    cases pg with
    | true =>
     have w := tells_w1_4 l.length (pQ l) code (evRow W) S W.length i
     simp only [Int.toNat_natCast, gz, g0, g1, g2, g3, g4, g5, toStr, toInt, Am.toBool, isStr, isInt, isBool, v1, hx, v2, v3, hy, v4, v5, row1, rowm, rowM] at w
     refine Gets.ends ?_ ih
     have hlen : (W ++ [((2, 0, 0, G) : EvT)] ++ [((1, 2, 0, T) : EvT)]).length = W.length + 1 + 1 := by simp
     rw [cond_true, cond_true, ← List.append_assoc, hlen]
     apply w
     all_goals first | assumption | exact trivial | rfl | exact beq_self_eq_true _ | exact fl _ | omega | (simp only [evRow_len, List.length_append, List.length_cons, List.length_nil]; done) | (simp only [evRow_len, List.length_append, List.length_cons, List.length_nil]; omega) | (simp only [slen_cat]; omega)
    | false =>
     have w := tells_w1_5 l.length (pQ l) code (evRow W) S W.length i
     simp only [Int.toNat_natCast, gz, g0, g1, g2, g3, g4, g5, toStr, toInt, Am.toBool, isStr, isInt, isBool, v1, hx, v2, v3, hy, v4, v5, row1, rowm, rowM] at w
     refine Gets.ends ?_ ih
     have hlen : (W ++ [((1, 2, 0, T) : EvT)]).length = W.length + 1 := by simp
     rw [cond_false, cond_false, List.nil_append, hlen]
     apply w
     all_goals first | assumption | exact trivial | rfl | exact beq_self_eq_true _ | exact fl _ | omega | (simp only [evRow_len, List.length_append, List.length_cons, List.length_nil]; done) | (simp only [evRow_len, List.length_append, List.length_cons, List.length_nil]; omega) | (simp only [slen_cat]; omega)
  | false =>
   rw [show (bif false && wholeD (0, 0, 0, 0) (toL T) then (1 : Int) else 2) = 2 from rfl] at ih
   cases pg with
   | true =>
    have w := tells_w1_6 l.length (pQ l) code (evRow W) S W.length i
    simp only [Int.toNat_natCast, gz, g0, g1, g2, g3, g4, g5, toStr, toInt, Am.toBool, isStr, isInt, isBool, v1, hx, v2, v3, hy, v4, v5, row1, rowm, rowM] at w
    refine Gets.ends ?_ ih
    have hlen : (W ++ [((2, 0, 0, G) : EvT)] ++ [((1, 2, 0, T) : EvT)]).length = W.length + 1 + 1 := by simp
    rw [cond_true, cond_true, ← List.append_assoc, hlen]
    apply w
    all_goals first | assumption | exact trivial | rfl | exact beq_self_eq_true _ | exact fl _ | omega | (simp only [evRow_len, List.length_append, List.length_cons, List.length_nil]; done) | (simp only [evRow_len, List.length_append, List.length_cons, List.length_nil]; omega) | (simp only [slen_cat]; omega)
   | false =>
    have w := tells_w1_7 l.length (pQ l) code (evRow W) S W.length i
    simp only [Int.toNat_natCast, gz, g0, g1, g2, g3, g4, g5, toStr, toInt, Am.toBool, isStr, isInt, isBool, v1, hx, v2, v3, hy, v4, v5, row1, rowm, rowM] at w
    refine Gets.ends ?_ ih
    have hlen : (W ++ [((1, 2, 0, T) : EvT)]).length = W.length + 1 := by simp
    rw [cond_false, cond_false, List.nil_append, hlen]
    apply w
    all_goals first | assumption | exact trivial | rfl | exact beq_self_eq_true _ | exact fl _ | omega | (simp only [evRow_len, List.length_append, List.length_cons, List.length_nil]; done) | (simp only [evRow_len, List.length_append, List.length_cons, List.length_nil]; omega) | (simp only [slen_cat]; omega)
end
theorem all (a : List (List Value)) (u : ∀ r ∈ a, AllL [.str, .str, .bool, .int .i64, .int .i64, .bool] r) (code : Int) (hc : 0 ≤ code ∧ code ≤ 65535) : AEnds E 4 0 (startC E 4 [.iface a.length (.agg a.flatten.toArray), .int .u16 code] []) (.bool true) [] := by
 obtain ⟨l, rfl⟩ := rows_prt u
 rw [List.length_map]
 by_cases h : 8 < (l.length : Int)
 ·exact tells_w0_0 l.length (pQ l) code (decide_eq_true h)
 ·have w := runP l code (by omega) hc.1 hc.2 l.length 0 (Nat.zero_add _) (fun p hp => by rw [List.take_zero] at hp; cases hp)
  rw [List.take_zero] at w
  exact (tells_w0_1 l.length (pQ l) code (decide_eq_false h)).ends w

theorem walk (a0 : List (List Value)) (w0 : a0.length ≤ maxLen) (u0 : ∀ r ∈ a0, AllL [.str, .str, .bool, .int .i64, .int .i64, .bool] r) (a1 : Int) (w1 : (Lit.int .u16 a1).wf = true) (W : World) (args' : Array Value)
  (ha : ∀ ρ, VL (prOf W) (AN []) ρ [.iface a0.length (.agg a0.flatten.toArray), .int .u16 a1] args'.toList) :
  Calls Try.prog 4 args' W fun e w' => e = .returned (.bool true) ∧ Stays W w' :=
 calls_of_ends (all a0 u0 a1 (by simp [Lit.wf, IntKind.min, IntKind.max, IntKind.bits, IntKind.signed] at w1; omega)) (by kernel_rfl) rfl ha

theorem own : ownKnob Try.prog.godebug = none := by kernel_rfl
theorem laid : laidOutB Try.prog = true := by kernel_rfl

set_option maxRecDepth 100000 in
theorem lifted (os : Os) (started : os.Started) (H : Type) (enc : TypeId × Value → H) :
  ReturnsInHanded {} Try.checked os 4 .any (Rows.wsconnTellsSpec.pre6 enc Try.prog Try.f4 Rows.wsconnTellsRow.domain false) (Rows.wsconnTellsSpec.post enc Try.prog Try.f4 false true false false) := by
 refine returnsInHanded_of_change (C := Try.checked) own started (by kernel_rfl) Try.func4
  (ChangeSpec.witness6 (enc := enc) (C := Try.checked) false ⟨#[], #[.slice none 0 0, .int .u16 0], []⟩ 8 (by kernel_rfl) (by kernel_rfl) (by kernel_rfl) (by kernel_rfl)) ?_
 intro W base args ds gs before hval0 hW hcnd _
 have hval : ∀ (j : Nat) t v, Try.f4.params[j]? = some t → args[j]? = some v → Value.okWide Try.prog W .any base t v := hval0
 have hW' := hW
 obtain ⟨p, q, hA0, hV, rfl, hfz, hnd⟩ := hW
 have hA : DataW.TrodAll enc Try.prog W 0 (fun _ => true) true Try.f4.params.toList args.toList ds p := hA0
 rw [Try.params4] at hA hval
 obtain ⟨v0, vs0, d0, ds0, p0, q0, hargs, rfl, rfl, h0, r0⟩ := trodAll_cons hA
 obtain ⟨v1, vs1, d1, ds1, p1, q1, rfl, rfl, rfl, h1, r1⟩ := trodAll_cons r0
 obtain ⟨rfl, rfl, rfl⟩ := trodAll_nil r1
 obtain rfl : args = #[v0, v1] := by cases args; simp_all
 obtain ⟨a0, x0, w0, u0⟩ := read_rows (ls := [.str, .str, .bool, .int .i64, .int .i64, .bool]) Try.underlying30 (by kernel_rfl) (by decide) (trodL_struct Try.underlying33 (by kernel_rfl) ⟨[.str], _, rfl, rfl, by kernel_rfl, trodL_str Try.underlying9, [.str], _, rfl, rfl, by kernel_rfl, trodL_str Try.underlying9, [.bool], _, rfl, rfl, by kernel_rfl, trodL_bool Try.underlying4, [.int .i64], _, rfl, rfl, by kernel_rfl, trodL_int Try.underlying3, [.int .i64], _, rfl, rfl, by kernel_rfl, trodL_int Try.underlying3, [.bool], _, rfl, rfl, by kernel_rfl, trodL_bool Try.underlying4, rfl⟩) (hval 0 30 v0 rfl rfl) h0
 obtain ⟨a1, x1, w1⟩ := read_int Try.underlying31 (hval 1 31 v1 rfl rfl) h1
 refine (walk a0 w0 u0 a1 w1 W _ (fun ρ => .cons (x0 _ _) (.cons (x1 _ _) (.nil)))).mono fun e W' ⟨he, hg⟩ => ?_
 subst he
 exact ⟨_, rfl, post_law (tb := 4) laid (by rw [Try.params4]; intro t ht; simp only [List.mem_cons, List.not_mem_nil, or_false] at ht; rcases ht with rfl | rfl <;> exact ⟨by kernel_rfl, by decide +kernel⟩) rfl (by kernel_rfl) Try.underlying4 (by rintro _ rfl; rfl) hW' hg⟩

theorem over : Rows.wsconnTellsRow.holds Try.pinned (OpenSpec.ofChange Rows.wsconnTellsSpec) :=
 OpenClaim.holds_of_wide 4 Try.f4 rfl rfl rfl rfl rfl rfl rfl ⟨rfl, rfl, rfl, rfl, rfl⟩ rfl rfl rfl rfl rfl (by kernel_rfl) Try.func4 (by kernel_rfl)
  (of_decide_eq_true (by kernel_rfl)) (by unfold Func.isWrapper; first | (rw [if_pos (by decide +kernel)]; kernel_rfl) | (rw [if_neg (by decide +kernel)]; exact ⟨rfl, rfl⟩))
  (fun os started H enc _ => lifted os started H enc)

theorem proved : Rows.WsconnTellsSaid :=
 over


end Go.Proofs.Ytfpnjpbdaniomaa.wsconnTells
