/-
  PROVED: the law WsconnCuts hands back true at every input, and its arguments read behind the call as they read before.
-/
import Derived.Test.YtfpnjpbdaniomaaRows
import Derived.Test.YtfpnjpbdaniomaaWsconnT
import Derived.Test.YtfpnjpbdaniomaaWsconnV
set_option linter.unusedVariables false
set_option linter.unusedSimpArgs false
open Go Go.Am Go.ChangeShapes Go.WideShapes Go.ChangeAt Go.RowKit
namespace Go.Proofs.Ytfpnjpbdaniomaa.wsconnCuts

theorem er1 {c : CS} {q : Option EvT × CS} (h : nextC c = q) : nxT c.st c.ctl c.data (encR c.r) (enc c.j) = nxU q := by rw [nxT_U, h]
theorem fdC_nil (c : CS) : fdC c ⟨#[]⟩ = c := by
 unfold fdC
 split
 ·rfl
 ·rw [fd_nil]
theorem empty_of {t : ByteArray} (h : slen t = 0) : t = ⟨#[]⟩ := bext (toL_nil h)
section
variable (s : ByteArray) (n : Nat) (A : List Value) (lim : Int)
theorem run2 (t1 : ByteArray) (i : Int) : ∀ (N : Nat) (c : CS) (out : List EvT), (tlc c).1.length = N → CW 1000000 c → out.length + N ≤ 2000 →
  Gets E 0 (cuts_h2 s n A lim t1 i c.st c.ctl c.data (evRow out) (encR c.r) (enc c.j) out.length)
   (cuts_h1 s n A lim (tlc c).2.st (tlc c).2.ctl (tlc c).2.data (evRow (out ++ (tlc c).1)) (encR (tlc c).2.r) (enc (tlc c).2.j) (sub t1 (slen t1 : Int).toNat (slen t1)) (IntKind.i64.wrap (i + 1)) (out ++ (tlc c).1).length) := by
 intro N
 induction N with
 | zero =>
  intro c out hN h hl
  have hp := nxc_ok (Nat.le_refl _) h
  generalize hq : nextC c = q
  obtain ⟨e, c'⟩ := q
  cases e with
  | none =>
   have ht := nextC_none h.r hq
   rw [ht]
   dsimp only
   rw [List.append_nil]
   have w := cuts_w2_0 s n A lim t1 i c.st c.ctl c.data (evRow out) (encR c.r) (enc c.j) out.length _ (er1 hq) (evRow_flat _) rfl hp
   unfold nxU at w
   dsimp only at w
   exact w
  | some e =>
   have ht := nextC_some h.r hq
   have e0 := congrArg (fun q => q.1.length) ht
   dsimp only at e0
   simp only [List.length_cons, List.length_nil] at e0
   omega
 | succ N ih =>
  intro c out hN h hl
  have hp := nxc_ok (Nat.le_refl _) h
  have hi := nextF_inv (mu c.r + 1) c h
  have e0 : nextC c = nextF (mu c.r + 1) c := rfl
  rw [← e0] at hi
  generalize hq : nextC c = q at hi
  obtain ⟨e, c'⟩ := q
  cases e with
  | none =>
   have ht := nextC_none h.r hq
   have e0 := congrArg (fun q => q.1.length) ht
   dsimp only at e0
   simp only [List.length_cons, List.length_nil] at e0
   omega
  | some e =>
   have ht := nextC_some h.r hq
   have e1 := congrArg (fun q => q.1.length) ht
   dsimp only at e1
   rw [List.length_cons] at e1
   rw [ht]
   dsimp only
   have w := cuts_w2_2 s n A lim t1 i c.st c.ctl c.data (evRow out) (encR c.r) (enc c.j) out.length _ (er1 hq) (by
    show (List.take (out.length * 4) (List.drop 0 (evRow out)) ++ evC e).all flat = true
    rw [evRow_snoc]; exact evRow_flat _) (decide_eq_false (by omega)) (by rw [evRow_len]; omega) (by omega) (by omega) rfl hp
   unfold nxU evT at w
   dsimp only [Option.getD_some] at w
   rw [show ([Value.int IntKind.i64 e.1, Value.int IntKind.i64 e.2.1, Value.int IntKind.i64 e.2.2.1, Value.string e.2.2.2] : List Value) = evC e from rfl] at w
   rw [evRow_snoc, show out.length + 1 = (out ++ [e]).length by simp] at w
   have ih := ih c' (out ++ [e]) (by omega) hi.1 (by rw [List.length_append, List.length_singleton]; omega)
   rw [List.append_assoc, List.singleton_append] at ih
   exact w.trans ih
theorem run5 (X : Int) (N0 : Nat) (l0 : List EvT) (t1 : ByteArray) (i : Int) : ∀ (N : Nat) (c : CS) (out : List EvT), (tlc c).1.length = N → CW 1000000 c → out.length + N ≤ 2000 →
  Gets E 0 (cuts_h5 s n A lim X N0 i (evRow l0) c.st c.ctl c.data (evRow out) (encR c.r) (enc c.j) t1 out.length)
   (cuts_h3 s n A lim X N0 (evRow l0) (tlc c).2.st (tlc c).2.ctl (tlc c).2.data (evRow (out ++ (tlc c).1)) (encR (tlc c).2.r) (enc (tlc c).2.j) t1 (IntKind.i64.wrap (i + 1)) (out ++ (tlc c).1).length) := by
 intro N
 induction N with
 | zero =>
  intro c out hN h hl
  have hp := nxc_ok (Nat.le_refl _) h
  generalize hq : nextC c = q
  obtain ⟨e, c'⟩ := q
  cases e with
  | none =>
   have ht := nextC_none h.r hq
   rw [ht]
   dsimp only
   rw [List.append_nil]
   have w := cuts_w5_0 s n A lim X N0 i (evRow l0) c.st c.ctl c.data (evRow out) (encR c.r) (enc c.j) t1 out.length _ (er1 hq) (evRow_flat _) (evRow_flat _) rfl hp
   unfold nxU at w
   dsimp only at w
   exact w
  | some e =>
   have ht := nextC_some h.r hq
   have e0 := congrArg (fun q => q.1.length) ht
   dsimp only at e0
   simp only [List.length_cons, List.length_nil] at e0
   omega
 | succ N ih =>
  intro c out hN h hl
  have hp := nxc_ok (Nat.le_refl _) h
  have hi := nextF_inv (mu c.r + 1) c h
  have e0 : nextC c = nextF (mu c.r + 1) c := rfl
  rw [← e0] at hi
  generalize hq : nextC c = q at hi
  obtain ⟨e, c'⟩ := q
  cases e with
  | none =>
   have ht := nextC_none h.r hq
   have e0 := congrArg (fun q => q.1.length) ht
   dsimp only at e0
   simp only [List.length_cons, List.length_nil] at e0
   omega
  | some e =>
   have ht := nextC_some h.r hq
   have e1 := congrArg (fun q => q.1.length) ht
   dsimp only at e1
   rw [List.length_cons] at e1
   rw [ht]
   dsimp only
   have w := cuts_w5_3 s n A lim X N0 i (evRow l0) c.st c.ctl c.data (evRow out) (encR c.r) (enc c.j) t1 out.length _ (er1 hq) (evRow_flat _) (by
    show (List.take (out.length * 4) (List.drop 0 (evRow out)) ++ evC e).all flat = true
    rw [evRow_snoc]; exact evRow_flat _) (decide_eq_false (by omega)) (by rw [evRow_len]; omega) (by omega) (by omega) rfl hp
   unfold nxU evT at w
   dsimp only [Option.getD_some] at w
   rw [show ([Value.int IntKind.i64 e.1, Value.int IntKind.i64 e.2.1, Value.int IntKind.i64 e.2.2.1, Value.string e.2.2.2] : List Value) = evC e from rfl] at w
   rw [evRow_snoc, show out.length + 1 = (out ++ [e]).length by simp] at w
   have ih := ih c' (out ++ [e]) (by omega) hi.1 (by rw [List.length_append, List.length_singleton]; omega)
   rw [List.append_assoc, List.singleton_append] at ih
   exact w.trans ih
end
section
variable (s : ByteArray) (I : List Int) (lim : Int) (hI : ∀ a ∈ I, -9223372036854775808 ≤ a ∧ a ≤ 9223372036854775807) (hn : I.length ≤ 60)
include hI hn
theorem int_at {i : Nat} (h : i < I.length) : (I.map (Value.int .i64)).getD (((i : Int)).toNat * 1) undef = .int .i64 (I[i]) := by
 have _ := hI
 have _ := hn
 rw [Int.toNat_natCast, Nat.mul_one, List.getD_eq_getElem?_getD, List.getElem?_map, List.getElem?_eq_getElem h]
 rfl
theorem feed3 (X : Int) (N0 : Nat) (l0 out : List EvT) (c : CS) (t : ByteArray) (i : Nat) (ht : 0 < slen t) (ht2 : slen t ≤ 2000) {B : Nat} (h : CW B c) (hB : B + slen t ≤ 1000000) :
  ∃ k, k ≤ slen t ∧ (I.length ≤ i → k = slen t) ∧ Gets E 0 (cuts_h3 s I.length (I.map (Value.int .i64)) lim X N0 (evRow l0) c.st c.ctl c.data (evRow out) (encR c.r) (enc c.j) t i out.length)
   (cuts_h5 s I.length (I.map (Value.int .i64)) lim X N0 i (evRow l0) (fdC c (sub t 0 k)).st (fdC c (sub t 0 k)).ctl (fdC c (sub t 0 k)).data (evRow out) (encR (fdC c (sub t 0 k)).r) (enc (fdC c (sub t 0 k)).j) (sub t k (slen t)) out.length) := by
 have h0 : decide (0 < (slen t : Int)) = true := decide_eq_true (by omega)
 have hfd : ∀ (p : ByteArray), ¬ c.st = 3 → rfdR (encR c.r) p = encR (fd c.r p) := fun p _ => by rw [rfdR_enc, feedX_fd]
 have hsl : ∀ k, slen (sub t 0 k) ≤ slen t := fun k => by rw [slen_sub]; omega
 by_cases hi : i < I.length
 ·have ha := int_at I hI hn hi
  have hd : decide ((i : Int) < (I.length : Int)) = true := decide_eq_true (by omega)
  have hlA : (((i : Int)).toNat * 1) < (I.map (Value.int .i64)).length := by rw [Int.toNat_natCast, List.length_map]; omega
  have hw : IntKind.i64.wrap ((slen t : Int) + 1) = (slen t : Int) + 1 := wrap64_in (by omega) (by omega)
  have b1 := Int.tmod_lt_of_pos I[i] (show (0 : Int) < (slen t : Int) + 1 by omega)
  have b2 := Int.lt_tmod_of_pos I[i] (show (0 : Int) < (slen t : Int) + 1 by omega)
  have hne : ((slen t : Int) + 1 != 0) = true := ne_t (by omega)
  have hint : isInt .i64 ((I.map (Value.int .i64)).getD (((i : Int)).toNat * 1) undef) = true := by rw [ha]; rfl
  by_cases hneg : (I[i]).tmod ((slen t : Int) + 1) < 0
  ·have hk : IntKind.i64.wrap ((I[i]).tmod ((slen t : Int) + 1) + ((slen t : Int) + 1)) = (I[i]).tmod ((slen t : Int) + 1) + ((slen t : Int) + 1) := wrap64_in (by omega) (by omega)
   refine ⟨((I[i]).tmod ((slen t : Int) + 1) + ((slen t : Int) + 1)).toNat, by omega, fun hh => by omega, ?_⟩
   by_cases h3 : c.st = 3
   ·have w := cuts_w3_1 s I.length (I.map (Value.int .i64)) lim X N0 (evRow l0) c.st c.ctl c.data (evRow out) (encR c.r) (enc c.j) t i out.length (evRow_flat _) (evRow_flat _)
    simp only [ha, toInt, hw, hk] at w
    rw [fdC_3 h3]
    exact w (by omega) (by omega) (ne_f h3) (by omega) (decide_eq_true hneg) hne hlA rfl (by omega) (by omega) (by rw [List.length_map]; omega) hd h0
   ·have w := cuts_w3_0 s I.length (I.map (Value.int .i64)) lim X N0 (evRow l0) c.st c.ctl c.data (evRow out) (encR c.r) (enc c.j) t i out.length (evRow_flat _) (evRow_flat _)
    simp only [ha, toInt, hw, hk] at w
    have w := w (by omega) (by omega) (rfd_ok h (by have := hsl ((I[i]).tmod ((slen t : Int) + 1) + ((slen t : Int) + 1)).toNat; omega)) (ne_t h3) (by omega) (decide_eq_true hneg) hne hlA rfl (by omega) (by omega) (by rw [List.length_map]; omega) hd h0
    rw [hfd _ h3] at w
    rw [fdC_n h3]
    exact w
  ·refine ⟨((I[i]).tmod ((slen t : Int) + 1)).toNat, by omega, fun hh => by omega, ?_⟩
   by_cases h3 : c.st = 3
   ·have w := cuts_w3_3 s I.length (I.map (Value.int .i64)) lim X N0 (evRow l0) c.st c.ctl c.data (evRow out) (encR c.r) (enc c.j) t i out.length (evRow_flat _) (evRow_flat _)
    simp only [ha, toInt, hw] at w
    rw [fdC_3 h3]
    exact w (by omega) (by omega) (ne_f h3) (by omega) (decide_eq_false hneg) hne hlA rfl (by omega) (by omega) (by rw [List.length_map]; omega) hd h0
   ·have w := cuts_w3_2 s I.length (I.map (Value.int .i64)) lim X N0 (evRow l0) c.st c.ctl c.data (evRow out) (encR c.r) (enc c.j) t i out.length (evRow_flat _) (evRow_flat _)
    simp only [ha, toInt, hw] at w
    have w := w (by omega) (by omega) (rfd_ok h (by have := hsl ((I[i]).tmod ((slen t : Int) + 1)).toNat; omega)) (ne_t h3) (by omega) (decide_eq_false hneg) hne hlA rfl (by omega) (by omega) (by rw [List.length_map]; omega) hd h0
    rw [hfd _ h3] at w
    rw [fdC_n h3]
    exact w
 ·have hd : decide ((i : Int) < (I.length : Int)) = false := decide_eq_false (by omega)
  have hc : ((slen t : Int)).toNat = slen t := Int.toNat_natCast _
  refine ⟨slen t, Nat.le_refl _, fun _ => rfl, ?_⟩
  by_cases h3 : c.st = 3
  ·have w := cuts_w3_5 s I.length (I.map (Value.int .i64)) lim X N0 (evRow l0) c.st c.ctl c.data (evRow out) (encR c.r) (enc c.j) t i out.length (evRow_flat _) (evRow_flat _)
   simp only [hc] at w
   rw [fdC_3 h3]
   exact w (Nat.le_refl _) (ne_f h3) (Int.le_refl _) hd h0
  ·have w := cuts_w3_4 s I.length (I.map (Value.int .i64)) lim X N0 (evRow l0) c.st c.ctl c.data (evRow out) (encR c.r) (enc c.j) t i out.length (evRow_flat _) (evRow_flat _)
   simp only [hc] at w
   have w := w (Nat.le_refl _) (rfd_ok h (by have := hsl (slen t); omega)) (ne_t h3) (Int.le_refl _) hd h0
   rw [hfd _ h3] at w
   rw [fdC_n h3]
   exact w
end
section
variable (s : ByteArray) (n : Nat) (A : List Value) (lim : Int) (X : Int) (L : List EvT) (hL : L.length ≤ 2000) (hk : Lst L (decide (X = 3)))
include hL hk
theorem run6 : ∀ (m i : Nat), i + m = L.length → AEnds E 3 0 (cuts_h6 s n A lim X L.length L.length (evRow L) (evRow L) i) (.bool true) []
 | 0, i, hi => by
  have hd : decide ((i : Int) < (L.length : Int)) = false := decide_eq_false (by omega)
  by_cases h0 : 0 < L.length
  ·obtain ⟨e, e1, e2⟩ := hk.last h0
   have hw : IntKind.i64.wrap ((L.length : Int) - 1) = ((L.length - 1 : Nat) : Int) := by rw [wrap64_in (by omega) (by omega)]; omega
   have g := evRow_get L (L.length - 1) e 0 e1 (by omega)
   have w := cuts_w6_2 s n A lim X L.length L.length (evRow L) (evRow L) i
   simp only [hw, Int.toNat_natCast, g] at w
   refine w ?_ ?_ rfl (by omega) (by omega) (decide_eq_true (by omega)) hd
   ·show (!(decide (3 ≤ e.1) == (X == 3))) = false
    rw [e2]
    by_cases hX : X = 3
    ·rw [hX]; rfl
    ·rw [decide_eq_false hX, eq_f hX]; rfl
   ·rw [evRow_len]; omega
  ·exact cuts_w6_3 s n A lim X L.length L.length (evRow L) (evRow L) i (decide_eq_false (by omega)) hd
 | m + 1, i, hi => by
  have hil : i < L.length := by omega
  obtain ⟨e, he⟩ : ∃ e, L[i]? = some e := ⟨_, List.getElem?_eq_getElem hil⟩
  have g0 := evRow_get L i e 0 he (by omega)
  have g1 := evRow_get L i e 1 he (by omega)
  have g2 := evRow_get L i e 2 he (by omega)
  have g3 := evRow_get L i e 3 he (by omega)
  have hd : decide ((i : Int) < (L.length : Int)) = true := decide_eq_true (by omega)
  have hlen := evRow_len L
  have hnx : IntKind.i64.wrap ((i : Int) + 1) = ((i + 1 : Nat) : Int) := by rw [wrap64_in (by omega) (by omega)]; omega
  have hw : IntKind.i64.wrap ((L.length : Int) - 1) = ((L.length - 1 : Nat) : Int) := by rw [wrap64_in (by omega) (by omega)]; omega
  have hsame : (!(e.1 == e.1 && (e.2.1 == e.2.1 && (e.2.2.1 == e.2.2.1 && (toL e.2.2.2 == toL e.2.2.2 && true))))) = false := by simp
  by_cases h3 : 3 ≤ e.1
  ·have hl := hk.at i e he h3
   have w := cuts_w6_0 s n A lim X L.length L.length (evRow L) (evRow L) i (evRow_flat _) (evRow_flat _)
   simp only [Int.toNat_natCast, g0, g1, g2, g3, hnx] at w
   exact (w (by rw [hw]; exact ne_f (by omega)) (decide_eq_true h3) (by omega) rfl (by omega) (by omega) hsame (by omega) rfl rfl rfl rfl (by omega) (by omega) rfl rfl rfl hd).ends (run6 m (i + 1) (by omega))
  ·have w := cuts_w6_1 s n A lim X L.length L.length (evRow L) (evRow L) i (evRow_flat _) (evRow_flat _)
   simp only [Int.toNat_natCast, g0, g1, g2, g3, hnx] at w
   exact (w (decide_eq_false h3) (by omega) rfl (by omega) (by omega) hsame (by omega) rfl rfl rfl rfl (by omega) (by omega) rfl rfl rfl hd).ends (run6 m (i + 1) (by omega))
end
section
variable (s : ByteArray) (I : List Int) (lim : Int) (hI : ∀ a ∈ I, -9223372036854775808 ≤ a ∧ a ≤ 9223372036854775807) (hn : I.length ≤ 60) (X : Int) (L : List EvT) (hL : L.length ≤ 2000) (hk : Lst L (decide (X = 3)))
include hI hn hL hk
theorem run3 : ∀ (m i : Nat) (c : CS) (t : ByteArray) (out : List EvT) (B : Nat), (I.length - i) + (if slen t = 0 then 0 else 1) < m → (¬ slen t = 0 → i ≤ I.length) → Dry c → CW B c → B + slen t ≤ 2000 → out ++ (tlc (fdC c t)).1 = L → (tlc (fdC c t)).2.st = X →
  AEnds E 3 0 (cuts_h3 s I.length (I.map (Value.int .i64)) lim X L.length (evRow L) c.st c.ctl c.data (evRow out) (encR c.r) (enc c.j) t i out.length) (.bool true) []
 | 0, i, c, t, out, B, hm, _, _, _, _, _, _ => absurd hm (Nat.not_lt_zero _)
 | m + 1, i, c, t, out, B, hm, hi, hdry, h, hB, hout, hst => by
  by_cases ht : slen t = 0
  ·have e := empty_of ht
   subst e
   rw [fdC_nil, tlc_dry hdry] at hout hst
   have hout : out = L := by simpa using hout
   have hst : c.st = X := hst
   subst hout
   have hne : ((out.length : Int) != (out.length : Int)) = false := ne_f rfl
   have h0 : decide (0 < (slen (⟨#[]⟩ : ByteArray) : Int)) = false := rfl
   cases hs : toL s == [] with
   | true =>
    have w := cuts_w3_7 s I.length (I.map (Value.int .i64)) lim X out.length (evRow out) c.st c.ctl c.data (evRow out) (encR c.r) (enc c.j) ⟨#[]⟩ i out.length (evRow_flat _) (evRow_flat _) (by rw [hs]; rfl) hne h0
    exact w.ends (run6 s I.length _ lim X out hL hk out.length 0 (by omega))
   | false =>
    have w := cuts_w3_6 s I.length (I.map (Value.int .i64)) lim X out.length (evRow out) c.st c.ctl c.data (evRow out) (encR c.r) (enc c.j) ⟨#[]⟩ i out.length (evRow_flat _) (evRow_flat _) (ne_f hst.symm) (by rw [hs]; rfl) hne h0
    exact w.ends (run6 s I.length _ lim X out hL hk out.length 0 (by omega))
  ·rw [if_neg ht] at hm
   obtain ⟨k, k1, k2, w⟩ := feed3 s I lim hI hn X L.length L out c t i (by omega) (by omega) h (by omega)
   have hp : slen (sub t 0 k) = k := by rw [slen_sub]; omega
   have hr : slen (sub t k (slen t)) = slen t - k := by rw [slen_sub]; omega
   have hc2 := fdC_inv (s := sub t 0 k) (k := k) h (by omega) (by omega)
   have hcut : fdC (fdC c (sub t 0 k)) (sub t k (slen t)) = fdC c t := by rw [fdC_fdC, cat_sub]
   have hE := tlc_feed (sub t k (slen t)) (B := B + k) (by omega) (mu (fdC c (sub t 0 k)).r + 1) (fdC c (sub t 0 k)) (Nat.lt_succ_self _) hc2
   rw [hcut] at hE
   have hc3 : CW (B + k) (tlc (fdC c (sub t 0 k))).2 := evs_inv _ _ hc2
   have hd3 : Dry (tlc (fdC c (sub t 0 k))).2 := evs_dry _ _ (Nat.lt_succ_self _) hc2.r
   have hE1 : (tlc (fdC c t)).1 = (tlc (fdC c (sub t 0 k))).1 ++ (tlc (fdC (tlc (fdC c (sub t 0 k))).2 (sub t k (slen t)))).1 := hE.1
   have hE2 : (tlc (fdC c t)).2.st = (tlc (fdC (tlc (fdC c (sub t 0 k))).2 (sub t k (slen t)))).2.st := hE.2.1
   have hi := hi ht
   have hout2 : (out ++ (tlc (fdC c (sub t 0 k))).1) ++ (tlc (fdC (tlc (fdC c (sub t 0 k))).2 (sub t k (slen t)))).1 = L := by
    rw [List.append_assoc, ← hE1]
    exact hout
   have hst2 : (tlc (fdC (tlc (fdC c (sub t 0 k))).2 (sub t k (slen t)))).2.st = X := by rw [← hE2]; exact hst
   have hlen : out.length + (tlc (fdC c (sub t 0 k))).1.length ≤ 2000 := by
    have : L.length = out.length + (tlc (fdC c (sub t 0 k))).1.length + (tlc (fdC (tlc (fdC c (sub t 0 k))).2 (sub t k (slen t)))).1.length := by rw [← hout2, List.length_append, List.length_append]
    omega
   have hcb : CW 1000000 (fdC c (sub t 0 k)) := by
    refine ⟨hc2.r, hc2.ctl, by have := hc2.dat; omega, fun hh => ?_⟩
    have j := hc2.jl hh
    have := j.tx
    have := j.a1
    exact ⟨j.bad, j.bg, j.lk, j.bo, j.ch, by omega, j.tn, j.a0, by omega⟩
   have w5 := run5 s I.length (I.map (Value.int .i64)) lim X L.length L (sub t k (slen t)) i _ (fdC c (sub t 0 k)) out rfl hcb hlen
   rw [show IntKind.i64.wrap ((i : Int) + 1) = ((i + 1 : Nat) : Int) by rw [wrap64_in (by omega) (by omega)]; omega] at w5
   by_cases hlast : I.length ≤ i
   ·have hkk := k2 hlast
    refine w.ends (w5.ends (run3 m (i + 1) _ _ _ (B + k) ?_ (fun hh => ?_) hd3 hc3 (by omega) hout2 hst2))
    ·rw [hr, if_pos (by omega)]; omega
    ·rw [hr] at hh; omega
   ·refine w.ends (w5.ends (run3 m (i + 1) _ _ _ (B + k) ?_ (fun _ => by omega) hd3 hc3 (by omega) hout2 hst2))
    split <;> omega
end
theorem all (s : ByteArray) (I : List Int) (hI : ∀ a ∈ I, -9223372036854775808 ≤ a ∧ a ≤ 9223372036854775807) (lim : Int) (hl : -9223372036854775808 ≤ lim ∧ lim ≤ 9223372036854775807) : AEnds E 3 0 (startC E 3 [.string s, .iface I.length (.agg (I.map (Value.int .i64)).toArray), .int .i64 lim] []) (.bool true) [] := by
 by_cases c1 : 2000 < (slen s : Int)
 ·exact cuts_w0_0 s I.length _ lim (decide_eq_true c1)
 have d1 := decide_eq_false c1
 by_cases c2 : 60 < (I.length : Int)
 ·exact cuts_w0_1 s I.length _ lim (decide_eq_true c2) d1
 have d2 := decide_eq_false c2
 by_cases c3 : lim < 0
 ·exact cuts_w0_2 s I.length _ lim (decide_eq_true c3) d2 d1
 have d3 := decide_eq_false c3
 by_cases c4 : 5000 < lim
 ·exact cuts_w0_3 s I.length _ lim (decide_eq_true c4) d3 d2 d1
 have d4 := decide_eq_false c4
 have hj : jnw_pre lim := ⟨by omega, by omega⟩
 have w0 := cuts_w0_4 s I.length (I.map (Value.int .i64)) lim rfl hj d4 d3 d2 d1
 rw [rnwR_eq, jnwJ_eq] at w0
 have er0 : evRow [] = [] := rfl
 have w0 : Gets E 0 (startC E 3 [.string s, .iface I.length (.agg (I.map (Value.int .i64)).toArray), .int .i64 lim] []) (cuts_h1 s I.length (I.map (Value.int .i64)) lim (c0 lim).st (c0 lim).ctl (c0 lim).data (evRow []) (encR (c0 lim).r) (enc (c0 lim).j) s 0 0) := by
  rw [er0]
  dsimp only [c0]
  exact w0
 have h0 := c0_inv lim
 have hdry0 : Dry (c0 lim) := .inr (by
  show rOk (stepT true rx0) = false
  rw [stepT_0 (show xSt rx0 = 0 from rfl)]
  rfl)
 have hs0 : ¬ (c0 lim).st = 3 := by show ¬ (1 : Int) = 3; decide
 have hc1 := fdC_inv (s := s) (k := slen s) h0 (Nat.le_refl _) (by omega)
 -- the first call comes to all events
 have hL : (tlc (fdC (c0 lim) s)).1.length ≤ 2000 := by
  have h1 := evs_nu (mu (fdC (c0 lim) s).r + 1) (fdC (c0 lim) s) hc1.r
  have h2 : nu (fdC (c0 lim) s).r ≤ slen s := by
   rw [fdC_n hs0, setR_r]
   unfold nu
   rw [fd_st, if_neg (by show ¬ (0 : Int) = 1; decide), fd_n (by show (0 : Int) ≠ 2; decide), xIn_set]
   show slen (cat ⟨#[]⟩ s) + 0 ≤ slen s
   rw [cat_nil]; omega
  have h3 : (tlc (fdC (c0 lim) s)).1.length ≤ nu (fdC (c0 lim) s).r := h1
  omega
 have hk : Lst (tlc (fdC (c0 lim) s)).1 (decide ((tlc (fdC (c0 lim) s)).2.st = 3)) := evs_lst _ _ (by rw [fdC_st]; exact hs0)
 have second : ∀ (c : CS) (i : Int), Gets E 0 (cuts_h1 s I.length (I.map (Value.int .i64)) lim c.st c.ctl c.data (evRow (tlc (fdC (c0 lim) s)).1) (encR c.r) (enc c.j) ⟨#[]⟩ i (tlc (fdC (c0 lim) s)).1.length)
   (cuts_h3 s I.length (I.map (Value.int .i64)) lim c.st (tlc (fdC (c0 lim) s)).1.length (evRow (tlc (fdC (c0 lim) s)).1) (c0 lim).st (c0 lim).ctl (c0 lim).data (evRow []) (encR (c0 lim).r) (enc (c0 lim).j) s ((0 : Nat) : Int) 0) := by
  intro c i
  have w := cuts_w1_3 s I.length (I.map (Value.int .i64)) lim c.st c.ctl c.data (evRow (tlc (fdC (c0 lim) s)).1) (encR c.r) (enc c.j) ⟨#[]⟩ i (tlc (fdC (c0 lim) s)).1.length (evRow_flat _) rfl hj rfl
  rw [rnwR_eq, jnwJ_eq] at w
  rw [er0]
  dsimp only [c0]
  exact w
 have third := run3 s I lim hI (by omega) (tlc (fdC (c0 lim) s)).2.st (tlc (fdC (c0 lim) s)).1 hL hk (I.length + 3) 0 (c0 lim) s [] 0 (by split <;> omega) (fun _ => Nat.zero_le _) hdry0 h0 (by omega) (List.nil_append _) rfl
 rw [List.length_nil] at third
 by_cases hz : slen s = 0
 ·have e := empty_of hz
  have e1 : tlc (fdC (c0 lim) s) = ([], c0 lim) := by rw [e, fdC_nil, tlc_dry hdry0]
  have w1 := second (c0 lim) 0
  rw [e1] at w1 third
  dsimp only at w1 third
  rw [List.length_nil] at w1 third
  rw [← e] at w1
  exact w0.ends (w1.ends third)
 ·have hp : sub s 0 ((slen s : Int)).toNat = s := sub_all s
  have w1 := cuts_w1_1 s I.length (I.map (Value.int .i64)) lim (c0 lim).st (c0 lim).ctl (c0 lim).data (evRow []) (encR (c0 lim).r) (enc (c0 lim).j) s 0 0 rfl
  rw [hp] at w1
  have w1 := w1 (by omega) (rfd_ok h0 (by omega)) (ne_t hs0) (Int.le_refl _) rfl (decide_eq_true (by omega))
  rw [rfdR_enc, feedX_fd] at w1
  have hcb : CW 1000000 (fdC (c0 lim) s) := by
   refine ⟨hc1.r, hc1.ctl, by have := hc1.dat; omega, fun hh => ?_⟩
   have j := hc1.jl hh
   have := j.tx
   have := j.a1
   exact ⟨j.bad, j.bg, j.lk, j.bo, j.ch, by omega, j.tn, j.a0, by omega⟩
  have w2 := run2 s I.length (I.map (Value.int .i64)) lim s 0 _ (fdC (c0 lim) s) [] rfl hcb (by rw [List.length_nil]; omega)
  rw [List.nil_append, List.length_nil] at w2
  have he : sub s ((slen s : Int)).toNat (slen s) = ⟨#[]⟩ := by rw [Int.toNat_natCast]; exact sub_end s
  rw [he] at w2
  have w3 := second (tlc (fdC (c0 lim) s)).2 (IntKind.i64.wrap (0 + 1))
  rw [fdC_n hs0] at w2 w3 third
  exact w0.ends (w1.ends (w2.ends (w3.ends third)))

theorem walk (a0 : ByteArray) (w0 : a0.size ≤ maxLen) (a1 : List Int) (w1 : a1.length ≤ maxLen) (u1 : ∀ n ∈ a1, (Lit.int .i64 n).wf = true) (a2 : Int) (w2 : (Lit.int .i64 a2).wf = true) (W : World) (args' : Array Value)
  (ha : ∀ ρ, VL (prOf W) (AN []) ρ [.string a0, .iface a1.length (.agg (a1.map (Value.int .i64)).toArray), .int .i64 a2] args'.toList) :
  Calls Try.prog 3 args' W fun e w' => e = .returned (.bool true) ∧ Stays W w' :=
 calls_of_ends (all a0 a1 (fun c hc => by have := u1 c hc; simp [Lit.wf, IntKind.min, IntKind.max, IntKind.bits, IntKind.signed] at this; omega) a2 (by simp [Lit.wf, IntKind.min, IntKind.max, IntKind.bits, IntKind.signed] at w2; omega)) (by kernel_rfl) rfl ha

theorem own : ownKnob Try.prog.godebug = none := by kernel_rfl
theorem laid : laidOutB Try.prog = true := by kernel_rfl

set_option maxRecDepth 100000 in
theorem lifted (os : Os) (started : os.Started) (H : Type) (enc : TypeId × Value → H) :
  ReturnsInHanded {} Try.checked os 3 .any (Rows.wsconnCutsSpec.pre6 enc Try.prog Try.f3 Rows.wsconnCutsRow.domain false) (Rows.wsconnCutsSpec.post enc Try.prog Try.f3 false true false false) := by
 refine returnsInHanded_of_change (C := Try.checked) own started (by kernel_rfl) Try.func3
  (ChangeSpec.witness6 (enc := enc) (C := Try.checked) false ⟨#[], #[.string ⟨#[]⟩, .slice none 0 0, .int .i64 0], []⟩ 8 (by kernel_rfl) (by kernel_rfl) (by kernel_rfl) (by kernel_rfl)) ?_
 intro W base args ds gs before hval0 hW hcnd _
 have hval : ∀ (j : Nat) t v, Try.f3.params[j]? = some t → args[j]? = some v → Value.okWide Try.prog W .any base t v := hval0
 have hW' := hW
 obtain ⟨p, q, hA0, hV, rfl, hfz, hnd⟩ := hW
 have hA : DataW.TrodAll enc Try.prog W 0 (fun _ => true) true Try.f3.params.toList args.toList ds p := hA0
 rw [Try.params3] at hA hval
 obtain ⟨v0, vs0, d0, ds0, p0, q0, hargs, rfl, rfl, h0, r0⟩ := trodAll_cons hA
 obtain ⟨v1, vs1, d1, ds1, p1, q1, rfl, rfl, rfl, h1, r1⟩ := trodAll_cons r0
 obtain ⟨v2, vs2, d2, ds2, p2, q2, rfl, rfl, rfl, h2, r2⟩ := trodAll_cons r1
 obtain ⟨rfl, rfl, rfl⟩ := trodAll_nil r2
 obtain rfl : args = #[v0, v1, v2] := by cases args; simp_all
 obtain ⟨a0, x0, w0⟩ := read_string Try.underlying9 (hval 0 9 v0 rfl rfl) h0
 obtain ⟨a1, x1, w1, u1⟩ := read_ints Try.underlying22 Try.underlying3 (by kernel_rfl) (hval 1 22 v1 rfl rfl) h1
 obtain ⟨a2, x2, w2⟩ := read_int Try.underlying3 (hval 2 3 v2 rfl rfl) h2
 refine (walk a0 w0 a1 w1 u1 a2 w2 W _ (fun ρ => .cons (x0 _ _) (.cons (x1 _ _) (.cons (x2 _ _) (.nil))))).mono fun e W' ⟨he, hg⟩ => ?_
 subst he
 exact ⟨_, rfl, post_law (tb := 4) laid (by rw [Try.params3]; intro t ht; simp only [List.mem_cons, List.not_mem_nil, or_false] at ht; rcases ht with rfl | rfl | rfl <;> exact ⟨by kernel_rfl, by decide +kernel⟩) rfl (by kernel_rfl) Try.underlying4 (by rintro _ rfl; rfl) hW' hg⟩

theorem over : Rows.wsconnCutsRow.holds Try.pinned (OpenSpec.ofChange Rows.wsconnCutsSpec) :=
 OpenClaim.holds_of_wide 3 Try.f3 rfl rfl rfl rfl rfl rfl rfl ⟨rfl, rfl, rfl, rfl, rfl⟩ rfl rfl rfl rfl rfl (by kernel_rfl) Try.func3 (by kernel_rfl)
  (of_decide_eq_true (by kernel_rfl)) (by unfold Func.isWrapper; first | (rw [if_pos (by decide +kernel)]; kernel_rfl) | (rw [if_neg (by decide +kernel)]; exact ⟨rfl, rfl⟩))
  (fun os started H enc _ => lifted os started H enc)

theorem proved : Rows.WsconnCutsSaid :=
 over


end Go.Proofs.Ytfpnjpbdaniomaa.wsconnCuts
