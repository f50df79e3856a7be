/-
  PROVED: the law WsconnPlays hands back true at every input, and its arguments read behind the call as they read before.
-/
import Derived.Test.YtfpnjpbdaniomaaRows
import Derived.Test.YtfpnjpbdaniomaaWsconnRg
import Derived.Test.YtfpnjpbdaniomaaWsconnRh
import Derived.Test.YtfpnjpbdaniomaaAmRows
set_option linter.unusedVariables false
set_option linter.unusedSimpArgs false
open Go Go.Am Go.ChangeShapes Go.WideShapes Go.ChangeAt Go.RowKit
namespace Go.Proofs.Ytfpnjpbdaniomaa.wsconnPlays

theorem rows_act : ∀ {rows : List (List Value)}, (∀ r ∈ rows, AllL [.int .u8, .str] r) → ∃ l : List AcT, rows = l.map acC
 | [], h => ⟨[], rfl⟩
 | r :: rows, h => by
  obtain ⟨l, e⟩ := rows_act (rows := rows) (fun r hr => h r (List.mem_cons_of_mem _ hr))
  obtain ⟨_, _, rfl, ⟨x, rfl, _⟩, _, _, rfl, ⟨s, rfl, _⟩, h4⟩ := h r List.mem_cons_self
  have h4 : _ = [] := h4
  subst h4
  exact ⟨(x, s) :: l, by rw [e]; rfl⟩
theorem cw_le {B B' : Nat} {c : CS} (h : CW B c) (hB : B ≤ B') : CW B' c := by
 refine ⟨h.r, h.ctl, Nat.le_trans h.dat hB, fun hs => ?_⟩
 have j := h.jl hs
 have := j.tx
 have := j.a1
 exact ⟨j.bad, j.bg, j.lk, j.bo, j.ch, by omega, j.tn, j.a0, by omega⟩
theorem jop_sim {c : CS} {w : DC} (s : Sim c w) (h1 : w.st = 1) : jopV (enc c.j) = (w.j.2.1 != 0) ∧ w.j.1 = 0 := by
 have j := s.jn h1
 refine ⟨?_, j.bad.2⟩
 unfold jopV
 rw [dec_enc, j.bad.1, j.op.1]
 rfl
theorem sim_feed {c : CS} {w : DC} {t : ByteArray} (s : Sim c w) (hs : ¬ w.st = 3) : Sim { c with r := feedX c.r t } { w with inp := cat w.inp t } := by
 have hx : ¬ c.r.1 = 2 := by
  cases hb : w.bg with
  | false =>
   have h0 : c.r.1 = 0 := s.head hs hb
   omega
  | true =>
   have h0 : c.r.1 = 1 := (s.fram hs hb).s1
   omega
 have e : feedX c.r t = xSet c.r c.r.1 (cat c.r.2.1 t) (xTold c.r) := by
  unfold feedX
  rw [ne_t hx]
  rfl
 have e1 : c.r.2.1 = w.inp := s.inp hs
 refine ⟨s.st, fun _ => ?_, fun _ hb => ?_, fun _ hb => ?_, s.jn⟩
 ·show xIn (feedX c.r t) = cat w.inp t
  rw [e, ← e1]
  rfl
 ·show xSt (feedX c.r t) = 0
  rw [e]
  exact s.head hs hb
 ·have f := s.fram hs hb
  refine ⟨?_, ?_, ?_, ?_, f.op, f.ctl, f.data⟩
  ·show xSt (feedX c.r t) = 1; rw [e]; exact f.s1
  ·show xKey (feedX c.r t) = _; rw [e]; exact f.key
  ·show xHl (feedX c.r t) = _; rw [e]; exact f.len
  ·show xTold (feedX c.r t) = _; rw [e]; exact f.told
theorem sim_st {c : CS} {w : DC} (s : Sim c w) (x : Int) (h1 : ¬ x = 1) (hs : x = 3 ∨ ¬ w.st = 3) : Sim { c with st := x } { w with st := x } :=
 ⟨rfl, fun hx => s.inp (by rcases hs with h | h; exact absurd h hx; exact h), fun hx => s.head (by rcases hs with h | h; exact absurd h hx; exact h), fun hx hb =>
  let f := s.fram (by rcases hs with h | h; exact absurd h hx; exact h) hb
  ⟨f.s1, f.key, f.len, f.told, f.op, f.ctl, f.data⟩, fun h => absurd h h1⟩
section
variable (l : List AcT) (lim : Int) (hl : l.length ≤ 150) (hs : ∀ a ∈ l, slen a.2 ≤ 400)
include hl hs
theorem run : ∀ (m i : Nat) (c : CS) (w : DC), i + m = l.length → CW (400 * i) c → Sim c w → w.lim = lim →
  AEnds E 5 0 (plays_h1 lim l.length (acQ l) c.st c.ctl c.data w.inp w.st w.bg w.fin w.masked w.least w.rsv w.op w.k0 w.k1 w.k2 w.k3 w.len w.at' w.data (encR c.r) (enc c.j) w.j.1 w.j.2.1 w.j.2.2.1 w.j.2.2.2.1 w.j.2.2.2.2.1 w.j.2.2.2.2.2.1 w.j.2.2.2.2.2.2 (i : Int)) (.bool true) []
 | 0, i, c, w, hi, h, s, hw => plays_w1_35 lim l.length (acQ l) c.st c.ctl c.data w.inp w.st w.bg w.fin w.masked w.least w.rsv w.op w.k0 w.k1 w.k2 w.k3 w.len w.at' w.data (encR c.r) (enc c.j) w.j.1 w.j.2.1 w.j.2.2.1 w.j.2.2.2.1 w.j.2.2.2.2.1 w.j.2.2.2.2.2.1 w.j.2.2.2.2.2.2 (i : Int) (decide_eq_false (by omega))
 | m + 1, i, c, w, hi, h, s, hw => by
  have hlt : i < l.length := by omega
  obtain ⟨a, ha⟩ : ∃ a, l[i]? = some a := ⟨_, List.getElem?_eq_getElem hlt⟩
  have hta : slen a.2 ≤ 400 := hs a (List.mem_of_getElem? ha)
  have g0 : (acQ l).getD (i * 2 + 0) undef = .int .u8 a.1 := acQ_at l i a 0 ha (by omega)
  have g1 : (acQ l).getD (i * 2 + 1) undef = .string a.2 := acQ_at l i a 1 ha (by omega)
  have hlen := acQ_len l
  have hw' := hw
  have hB := h.le
  have rI := run m (i + 1)
  have ei : IntKind.i64.wrap ((i : Int) + 1) = ((i + 1 : Nat) : Int) := by rw [wrap64_in (by omega) (by omega)]; omega
  have hst := s.st
  have dI : decide ((i : Int) < (l.length : Int)) = true := decide_eq_true (by omega)
  have ne0 : (c.st != w.st) = false := ne_f hst
  by_cases a0 : a.1 = 0
  ·by_cases c3 : w.st = 3
   ·have ih := rI c { w with inp := w.inp } (by omega) (cw_le h (by omega)) s hw
    have w1 := plays_w1_22 lim l.length (acQ l) c.st c.ctl c.data w.inp w.st w.bg w.fin w.masked w.least w.rsv w.op w.k0 w.k1 w.k2 w.k3 w.len w.at' w.data (encR c.r) (enc c.j) w.j.1 w.j.2.1 w.j.2.2.1 w.j.2.2.2.1 w.j.2.2.2.2.1 w.j.2.2.2.2.2.1 w.j.2.2.2.2.2.2 (i : Int)
    simp only [Int.toNat_natCast, g0, g1, toStr, toInt, isStr, isInt, ei] at w1
    exact Gets.ends (w1 (beq_self_eq_true _) (eq_f (by omega)) (eq_f (by omega)) ne0 (ne_f c3) (by omega) (by trivial) (by omega) (by omega) (by omega) (ne_f (by omega)) (eq_t a0) (by omega) (by trivial) dI) ih
   ·have hx := s.inp c3
    have hdat := h.dat
    have ih := rI { c with r := feedX c.r a.2 } { w with inp := cat w.inp a.2 } (by omega) (by have hf := feedC_inv (B := 400 * i) (k := 400) h hta (by omega); rw [show 400 * (i + 1) = 400 * i + 400 by omega]; exact hf) (sim_feed s c3) hw
    have hr := rfd_ok (s := a.2) h (by omega)
    have hsl : slen w.inp + slen a.2 ≤ 9223372036854775807 := by rw [← hx]; omega
    dsimp only at ih
    rw [← rfdR_enc] at ih
    by_cases c1 : w.st = 1
    ·obtain ⟨j1, j2⟩ := jop_sim s c1
     by_cases co : w.j.2.1 = 0
     ·rw [co] at j1
      have w1 := plays_w1_3 lim l.length (acQ l) c.st c.ctl c.data w.inp w.st w.bg w.fin w.masked w.least w.rsv w.op w.k0 w.k1 w.k2 w.k3 w.len w.at' w.data (encR c.r) (enc c.j) w.j.1 w.j.2.1 w.j.2.2.1 w.j.2.2.2.1 w.j.2.2.2.2.1 w.j.2.2.2.2.2.1 w.j.2.2.2.2.2.2 (i : Int)
      simp only [Int.toNat_natCast, g0, g1, toStr, toInt, isStr, isInt, ei] at w1
      exact Gets.ends (w1 (by rw [j1]; rfl) (beq_self_eq_true _) (ne_f co) (eq_t c1) (JI_enc _) (eq_t (by omega)) ne0 hsl (ne_t c3) (by omega) (by trivial) (by omega) (by omega) (by omega) hr (ne_t (by omega)) (eq_t a0) (by omega) (by trivial) dI) ih
     ·have jo : (w.j.2.1 != 0) = true := ne_t co
      rw [jo] at j1
      have w1 := plays_w1_0 lim l.length (acQ l) c.st c.ctl c.data w.inp w.st w.bg w.fin w.masked w.least w.rsv w.op w.k0 w.k1 w.k2 w.k3 w.len w.at' w.data (encR c.r) (enc c.j) w.j.1 w.j.2.1 w.j.2.2.1 w.j.2.2.2.1 w.j.2.2.2.2.1 w.j.2.2.2.2.2.1 w.j.2.2.2.2.2.2 (i : Int)
      simp only [Int.toNat_natCast, g0, g1, toStr, toInt, isStr, isInt, ei] at w1
      exact Gets.ends (w1 (by rw [j1, j2]; rfl) (beq_self_eq_true _) jo (eq_t c1) (JI_enc _) (eq_t (by omega)) ne0 hsl (ne_t c3) (by omega) (by trivial) (by omega) (by omega) (by omega) hr (ne_t (by omega)) (eq_t a0) (by omega) (by trivial) dI) ih
    ·skip
     have w1 := plays_w1_4 lim l.length (acQ l) c.st c.ctl c.data w.inp w.st w.bg w.fin w.masked w.least w.rsv w.op w.k0 w.k1 w.k2 w.k3 w.len w.at' w.data (encR c.r) (enc c.j) w.j.1 w.j.2.1 w.j.2.2.1 w.j.2.2.2.1 w.j.2.2.2.2.1 w.j.2.2.2.2.2.1 w.j.2.2.2.2.2.2 (i : Int)
     simp only [Int.toNat_natCast, g0, g1, toStr, toInt, isStr, isInt, ei] at w1
     exact Gets.ends (w1 (beq_self_eq_true _) (eq_f c1) (eq_f (by omega)) ne0 hsl (ne_t c3) (by omega) (by trivial) (by omega) (by omega) (by omega) hr (ne_t (by omega)) (eq_t a0) (by omega) (by trivial) dI) ih
  by_cases a1 : a.1 = 1
  ·by_cases c1 : w.st = 1
   ·have ih := rI { c with st := 2 } { w with st := 2 } (by omega) ((cw_le h (by omega)).shut (by omega)) (sim_st s 2 (by omega) (.inr (by omega))) hw
    have w1 := plays_w1_24 lim l.length (acQ l) c.st c.ctl c.data w.inp w.st w.bg w.fin w.masked w.least w.rsv w.op w.k0 w.k1 w.k2 w.k3 w.len w.at' w.data (encR c.r) (enc c.j) w.j.1 w.j.2.1 w.j.2.2.1 w.j.2.2.2.1 w.j.2.2.2.2.1 w.j.2.2.2.2.2.1 w.j.2.2.2.2.2.2 (i : Int)
    simp only [Int.toNat_natCast, g0, g1, toStr, toInt, isStr, isInt, ei] at w1
    exact Gets.ends (w1 (ne_f (by omega)) (eq_t c1) (eq_t a1) (eq_f a0) (by omega) (by trivial) (by omega) (by omega) (by omega) dI) ih
   ·have ih := rI c w (by omega) (cw_le h (by omega)) s hw
    have w1 := plays_w1_25 lim l.length (acQ l) c.st c.ctl c.data w.inp w.st w.bg w.fin w.masked w.least w.rsv w.op w.k0 w.k1 w.k2 w.k3 w.len w.at' w.data (encR c.r) (enc c.j) w.j.1 w.j.2.1 w.j.2.2.1 w.j.2.2.2.1 w.j.2.2.2.2.1 w.j.2.2.2.2.2.1 w.j.2.2.2.2.2.2 (i : Int)
    simp only [Int.toNat_natCast, g0, g1, toStr, toInt, isStr, isInt, ei] at w1
    exact Gets.ends (w1 (beq_self_eq_true _) (eq_f c1) (eq_f (by omega)) ne0 (ne_t (by omega)) (eq_t a1) (eq_f a0) (by omega) (by trivial) (by omega) (by omega) (by omega) dI) ih
  by_cases a2 : a.1 = 2
  ·have ih := rI { c with st := 3 } { w with st := 3 } (by omega) ((cw_le h (by omega)).shut (by omega)) (sim_st s 3 (by omega) (.inl rfl)) hw
   have w1 := plays_w1_28 lim l.length (acQ l) c.st c.ctl c.data w.inp w.st w.bg w.fin w.masked w.least w.rsv w.op w.k0 w.k1 w.k2 w.k3 w.len w.at' w.data (encR c.r) (enc c.j) w.j.1 w.j.2.1 w.j.2.2.1 w.j.2.2.2.1 w.j.2.2.2.2.1 w.j.2.2.2.2.2.1 w.j.2.2.2.2.2.2 (i : Int)
   simp only [Int.toNat_natCast, g0, g1, toStr, toInt, isStr, isInt, ei] at w1
   exact Gets.ends (w1 (eq_t a2) (eq_f a1) (eq_f a0) (by omega) (by trivial) (by omega) (by omega) (by omega) dI) ih
  -- Next
  obtain ⟨n1, n2⟩ := dN_sim (3 * slen w.inp + 3) c w h s (fun h3 => by
   unfold mu
   rw [s.inp h3]
   split <;> omega)
  obtain ⟨n3, _⟩ := nextF_inv (mu c.r + 1) c h
  have n3 : CW (400 * i) (nextC c).2 := n3
  have n4 := dNx_lim (3 * slen w.inp + 3) w
  have ih := rI (nextC c).2 (dNx (3 * slen w.inp + 3) w).2 (by omega) (cw_le n3 (by omega)) n2 (n4.trans hw)
  have e1 := nxT_U c
  have e2 : dnT w.inp w.st w.bg w.fin w.masked w.least w.rsv w.op w.k0 w.k1 w.k2 w.k3 w.len w.at' w.data lim w.j.1 w.j.2.1 w.j.2.2.1 w.j.2.2.2.1 w.j.2.2.2.2.1 w.j.2.2.2.2.2.1 w.j.2.2.2.2.2.2 = dnU (dNx (3 * slen w.inp + 3) w) := by
   unfold dnT
   rw [seal1_eq, ← hw]
   rfl
  have p1 := nxc_ok (by omega) h
  have p2 : dnc_pre w.inp w.st w.bg w.fin w.masked w.least w.rsv w.op w.k0 w.k1 w.k2 w.k3 w.len w.at' w.data lim w.j.1 w.j.2.1 w.j.2.2.1 w.j.2.2.2.1 w.j.2.2.2.2.1 w.j.2.2.2.2.2.1 w.j.2.2.2.2.2.2 := ⟨c, cw_le h (by omega), by rw [← hw]; exact s⟩
  have m1 : (nextC c).2.st = (dNx (3 * slen w.inp + 3) w).2.st := n2.st
  have m2 : (!((evT (nextC c).1).1 == (evT (dNx (3 * slen w.inp + 3) w).1).1 && ((evT (nextC c).1).2.1 == (evT (dNx (3 * slen w.inp + 3) w).1).2.1 && ((evT (nextC c).1).2.2.1 == (evT (dNx (3 * slen w.inp + 3) w).1).2.2.1 && (toL (evT (nextC c).1).2.2.2 == toL (evT (dNx (3 * slen w.inp + 3) w).1).2.2.2 && true))))) = false := by
   rw [n1]
   simp
  have m3 : (!(nextC c).1.isSome == (dNx (3 * slen w.inp + 3) w).1.isSome) = false := by
   rw [n1]
   simp
  have jI : jop_pre (enc (nextC c).2.j) := JI_enc _
  by_cases c1 : (dNx (3 * slen w.inp + 3) w).2.st = 1
  ·obtain ⟨j1, j2⟩ := jop_sim n2 c1
   by_cases co : (dNx (3 * slen w.inp + 3) w).2.j.2.1 = 0
   ·rw [co] at j1
    have w1 := plays_w1_32 lim l.length (acQ l) c.st c.ctl c.data w.inp w.st w.bg w.fin w.masked w.least w.rsv w.op w.k0 w.k1 w.k2 w.k3 w.len w.at' w.data (encR c.r) (enc c.j) w.j.1 w.j.2.1 w.j.2.2.1 w.j.2.2.2.1 w.j.2.2.2.2.1 w.j.2.2.2.2.2.1 w.j.2.2.2.2.2.2 (i : Int) _ e1 _ e2
    simp only [Int.toNat_natCast, g0, g1, toStr, toInt, isStr, isInt, ei] at w1
    exact Gets.ends (w1 (by show (!jopV (enc (nextC c).2.j) == false) = false; rw [j1]; rfl) (beq_self_eq_true _) (ne_f co) (eq_t c1) jI (eq_t (m1.trans c1)) (ne_f m1) m2 m3 p2 p1 (eq_f a2) (eq_f a1) (eq_f a0) (by omega) (by trivial) (by omega) (by omega) (by omega) dI) ih
   ·have jo : ((dNx (3 * slen w.inp + 3) w).2.j.2.1 != 0) = true := ne_t co
    rw [jo] at j1
    have w1 := plays_w1_29 lim l.length (acQ l) c.st c.ctl c.data w.inp w.st w.bg w.fin w.masked w.least w.rsv w.op w.k0 w.k1 w.k2 w.k3 w.len w.at' w.data (encR c.r) (enc c.j) w.j.1 w.j.2.1 w.j.2.2.1 w.j.2.2.2.1 w.j.2.2.2.2.1 w.j.2.2.2.2.2.1 w.j.2.2.2.2.2.2 (i : Int) _ e1 _ e2
    simp only [Int.toNat_natCast, g0, g1, toStr, toInt, isStr, isInt, ei] at w1
    exact Gets.ends (w1 (by show (!jopV (enc (nextC c).2.j) == ((dNx (3 * slen w.inp + 3) w).2.j.1 == 0)) = false; rw [j1, j2]; rfl) (beq_self_eq_true _) jo (eq_t c1) jI (eq_t (m1.trans c1)) (ne_f m1) m2 m3 p2 p1 (eq_f a2) (eq_f a1) (eq_f a0) (by omega) (by trivial) (by omega) (by omega) (by omega) dI) ih
  ·skip
   have w1 := plays_w1_33 lim l.length (acQ l) c.st c.ctl c.data w.inp w.st w.bg w.fin w.masked w.least w.rsv w.op w.k0 w.k1 w.k2 w.k3 w.len w.at' w.data (encR c.r) (enc c.j) w.j.1 w.j.2.1 w.j.2.2.1 w.j.2.2.2.1 w.j.2.2.2.2.1 w.j.2.2.2.2.2.1 w.j.2.2.2.2.2.2 (i : Int) _ e2 _ e1
   simp only [Int.toNat_natCast, g0, g1, toStr, toInt, isStr, isInt, ei] at w1
   exact Gets.ends (w1 (beq_self_eq_true _) (eq_f c1) (eq_f (fun hh => c1 (m1.symm.trans hh))) (ne_f m1) m2 m3 p2 p1 (eq_f a2) (eq_f a1) (eq_f a0) (by omega) (by trivial) (by omega) (by omega) (by omega) dI) ih
end
theorem all (lim : Int) (hl : -9223372036854775808 ≤ lim ∧ lim ≤ 9223372036854775807) (a : List (List Value)) (u : ∀ r ∈ a, AllL [.int .u8, .str] r) : AEnds E 5 0 (startC E 5 [.int .i64 lim, .iface a.length (.agg a.flatten.toArray)] []) (.bool true) [] := by
 obtain ⟨l, rfl⟩ := rows_act u
 rw [List.length_map]
 have gp : great_pre l.length (acQ l) := ⟨l, rfl, rfl⟩
 cases hg : greatB l.length (acQ l) with
 | true => exact plays_w0_0 lim l.length (acQ l) hg gp
 | false =>
  obtain ⟨g1, g2, _⟩ := greatB_false hg
  by_cases c1 : lim < 0
  ·exact playb_w0_1 lim l.length (acQ l) (decide_eq_true c1) (.inl c1) hg gp
  by_cases c2 : 1099511627776 < lim
  ·exact playb_w0_2 lim l.length (acQ l) (decide_eq_true c2) (decide_eq_false c1) (.inr c2) hg gp
  have w := plays_w0_1 lim l.length (acQ l) (decide_eq_false c2) (decide_eq_false c1) rfl ⟨by omega, by omega⟩ hg gp
  rw [rnwR_eq, jnwJ_eq] at w
  have s0 : Sim (c0 lim) ⟨⟨#[]⟩, 1, false, false, false, false, 0, 0, 0, 0, 0, 0, 0, 0, ⟨#[]⟩, lim, (0, 0, 0, ⟨#[]⟩, false, false, 0)⟩ :=
   ⟨rfl, fun _ => rfl, fun _ _ => rfl, fun _ hb => (by cases hb), fun _ => ⟨⟨rfl, by show (0 : Int) ≤ lim; omega, by show lim ≤ 1099511627776; omega⟩, ⟨rfl, rfl⟩, ⟨rfl, .inl rfl⟩, ⟨rfl, Int.le_refl _, by show (0 : Int) ≤ lim; omega⟩, rfl, fun _ => rfl, fun h => (by cases h), rfl, fun h => (by cases h), fun h => absurd (show (0 : Int) = 1 from h) (by decide)⟩⟩
  have hr := run l lim g1 g2 l.length 0 (c0 lim) _ (Nat.zero_add _) (c0_inv lim) s0 rfl
  dsimp only at hr
  exact w.ends hr

theorem walk (a0 : Int) (w0 : (Lit.int .i64 a0).wf = true) (a1 : List (List Value)) (w1 : a1.length ≤ maxLen) (u1 : ∀ r ∈ a1, AllL [.int .u8, .str] r) (W : World) (args' : Array Value)
  (ha : ∀ ρ, VL (prOf W) (AN []) ρ [.int .i64 a0, .iface a1.length (.agg a1.flatten.toArray)] args'.toList) :
  Calls Try.prog 5 args' W fun e w' => e = .returned (.bool true) ∧ Stays W w' :=
 calls_of_ends (all a0 (by simp [Lit.wf, IntKind.min, IntKind.max, IntKind.bits, IntKind.signed] at w0; omega) a1 u1) (by kernel_rfl) rfl ha

theorem own : ownKnob Try.prog.godebug = none := by kernel_rfl
theorem laid : laidOutB Try.prog = true := by kernel_rfl

set_option maxRecDepth 100000 in
theorem lifted (os : Os) (started : os.Started) (H : Type) (enc : TypeId × Value → H) :
  ReturnsInHanded {} Try.checked os 5 .any (Rows.wsconnPlaysSpec.pre6 enc Try.prog Try.f5 Rows.wsconnPlaysRow.domain false) (Rows.wsconnPlaysSpec.post enc Try.prog Try.f5 false true false false) := by
 refine returnsInHanded_of_change (C := Try.checked) own started (by kernel_rfl) Try.func5
  (ChangeSpec.witness6 (enc := enc) (C := Try.checked) false ⟨#[], #[.int .i64 0, .slice none 0 0], []⟩ 8 (by kernel_rfl) (by kernel_rfl) (by kernel_rfl) (by kernel_rfl)) ?_
 intro W base args ds gs before hval0 hW hcnd _
 have hval : ∀ (j : Nat) t v, Try.f5.params[j]? = some t → args[j]? = some v → Value.okWide Try.prog W .any base t v := hval0
 have hW' := hW
 obtain ⟨p, q, hA0, hV, rfl, hfz, hnd⟩ := hW
 have hA : DataW.TrodAll enc Try.prog W 0 (fun _ => true) true Try.f5.params.toList args.toList ds p := hA0
 rw [Try.params5] at hA hval
 obtain ⟨v0, vs0, d0, ds0, p0, q0, hargs, rfl, rfl, h0, r0⟩ := trodAll_cons hA
 obtain ⟨v1, vs1, d1, ds1, p1, q1, rfl, rfl, rfl, h1, r1⟩ := trodAll_cons r0
 obtain ⟨rfl, rfl, rfl⟩ := trodAll_nil r1
 obtain rfl : args = #[v0, v1] := by cases args; simp_all
 obtain ⟨a0, x0, w0⟩ := read_int Try.underlying3 (hval 0 3 v0 rfl rfl) h0
 obtain ⟨a1, x1, w1, u1⟩ := read_rows (ls := [.int .u8, .str]) Try.underlying40 (by kernel_rfl) (by decide) (trodL_struct Try.underlying49 (by kernel_rfl) ⟨[.int .u8], _, rfl, rfl, by kernel_rfl, trodL_int Try.underlying5, [.str], _, rfl, rfl, by kernel_rfl, trodL_str Try.underlying9, rfl⟩) (hval 1 40 v1 rfl rfl) h1
 refine (walk a0 w0 a1 w1 u1 W _ (fun ρ => .cons (x0 _ _) (.cons (x1 _ _) (.nil)))).mono fun e W' ⟨he, hg⟩ => ?_
 subst he
 exact ⟨_, rfl, post_law (tb := 4) laid (by rw [Try.params5]; intro t ht; simp only [List.mem_cons, List.not_mem_nil, or_false] at ht; rcases ht with rfl | rfl <;> exact ⟨by kernel_rfl, by decide +kernel⟩) rfl (by kernel_rfl) Try.underlying4 (by rintro _ rfl; rfl) hW' hg⟩

theorem over : Rows.wsconnPlaysRow.holds Try.pinned (OpenSpec.ofChange Rows.wsconnPlaysSpec) :=
 OpenClaim.holds_of_wide 5 Try.f5 rfl rfl rfl rfl rfl rfl rfl ⟨rfl, rfl, rfl, rfl, rfl⟩ rfl rfl rfl rfl rfl (by kernel_rfl) Try.func5 (by kernel_rfl)
  (of_decide_eq_true (by kernel_rfl)) (by unfold Func.isWrapper; first | (rw [if_pos (by decide +kernel)]; kernel_rfl) | (rw [if_neg (by decide +kernel)]; exact ⟨rfl, rfl⟩))
  (fun os started H enc _ => lifted os started H enc)

theorem proved : Rows.WsconnPlaysSaid :=
 over


end Go.Proofs.Ytfpnjpbdaniomaa.wsconnPlays
