/-
  All that a reader tells behind what others told: as a contract.
-/
import Derived.Test.YtfmcohbagbafmaaFramesS
import Derived.Test.YtfmcohbagbafmaaFramesR
set_option linter.unusedVariables false
set_option linter.unusedSimpArgs false
open Go Go.Am
namespace Go.Proofs.Ytfmcohbagbafmaa

noncomputable def thd2 (m : Bool) (P : RX) (n0 : Nat) (L0 : List Value) (r : rstep_R) (l : List Ev) : Cfg :=
  told2_h1 m P.1 P.2.1 P.2.2.1 P.2.2.2.1 P.2.2.2.2.1 P.2.2.2.2.2.1 P.2.2.2.2.2.2.1 P.2.2.2.2.2.2.2.1 P.2.2.2.2.2.2.2.2.1 P.2.2.2.2.2.2.2.2.2.1 P.2.2.2.2.2.2.2.2.2.2.1 P.2.2.2.2.2.2.2.2.2.2.2.1 P.2.2.2.2.2.2.2.2.2.2.2.2 n0 L0
    r.2.2.2.2.2.1 r.2.2.2.2.2.2.1 r.2.2.2.2.2.2.2.1 r.2.2.2.2.2.2.2.2.1 r.2.2.2.2.2.2.2.2.2.1 r.2.2.2.2.2.2.2.2.2.2.1 r.2.2.2.2.2.2.2.2.2.2.2.1 r.2.2.2.2.2.2.2.2.2.2.2.2.1 r.2.2.2.2.2.2.2.2.2.2.2.2.2.1 r.2.2.2.2.2.2.2.2.2.2.2.2.2.2.1 r.2.2.2.2.2.2.2.2.2.2.2.2.2.2.2.1 r.2.2.2.2.2.2.2.2.2.2.2.2.2.2.2.2.1 r.2.2.2.2.2.2.2.2.2.2.2.2.2.2.2.2.2.1 r.2.2.2.2.2.2.2.2.2.2.2.2.2.2.2.2.2.2
    r.1 r.2.1 r.2.2.1 r.2.2.2.1 r.2.2.2.2.1 (evsV l) l.length
theorem told2_run (m : Bool) (P : RX) (n0 : Nat) (L0 : List Value) : ∀ (n : Nat) (x : RX) (l : List Ev), Inv x → mu x < n → l.length + n ≤ 10000000 → (∀ p ∈ l, slen p.text + slen (xIn x) ≤ 4000000) →
    AEnds E 15 1 (thd2 m P n0 L0 (stp m x) l) (.slice (some ⟨1, 0, none⟩) (tell m n x l).1.length 0) [some (.cells (rdV m (tell m n x l).2) 48 none), some (.cells (evsV (tell m n x l).1) 30 (some 5))]
  | 0, x, l, _, h, _, _ => absurd h (Nat.not_lt_zero _)
  | n + 1, x, l, hI, hn, hl, ht => by
    obtain ⟨hS, hT⟩ := step_val m x hI
    rw [hT, tell]
    cases hok : rOk (stepT m x) with
    | false =>
      have hok' : (stepT m x).2.2.2.2.2.1 = false := hok
      generalize stepT m x = r at hok' ⊢
      have h := told2_ok1 m P.1 P.2.1 P.2.2.1 P.2.2.2.1 P.2.2.2.2.1 P.2.2.2.2.2.1 P.2.2.2.2.2.2.1 P.2.2.2.2.2.2.2.1 P.2.2.2.2.2.2.2.2.1 P.2.2.2.2.2.2.2.2.2.1 P.2.2.2.2.2.2.2.2.2.2.1 P.2.2.2.2.2.2.2.2.2.2.2.1 P.2.2.2.2.2.2.2.2.2.2.2.2 n0 L0
        r.2.2.2.2.2.1 r.2.2.2.2.2.2.1 r.2.2.2.2.2.2.2.1 r.2.2.2.2.2.2.2.2.1 r.2.2.2.2.2.2.2.2.2.1 r.2.2.2.2.2.2.2.2.2.2.1 r.2.2.2.2.2.2.2.2.2.2.2.1 r.2.2.2.2.2.2.2.2.2.2.2.2.1 r.2.2.2.2.2.2.2.2.2.2.2.2.2.1 r.2.2.2.2.2.2.2.2.2.2.2.2.2.2.1 r.2.2.2.2.2.2.2.2.2.2.2.2.2.2.2.1 r.2.2.2.2.2.2.2.2.2.2.2.2.2.2.2.2.1 r.2.2.2.2.2.2.2.2.2.2.2.2.2.2.2.2.2.1 r.2.2.2.2.2.2.2.2.2.2.2.2.2.2.2.2.2.2
        r.1 r.2.1 r.2.2.1 r.2.2.2.1 r.2.2.2.2.1 (evsV l) l.length (by unfold told2_S1; rw [hok']; exact ⟨(fun h => by cases h), fun _ => evs_flat l⟩)
      unfold told2_t1 at h
      rw [hok', cond_false] at h
      rw [cond_false]
      have h2 := told2_end h
      unfold thd2
      rw [hok']
      exact h2
    | true =>
      have hx := step_text hI hok
      obtain ⟨hI', hmu⟩ := step_inv (m := m) hI hok
      obtain ⟨hS', hT'⟩ := step_val m (rx (stepT m x)) hI'
      have hok' : (stepT m x).2.2.2.2.2.1 = true := hok
      rw [cond_true]
      -- what is written further
      have hadd : (addE l (rEv (stepT m x))).length ≤ l.length + 1 := by
        unfold addE
        split
        · split
          · rw [List.length_append, List.length_dropLast]; simp
          · simp
        · simp
      have htx : ∀ p ∈ addE l (rEv (stepT m x)), slen p.text + slen (xIn (rx (stepT m x))) ≤ 4000000 := by
        have h2 := hI.len
        intro p hp
        unfold addE at hp
        split at hp
        · rename_i q hq
          have hql := List.mem_of_getLast? hq
          split at hp
          · rw [List.mem_append] at hp
            rcases hp with hp | hp
            · have := ht p ((List.dropLast_sublist l).subset hp); omega
            · simp at hp
              subst hp
              have := ht q hql
              show slen (cat q.text (rEv (stepT m x)).text) + _ ≤ _
              have e : slen (cat q.text (rEv (stepT m x)).text) = slen q.text + slen (rEv (stepT m x)).text := by simp [slen, cat, toL, ofL]
              omega
          · rw [List.mem_append] at hp
            rcases hp with hp | hp
            · have := ht p hp; omega
            · simp at hp; subst hp; omega
        · rw [List.mem_append] at hp
          rcases hp with hp | hp
          · have := ht p hp; omega
          · simp at hp; subst hp; omega
      have ih := told2_run m P n0 L0 n (rx (stepT m x)) (addE l (rEv (stepT m x))) hI' (by omega) (by omega) htx
      refine Gets.ends ?_ ih
      have hS1 : rstep_S0 m (rx (stepT m x)).1 (rx (stepT m x)).2.1 (rx (stepT m x)).2.2.1 (rx (stepT m x)).2.2.2.1 (rx (stepT m x)).2.2.2.2.1 (rx (stepT m x)).2.2.2.2.2.1 (rx (stepT m x)).2.2.2.2.2.2.1 (rx (stepT m x)).2.2.2.2.2.2.2.1 (rx (stepT m x)).2.2.2.2.2.2.2.2.1 (rx (stepT m x)).2.2.2.2.2.2.2.2.2.1 (rx (stepT m x)).2.2.2.2.2.2.2.2.2.2.1 (rx (stepT m x)).2.2.2.2.2.2.2.2.2.2.2.1 (rx (stepT m x)).2.2.2.2.2.2.2.2.2.2.2.2 := hS'
      have hst : rstep_t0 m (rx (stepT m x)).1 (rx (stepT m x)).2.1 (rx (stepT m x)).2.2.1 (rx (stepT m x)).2.2.2.1 (rx (stepT m x)).2.2.2.2.1 (rx (stepT m x)).2.2.2.2.2.1 (rx (stepT m x)).2.2.2.2.2.2.1 (rx (stepT m x)).2.2.2.2.2.2.2.1 (rx (stepT m x)).2.2.2.2.2.2.2.2.1 (rx (stepT m x)).2.2.2.2.2.2.2.2.2.1 (rx (stepT m x)).2.2.2.2.2.2.2.2.2.2.1 (rx (stepT m x)).2.2.2.2.2.2.2.2.2.2.2.1 (rx (stepT m x)).2.2.2.2.2.2.2.2.2.2.2.2 = stp m (rx (stepT m x)) := rfl
      generalize hr' : stp m (rx (stepT m x)) = r' at *
      have hb : ∀ p ∈ l, slen p.text + slen (rEv (stepT m x)).text ≤ 9223372036854775807 := fun p hp => by have := ht p hp; omega
      clear htx hadd ih hx hT hT' hS hS' hI' hmu hI
      generalize stepT m x = r at *
      unfold rx at hS1 hst
      have h := told2_ok1 m P.1 P.2.1 P.2.2.1 P.2.2.2.1 P.2.2.2.2.1 P.2.2.2.2.2.1 P.2.2.2.2.2.2.1 P.2.2.2.2.2.2.2.1 P.2.2.2.2.2.2.2.2.1 P.2.2.2.2.2.2.2.2.2.1 P.2.2.2.2.2.2.2.2.2.2.1 P.2.2.2.2.2.2.2.2.2.2.2.1 P.2.2.2.2.2.2.2.2.2.2.2.2 n0 L0
        r.2.2.2.2.2.1 r.2.2.2.2.2.2.1 r.2.2.2.2.2.2.2.1 r.2.2.2.2.2.2.2.2.1 r.2.2.2.2.2.2.2.2.2.1 r.2.2.2.2.2.2.2.2.2.2.1 r.2.2.2.2.2.2.2.2.2.2.2.1 r.2.2.2.2.2.2.2.2.2.2.2.2.1 r.2.2.2.2.2.2.2.2.2.2.2.2.2.1 r.2.2.2.2.2.2.2.2.2.2.2.2.2.2.1 r.2.2.2.2.2.2.2.2.2.2.2.2.2.2.2.1 r.2.2.2.2.2.2.2.2.2.2.2.2.2.2.2.2.1 r.2.2.2.2.2.2.2.2.2.2.2.2.2.2.2.2.2.1 r.2.2.2.2.2.2.2.2.2.2.2.2.2.2.2.2.2.2
        r.1 r.2.1 r.2.2.1 r.2.2.2.1 r.2.2.2.2.1 (evsV l) l.length
      have hv : ([Value.int IntKind.i64 r.1, Value.int IntKind.i64 r.2.1, Value.bool r.2.2.1, Value.int IntKind.i64 r.2.2.2.1, Value.string r.2.2.2.2.1] : List Value) = evsV [rEv r] := rfl
      rw [hok'] at h
      have hthd : thd2 m P n0 L0 r l = told2_h1 m P.1 P.2.1 P.2.2.1 P.2.2.2.1 P.2.2.2.2.1 P.2.2.2.2.2.1 P.2.2.2.2.2.2.1 P.2.2.2.2.2.2.2.1 P.2.2.2.2.2.2.2.2.1 P.2.2.2.2.2.2.2.2.2.1 P.2.2.2.2.2.2.2.2.2.2.1 P.2.2.2.2.2.2.2.2.2.2.2.1 P.2.2.2.2.2.2.2.2.2.2.2.2 n0 L0
        true r.2.2.2.2.2.2.1 r.2.2.2.2.2.2.2.1 r.2.2.2.2.2.2.2.2.1 r.2.2.2.2.2.2.2.2.2.1 r.2.2.2.2.2.2.2.2.2.2.1 r.2.2.2.2.2.2.2.2.2.2.2.1 r.2.2.2.2.2.2.2.2.2.2.2.2.1 r.2.2.2.2.2.2.2.2.2.2.2.2.2.1 r.2.2.2.2.2.2.2.2.2.2.2.2.2.2.1 r.2.2.2.2.2.2.2.2.2.2.2.2.2.2.2.1 r.2.2.2.2.2.2.2.2.2.2.2.2.2.2.2.2.1 r.2.2.2.2.2.2.2.2.2.2.2.2.2.2.2.2.2.1 r.2.2.2.2.2.2.2.2.2.2.2.2.2.2.2.2.2.2
        r.1 r.2.1 r.2.2.1 r.2.2.2.1 r.2.2.2.2.1 (evsV l) l.length := by unfold thd2; rw [hok']
      rw [hthd]
      unfold told2_S1 told2_t1 at h
      simp only [hst, cond_true, Nat.zero_add, evs_take, hv, ← evs_append] at h
      rcases l.eq_nil_or_concat with rfl | ⟨l', p, rfl⟩
      · -- nothing yet
        have ha : addE [] (rEv r) = [rEv r] := rfl
        rw [ha]
        have hk : (decide ((0 : Int) < ((([] : List Ev).length : Nat) : Int))) = false := by decide
        simp only [hk, cond_false, Bool.cond_self] at h
        have h2 := h (by
          simp [hS1, evs_flat, evs_len])
        exact told2_go1 h2
      · rw [List.concat_eq_append] at *
        have hlen : (l' ++ [p]).length = l'.length + 1 := by simp
        have hw : (IntKind.i64.wrap ((((l' ++ [p]).length : Nat) : Int) - 1)).toNat = l'.length := by rw [wrap64_in (by omega) (by omega)]; omega
        have hw2 : IntKind.i64.wrap ((((l' ++ [p]).length : Nat) : Int) - 1) = l'.length := by rw [wrap64_in (by omega) (by omega)]; omega
        have hk : (decide ((0 : Int) < (((l' ++ [p]).length : Nat) : Int))) = true := decide_eq_true (by omega)
        have g0 : (evsV (l' ++ [p])).getD (l'.length * 5 + 0) undef = .int .i64 p.k := evs_get l' p 0
        have g4 : (evsV (l' ++ [p])).getD (l'.length * 5 + 4) undef = .string p.text := evs_get l' p 4
        have hbp := hb p (by simp)
        simp only [hk, hw2, Int.toNat_natCast, cond_true] at h
        simp only [g0, g4, toInt, toStr, evs_set] at h
        have hgl : (l' ++ [p]).getLast? = some p := by simp
        have hdl : (l' ++ [p]).dropLast = l' := by simp
        have hflat := evs_flat
        have hel := evs_len (l' ++ [p])
        have e1 : slen (cat p.text (rEv r).text) = slen p.text + slen (rEv r).text := by simp [slen, cat, toL, ofL]
        by_cases ck : r.1 = 2
        · have c1 : (r.1 == 2) = true := by simpa using ck
          by_cases cp : p.k = 2
          · have c2 : (p.k == 2) = true := by simpa using cp
            have ha : addE (l' ++ [p]) (rEv r) = l' ++ [{ p with text := cat p.text r.2.2.2.2.1 }] := by
              unfold addE; rw [hgl]; dsimp only; rw [if_pos ⟨ck, cp⟩, hdl]; rfl
            rw [ha]
            simp only [c1, c2, cond_true] at h
            have h2 := h (by
              have : slen p.text + slen r.2.2.2.2.1 ≤ 9223372036854775807 := hbp
              simp [hS1, evs_flat, hel, hlen, isInt, isStr, this]; omega)
            have hl2 : (l' ++ [{ p with text := cat p.text r.2.2.2.2.1 }]).length = (l' ++ [p]).length := by simp
            unfold thd2
            rw [hl2]
            exact told2_go1 h2
          · have c2 : (p.k == 2) = false := by simpa using cp
            have ha : addE (l' ++ [p]) (rEv r) = (l' ++ [p]) ++ [rEv r] := by
              unfold addE; rw [hgl]; dsimp only; rw [if_neg (fun hh => cp hh.2)]
            rw [ha]
            simp only [c1, c2, cond_true, cond_false] at h
            have h2 := h (by simp [hS1, evs_flat, hel, hlen, isInt]; omega)
            have hl2 : ((l' ++ [p]) ++ [rEv r]).length = (l' ++ [p]).length + 1 := by simp
            unfold thd2
            rw [hl2]
            exact told2_go1 h2
        · have c1 : (r.1 == 2) = false := by simpa using ck
          have ha : addE (l' ++ [p]) (rEv r) = (l' ++ [p]) ++ [rEv r] := by
            unfold addE; rw [hgl]; dsimp only; rw [if_neg (fun hh => ck hh.1)]
          rw [ha]
          simp only [c1, cond_false] at h
          have h2 := h (by simp [hS1, evs_flat, hel, hlen]; omega)
          have hl2 : ((l' ++ [p]) ++ [rEv r]).length = (l' ++ [p]).length + 1 := by simp
          unfold thd2
          rw [hl2]
          exact told2_go1 h2

/-! ### as a contract -/
theorem evs_at2 : ∀ (l : List Ev) (i : Nat) (p : Ev) (j : Nat), l[i]? = some p → j < 5 → (evsV l).getD (i * 5 + j) undef = (evV p).getD j undef
  | [], i, p, j, h, _ => by simp at h
  | a :: r, 0, p, j, h, hj => by
    simp at h
    subst h
    have e : evsV (a :: r) = evV a ++ evsV r := rfl
    rw [e, Nat.zero_mul, Nat.zero_add, List.getD_eq_getElem?_getD, List.getElem?_append_left (by show j < 5; exact hj), List.getD_eq_getElem?_getD]
  | a :: r, i + 1, p, j, h, hj => by
    have e : evsV (a :: r) = evV a ++ evsV r := rfl
    have hl : (evV a).length = 5 := rfl
    rw [e, List.getD_eq_getElem?_getD, List.getElem?_append_right (by rw [hl]; omega), hl, show (i + 1) * 5 + j - 5 = i * 5 + j by omega, ← List.getD_eq_getElem?_getD]
    exact evs_at2 r i p j (by simpa using h) hj
/-- The events that cells are. -/
def parseE (n : Nat) (L : List Value) : List Ev := (List.range n).map fun i => ⟨toInt (L.getD (i * 5 + 0) undef), toInt (L.getD (i * 5 + 1) undef), toBool (L.getD (i * 5 + 2) undef), toInt (L.getD (i * 5 + 3) undef), toStr (L.getD (i * 5 + 4) undef)⟩
theorem parse_evs (l : List Ev) : parseE l.length (evsV l) = l := by
  unfold parseE
  apply List.ext_getElem
  · simp
  · intro i h1 h2
    have hi : l[i]? = some l[i] := List.getElem?_eq_getElem h2
    rw [List.getElem_map, List.getElem_range, evs_at2 l i _ 0 hi (by omega), evs_at2 l i _ 1 hi (by omega), evs_at2 l i _ 2 hi (by omega), evs_at2 l i _ 3 hi (by omega), evs_at2 l i _ 4 hi (by omega)]
    rfl
def tl2 (m : Bool) (x : RX) (n : Nat) (L : List Value) : List Ev × RX := tell m (mu x + 1) x (parseE n L)
def told2c_pre (m : Bool) (state : Int) (inn : ByteArray) (hf : Bool) (hr ho : Int) (hm : Bool) (k0 k1 k2 k3 hl : Int) (hlst : Bool) (told : Int) (n : Nat) (L : List Value) : Prop := ∃ l : List Ev, n = l.length ∧ L = evsV l ∧ Inv (state, inn, hf, hr, ho, hm, k0, k1, k2, k3, hl, hlst, told) ∧ l.length ≤ 5000000 ∧ ∀ p ∈ l, slen p.text + slen inn ≤ 4000000
def told2c_v (m : Bool) (state : Int) (inn : ByteArray) (hf : Bool) (hr ho : Int) (hm : Bool) (k0 k1 k2 k3 hl : Int) (hlst : Bool) (told : Int) (n : Nat) (L : List Value) : Value := .slice (some ⟨2, 0, none⟩) (tl2 m (state, inn, hf, hr, ho, hm, k0, k1, k2, k3, hl, hlst, told) n L).1.length 0
def told2c_h (m : Bool) (state : Int) (inn : ByteArray) (hf : Bool) (hr ho : Int) (hm : Bool) (k0 k1 k2 k3 hl : Int) (hlst : Bool) (told : Int) (n : Nat) (L : List Value) : Heap := [some (.cells (rdV m (tl2 m (state, inn, hf, hr, ho, hm, k0, k1, k2, k3, hl, hlst, told) n L).2) 48 none), none, some (.cells (evsV (tl2 m (state, inn, hf, hr, ho, hm, k0, k1, k2, k3, hl, hlst, told) n L).1) 30 (some 5))]
theorem told2c_call (m : Bool) (state : Int) (inn : ByteArray) (hf : Bool) (hr ho : Int) (hm : Bool) (k0 k1 k2 k3 hl : Int) (hlst : Bool) (told : Int) (n : Nat) (L : List Value) (h : told2c_pre m state inn hf hr ho hm k0 k1 k2 k3 hl hlst told n L) :
    CallOk E 15 [.pointer (some ⟨0, 0, none⟩), .slice (some ⟨1, 0, none⟩) n 0] [some (.cells [.bool m, .int .i64 state, .string inn, .bool hf, .int .i64 hr, .int .i64 ho, .bool hm, .int .u8 k0, .int .u8 k1, .int .u8 k2, .int .u8 k3, .int .u64 hl, .bool hlst, .int .i64 told] 48 none), some (.cells L 30 (some 5))] (told2c_v m state inn hf hr ho hm k0 k1 k2 k3 hl hlst told n L) (told2c_h m state inn hf hr ho hm k0 k1 k2 k3 hl hlst told n L) := by
  obtain ⟨l, rfl, rfl, hI, hll, hp⟩ := h
  have hS := (step_val m (state, inn, hf, hr, ho, hm, k0, k1, k2, k3, hl, hlst, told) hI).1
  have hl2 : slen inn ≤ 1000000 := hI.len
  have hmu : mu (state, inn, hf, hr, ho, hm, k0, k1, k2, k3, hl, hlst, told) ≤ 3 * slen inn + 2 := by unfold mu; show 3 * slen inn + _ ≤ _; split <;> omega
  have hrun := told2_run m (state, inn, hf, hr, ho, hm, k0, k1, k2, k3, hl, hlst, told) l.length (evsV l) (mu (state, inn, hf, hr, ho, hm, k0, k1, k2, k3, hl, hlst, told) + 1) (state, inn, hf, hr, ho, hm, k0, k1, k2, k3, hl, hlst, told) l hI (Nat.lt_succ_self _) (by omega) hp
  unfold told2c_v told2c_h tl2
  rw [parse_evs]
  have h0 := told2_ok0 m state inn hf hr ho hm k0 k1 k2 k3 hl hlst told l.length (evsV l) ⟨evs_flat l, hS⟩
  unfold told2_t0 at h0
  have hend := (told2_go1 h0).ends hrun
  exact callOk_mov (ok := [(rdV m (tell m (mu (state, inn, hf, hr, ho, hm, k0, k1, k2, k3, hl, hlst, told) + 1) (state, inn, hf, hr, ho, hm, k0, k1, k2, k3, hl, hlst, told) l).2).all flat, (evsV (tell m (mu (state, inn, hf, hr, ho, hm, k0, k1, k2, k3, hl, hlst, told) + 1) (state, inn, hf, hr, ho, hm, k0, k1, k2, k3, hl, hlst, told) l).1).all flat]) hend (by kernel_rfl) (by
    simp only [AllT.cons]
    exact ⟨rfl, evs_flat _, AllT.nil⟩) (by kernel_rfl) (Nat.le_of_ble_eq_true (by kernel_rfl)) (Nat.le_of_ble_eq_true (by kernel_rfl))

def told2c_ex (a : List Value) (h : Heap) : Bool × Int × ByteArray × Bool × Int × Int × Bool × Int × Int × Int × Int × Int × Bool × Int × Nat × List Value := ((toBool ((cellsOf h 0).getD 0 undef)), (toInt ((cellsOf h 0).getD 1 undef)), (toStr ((cellsOf h 0).getD 2 undef)), (toBool ((cellsOf h 0).getD 3 undef)), (toInt ((cellsOf h 0).getD 4 undef)), (toInt ((cellsOf h 0).getD 5 undef)), (toBool ((cellsOf h 0).getD 6 undef)), (toInt ((cellsOf h 0).getD 7 undef)), (toInt ((cellsOf h 0).getD 8 undef)), (toInt ((cellsOf h 0).getD 9 undef)), (toInt ((cellsOf h 0).getD 10 undef)), (toInt ((cellsOf h 0).getD 11 undef)), (toBool ((cellsOf h 0).getD 12 undef)), (toInt ((cellsOf h 0).getD 13 undef)), (sliceLen (a.getD 1 undef)), (cellsOf h 1))
noncomputable def told2c_k : Ct := kP told2c_ex (fun x => [Value.pointer (some { block := 0, off := 0 }), Value.slice (some { block := 1, off := 0 }) x.2.2.2.2.2.2.2.2.2.2.2.2.2.2.1 0]) (fun x => [some (Ob.cells [Value.bool x.1, Value.int IntKind.i64 x.2.1, Value.string x.2.2.1, Value.bool x.2.2.2.1, Value.int IntKind.i64 x.2.2.2.2.1, Value.int IntKind.i64 x.2.2.2.2.2.1, Value.bool x.2.2.2.2.2.2.1, Value.int IntKind.u8 x.2.2.2.2.2.2.2.1, Value.int IntKind.u8 x.2.2.2.2.2.2.2.2.1, Value.int IntKind.u8 x.2.2.2.2.2.2.2.2.2.1, Value.int IntKind.u8 x.2.2.2.2.2.2.2.2.2.2.1, Value.int IntKind.u64 x.2.2.2.2.2.2.2.2.2.2.2.1, Value.bool x.2.2.2.2.2.2.2.2.2.2.2.2.1, Value.int IntKind.i64 x.2.2.2.2.2.2.2.2.2.2.2.2.2.1] 48 none), some (Ob.cells x.2.2.2.2.2.2.2.2.2.2.2.2.2.2.2 30 (some 5))]) (fun x => told2c_pre (x.1) (x.2.1) (x.2.2.1) (x.2.2.2.1) (x.2.2.2.2.1) (x.2.2.2.2.2.1) (x.2.2.2.2.2.2.1) (x.2.2.2.2.2.2.2.1) (x.2.2.2.2.2.2.2.2.1) (x.2.2.2.2.2.2.2.2.2.1) (x.2.2.2.2.2.2.2.2.2.2.1) (x.2.2.2.2.2.2.2.2.2.2.2.1) (x.2.2.2.2.2.2.2.2.2.2.2.2.1) (x.2.2.2.2.2.2.2.2.2.2.2.2.2.1) (x.2.2.2.2.2.2.2.2.2.2.2.2.2.2.1) (x.2.2.2.2.2.2.2.2.2.2.2.2.2.2.2)) (fun x => told2c_v (x.1) (x.2.1) (x.2.2.1) (x.2.2.2.1) (x.2.2.2.2.1) (x.2.2.2.2.2.1) (x.2.2.2.2.2.2.1) (x.2.2.2.2.2.2.2.1) (x.2.2.2.2.2.2.2.2.1) (x.2.2.2.2.2.2.2.2.2.1) (x.2.2.2.2.2.2.2.2.2.2.1) (x.2.2.2.2.2.2.2.2.2.2.2.1) (x.2.2.2.2.2.2.2.2.2.2.2.2.1) (x.2.2.2.2.2.2.2.2.2.2.2.2.2.1) (x.2.2.2.2.2.2.2.2.2.2.2.2.2.2.1) (x.2.2.2.2.2.2.2.2.2.2.2.2.2.2.2)) (fun x => told2c_h (x.1) (x.2.1) (x.2.2.1) (x.2.2.2.1) (x.2.2.2.2.1) (x.2.2.2.2.2.1) (x.2.2.2.2.2.2.1) (x.2.2.2.2.2.2.2.1) (x.2.2.2.2.2.2.2.2.1) (x.2.2.2.2.2.2.2.2.2.1) (x.2.2.2.2.2.2.2.2.2.2.1) (x.2.2.2.2.2.2.2.2.2.2.2.1) (x.2.2.2.2.2.2.2.2.2.2.2.2.1) (x.2.2.2.2.2.2.2.2.2.2.2.2.2.1) (x.2.2.2.2.2.2.2.2.2.2.2.2.2.2.1) (x.2.2.2.2.2.2.2.2.2.2.2.2.2.2.2))
theorem told2c_k_ok : KFor E 15 told2c_k := kP_ok (fun x hx => told2c_call (x.1) (x.2.1) (x.2.2.1) (x.2.2.2.1) (x.2.2.2.2.1) (x.2.2.2.2.2.1) (x.2.2.2.2.2.2.1) (x.2.2.2.2.2.2.2.1) (x.2.2.2.2.2.2.2.2.1) (x.2.2.2.2.2.2.2.2.2.1) (x.2.2.2.2.2.2.2.2.2.2.1) (x.2.2.2.2.2.2.2.2.2.2.2.1) (x.2.2.2.2.2.2.2.2.2.2.2.2.1) (x.2.2.2.2.2.2.2.2.2.2.2.2.2.1) (x.2.2.2.2.2.2.2.2.2.2.2.2.2.2.1) (x.2.2.2.2.2.2.2.2.2.2.2.2.2.2.2) hx)


end Go.Proofs.Ytfmcohbagbafmaa
