/-
  All that a reader tells, pieces that follow one another as one: as a contract.
-/
import Derived.Test.YtfmcohbagbafmaaFramesE
import Derived.Test.YtfmcohbagbafmaaFramesH
set_option linter.unusedVariables false
set_option linter.unusedSimpArgs false
open Go Go.Am
namespace Go.Proofs.Ytfmcohbagbafmaa

def rEv (r : rstep_R) : Ev := ⟨r.1, r.2.1, r.2.2.1, r.2.2.2.1, r.2.2.2.2.1⟩
def addE (l : List Ev) (e : Ev) : List Ev :=
  match l.getLast? with
  | some p => if e.k = 2 ∧ p.k = 2 then l.dropLast ++ [{ p with text := cat p.text e.text }] else l ++ [e]
  | none => l ++ [e]
def tell (m : Bool) : Nat → RX → List Ev → List Ev × RX
  | 0, x, l => (l, x)
  | n + 1, x, l => bif rOk (stepT m x) then tell m n (rx (stepT m x)) (addE l (rEv (stepT m x))) else (l, rx (stepT m x))
def rdV (m : Bool) (x : RX) : List Value :=
  [.bool m, .int .i64 x.1, .string x.2.1, .bool x.2.2.1, .int .i64 x.2.2.2.1, .int .i64 x.2.2.2.2.1, .bool x.2.2.2.2.2.1, .int .u8 x.2.2.2.2.2.2.1, .int .u8 x.2.2.2.2.2.2.2.1, .int .u8 x.2.2.2.2.2.2.2.2.1, .int .u8 x.2.2.2.2.2.2.2.2.2.1, .int .u64 x.2.2.2.2.2.2.2.2.2.2.1, .bool x.2.2.2.2.2.2.2.2.2.2.2.1, .int .i64 x.2.2.2.2.2.2.2.2.2.2.2.2]
theorem evs_append (l m : List Ev) : evsV (l ++ m) = evsV l ++ evsV m := by simp [evsV]
theorem evs_one (e : Ev) : evsV [e] = evV e := by simp [evsV]
theorem evs_len (l : List Ev) : (evsV l).length = l.length * 5 := by
  induction l with
  | nil => rfl
  | cons e r ih =>
    have : evsV (e :: r) = evV e ++ evsV r := rfl
    rw [this, List.length_append, ih, List.length_cons]
    show 5 + _ = _
    omega
theorem evs_flat (l : List Ev) : (evsV l).all flat = true := by
  induction l with
  | nil => rfl
  | cons e r ih =>
    have : evsV (e :: r) = evV e ++ evsV r := rfl
    rw [this, List.all_append, ih]
    rfl
theorem evs_take (l : List Ev) : List.take (l.length * 5) (List.drop 0 (evsV l)) = evsV l := by
  rw [List.drop_zero, List.take_of_length_le (by rw [evs_len]; exact Nat.le_refl _)]
theorem evs_get (l : List Ev) (p : Ev) (j : Nat) : (evsV (l ++ [p])).getD (l.length * 5 + j) undef = (evV p).getD j undef := by
  rw [evs_append, evs_one, List.getD_eq_getElem?_getD, List.getElem?_append_right (by rw [evs_len]; omega), evs_len, Nat.add_sub_cancel_left, List.getD_eq_getElem?_getD]
theorem evs_set (l : List Ev) (p : Ev) (t : ByteArray) : setN (evsV (l ++ [p])) (l.length * 5 + 4) [.string t] = evsV (l ++ [{ p with text := t }]) := by
  rw [evs_append, evs_append, evs_one, evs_one]
  show (evsV l ++ evV p).set (l.length * 5 + 4) (.string t) = _
  rw [List.set_append_right _ _ (by rw [evs_len]; omega), evs_len, Nat.add_sub_cancel_left]
  rfl
theorem step_text {m : Bool} {x : RX} (h : Inv x) (hok : rOk (stepT m x) = true) : slen (rEv (stepT m x)).text + slen (xIn (rx (stepT m x))) ≤ slen (xIn x) := by
  obtain ⟨h1, h2⟩ := h
  rcases h1 with h1 | h1 | ⟨h1, t0, t1, t2⟩
  · rw [stepT_2 h1] at hok; cases hok
  · rw [stepT_0 h1] at hok ⊢
    cases ho : hOk (xIn x) with
    | false => rw [ho] at hok; cases hok
    | true =>
      have n1 := hN_bd (xIn x)
      cases hmm : mayS m (xIn x) with
      | false => show 0 + 0 ≤ _; omega
      | true =>
        show 0 + slen (sub (xIn x) (hN (xIn x)).toNat (slen (xIn x))) ≤ _
        rw [slen_sub]; omega
  · by_cases c1 : xHl x = xTold x
    · rw [stepT_e h1 c1]
      show 0 + slen (xIn x) ≤ _
      omega
    · by_cases c2 : slen (xIn x) = 0
      · rw [stepT_n h1 c1 c2] at hok; cases hok
      · rw [stepT_p h1 c1 c2]
        have hn : nOf x ≤ slen (xIn x) := by unfold nOf; omega
        show slen (maskD (xKey x) (xTold x) (sub (xIn x) 0 (nOf x))) + slen (sub (xIn x) (nOf x) (slen (xIn x))) ≤ _
        have hm : slen (maskD (xKey x) (xTold x) (sub (xIn x) 0 (nOf x))) = slen (sub (xIn x) 0 (nOf x)) := by
          unfold maskD
          cases decide (xTold x < 0)
          · rw [cond_false, slen_ofL, maskL_len]; rfl
          · rfl
        rw [hm, slen_sub, slen_sub]
        omega

/-- Where the walk over all that is told stands. -/
noncomputable def thd (m : Bool) (P : RX) (r : rstep_R) (l : List Ev) : Cfg :=
  toldn_h1 m P.1 P.2.1 P.2.2.1 P.2.2.2.1 P.2.2.2.2.1 P.2.2.2.2.2.1 P.2.2.2.2.2.2.1 P.2.2.2.2.2.2.2.1 P.2.2.2.2.2.2.2.2.1 P.2.2.2.2.2.2.2.2.2.1 P.2.2.2.2.2.2.2.2.2.2.1 P.2.2.2.2.2.2.2.2.2.2.2.1 P.2.2.2.2.2.2.2.2.2.2.2.2
    r.2.2.2.2.2.1 r.2.2.2.2.2.2.1 r.2.2.2.2.2.2.2.1 r.2.2.2.2.2.2.2.2.1 r.2.2.2.2.2.2.2.2.2.1 r.2.2.2.2.2.2.2.2.2.2.1 r.2.2.2.2.2.2.2.2.2.2.2.1 r.2.2.2.2.2.2.2.2.2.2.2.2.1 r.2.2.2.2.2.2.2.2.2.2.2.2.2.1 r.2.2.2.2.2.2.2.2.2.2.2.2.2.2.1 r.2.2.2.2.2.2.2.2.2.2.2.2.2.2.2.1 r.2.2.2.2.2.2.2.2.2.2.2.2.2.2.2.2.1 r.2.2.2.2.2.2.2.2.2.2.2.2.2.2.2.2.2.1 r.2.2.2.2.2.2.2.2.2.2.2.2.2.2.2.2.2.2
    l.length r.1 r.2.1 r.2.2.1 r.2.2.2.1 r.2.2.2.2.1 (evsV l)
theorem told_run (m : Bool) (P : RX) : ∀ (n : Nat) (x : RX) (l : List Ev), Inv x → mu x < n → l.length + n ≤ 10000000 → (∀ p ∈ l, slen p.text + slen (xIn x) ≤ 4000000) →
    AEnds E 15 1 (thd m P (stp m x) l) (.slice (some ⟨1, 0, none⟩) (tell m n x l).1.length 0) [some (.cells (rdV m (tell m n x l).2) 48 none), some (.cells (evsV (tell m n x l).1) 30 (some 5))]
  | 0, x, l, _, h, _, _ => absurd h (Nat.not_lt_zero _)
  | n + 1, x, l, hI, hn, hl, ht => by
    obtain ⟨hS, hT⟩ := step_val m x hI
    rw [hT, tell]
    cases hok : rOk (stepT m x) with
    | false =>
      have hok' : (stepT m x).2.2.2.2.2.1 = false := hok
      generalize stepT m x = r at hok' ⊢
      have h := toldn_ok1 m P.1 P.2.1 P.2.2.1 P.2.2.2.1 P.2.2.2.2.1 P.2.2.2.2.2.1 P.2.2.2.2.2.2.1 P.2.2.2.2.2.2.2.1 P.2.2.2.2.2.2.2.2.1 P.2.2.2.2.2.2.2.2.2.1 P.2.2.2.2.2.2.2.2.2.2.1 P.2.2.2.2.2.2.2.2.2.2.2.1 P.2.2.2.2.2.2.2.2.2.2.2.2
        r.2.2.2.2.2.1 r.2.2.2.2.2.2.1 r.2.2.2.2.2.2.2.1 r.2.2.2.2.2.2.2.2.1 r.2.2.2.2.2.2.2.2.2.1 r.2.2.2.2.2.2.2.2.2.2.1 r.2.2.2.2.2.2.2.2.2.2.2.1 r.2.2.2.2.2.2.2.2.2.2.2.2.1 r.2.2.2.2.2.2.2.2.2.2.2.2.2.1 r.2.2.2.2.2.2.2.2.2.2.2.2.2.2.1 r.2.2.2.2.2.2.2.2.2.2.2.2.2.2.2.1 r.2.2.2.2.2.2.2.2.2.2.2.2.2.2.2.2.1 r.2.2.2.2.2.2.2.2.2.2.2.2.2.2.2.2.2.1 r.2.2.2.2.2.2.2.2.2.2.2.2.2.2.2.2.2.2
        l.length r.1 r.2.1 r.2.2.1 r.2.2.2.1 r.2.2.2.2.1 (evsV l) (by unfold toldn_S1; rw [hok']; exact ⟨(fun h => by cases h), fun _ => evs_flat l⟩)
      unfold toldn_t1 at h
      rw [hok', cond_false] at h
      rw [cond_false]
      have h2 := toldn_end h
      unfold thd
      rw [hok']
      exact h2
    | true =>
      have hx := step_text hI hok
      obtain ⟨hI', hmu⟩ := step_inv (m := m) hI hok
      obtain ⟨hS', hT'⟩ := step_val m (rx (stepT m x)) hI'
      have hok' : (stepT m x).2.2.2.2.2.1 = true := hok
      rw [cond_true]
      -- what is written further
      have hadd : (addE l (rEv (stepT m x))).length ≤ l.length + 1 := by
        unfold addE
        split
        · split
          · rw [List.length_append, List.length_dropLast]; simp
          · simp
        · simp
      have htx : ∀ p ∈ addE l (rEv (stepT m x)), slen p.text + slen (xIn (rx (stepT m x))) ≤ 4000000 := by
        have h2 := hI.len
        intro p hp
        unfold addE at hp
        split at hp
        · rename_i q hq
          have hql := List.mem_of_getLast? hq
          split at hp
          · rw [List.mem_append] at hp
            rcases hp with hp | hp
            · have := ht p ((List.dropLast_sublist l).subset hp); omega
            · simp at hp
              subst hp
              have := ht q hql
              show slen (cat q.text (rEv (stepT m x)).text) + _ ≤ _
              have e : slen (cat q.text (rEv (stepT m x)).text) = slen q.text + slen (rEv (stepT m x)).text := by simp [slen, cat, toL, ofL]
              omega
          · rw [List.mem_append] at hp
            rcases hp with hp | hp
            · have := ht p hp; omega
            · simp at hp; subst hp; omega
        · rw [List.mem_append] at hp
          rcases hp with hp | hp
          · have := ht p hp; omega
          · simp at hp; subst hp; omega
      have ih := told_run m P n (rx (stepT m x)) (addE l (rEv (stepT m x))) hI' (by omega) (by omega) htx
      refine Gets.ends ?_ ih
      have hS1 : rstep_S0 m (rx (stepT m x)).1 (rx (stepT m x)).2.1 (rx (stepT m x)).2.2.1 (rx (stepT m x)).2.2.2.1 (rx (stepT m x)).2.2.2.2.1 (rx (stepT m x)).2.2.2.2.2.1 (rx (stepT m x)).2.2.2.2.2.2.1 (rx (stepT m x)).2.2.2.2.2.2.2.1 (rx (stepT m x)).2.2.2.2.2.2.2.2.1 (rx (stepT m x)).2.2.2.2.2.2.2.2.2.1 (rx (stepT m x)).2.2.2.2.2.2.2.2.2.2.1 (rx (stepT m x)).2.2.2.2.2.2.2.2.2.2.2.1 (rx (stepT m x)).2.2.2.2.2.2.2.2.2.2.2.2 := hS'
      have hst : rstep_t0 m (rx (stepT m x)).1 (rx (stepT m x)).2.1 (rx (stepT m x)).2.2.1 (rx (stepT m x)).2.2.2.1 (rx (stepT m x)).2.2.2.2.1 (rx (stepT m x)).2.2.2.2.2.1 (rx (stepT m x)).2.2.2.2.2.2.1 (rx (stepT m x)).2.2.2.2.2.2.2.1 (rx (stepT m x)).2.2.2.2.2.2.2.2.1 (rx (stepT m x)).2.2.2.2.2.2.2.2.2.1 (rx (stepT m x)).2.2.2.2.2.2.2.2.2.2.1 (rx (stepT m x)).2.2.2.2.2.2.2.2.2.2.2.1 (rx (stepT m x)).2.2.2.2.2.2.2.2.2.2.2.2 = stp m (rx (stepT m x)) := rfl
      generalize hr' : stp m (rx (stepT m x)) = r' at *
      have hb : ∀ p ∈ l, slen p.text + slen (rEv (stepT m x)).text ≤ 9223372036854775807 := fun p hp => by have := ht p hp; omega
      clear htx hadd ih hx hT hT' hS hS' hI' hmu hI
      generalize stepT m x = r at *
      unfold rx at hS1 hst
      have h := toldn_ok1 m P.1 P.2.1 P.2.2.1 P.2.2.2.1 P.2.2.2.2.1 P.2.2.2.2.2.1 P.2.2.2.2.2.2.1 P.2.2.2.2.2.2.2.1 P.2.2.2.2.2.2.2.2.1 P.2.2.2.2.2.2.2.2.2.1 P.2.2.2.2.2.2.2.2.2.2.1 P.2.2.2.2.2.2.2.2.2.2.2.1 P.2.2.2.2.2.2.2.2.2.2.2.2
        r.2.2.2.2.2.1 r.2.2.2.2.2.2.1 r.2.2.2.2.2.2.2.1 r.2.2.2.2.2.2.2.2.1 r.2.2.2.2.2.2.2.2.2.1 r.2.2.2.2.2.2.2.2.2.2.1 r.2.2.2.2.2.2.2.2.2.2.2.1 r.2.2.2.2.2.2.2.2.2.2.2.2.1 r.2.2.2.2.2.2.2.2.2.2.2.2.2.1 r.2.2.2.2.2.2.2.2.2.2.2.2.2.2.1 r.2.2.2.2.2.2.2.2.2.2.2.2.2.2.2.1 r.2.2.2.2.2.2.2.2.2.2.2.2.2.2.2.2.1 r.2.2.2.2.2.2.2.2.2.2.2.2.2.2.2.2.2.1 r.2.2.2.2.2.2.2.2.2.2.2.2.2.2.2.2.2.2
        l.length r.1 r.2.1 r.2.2.1 r.2.2.2.1 r.2.2.2.2.1 (evsV l)
      have hv : ([Value.int IntKind.i64 r.1, Value.int IntKind.i64 r.2.1, Value.bool r.2.2.1, Value.int IntKind.i64 r.2.2.2.1, Value.string r.2.2.2.2.1] : List Value) = evsV [rEv r] := rfl
      rw [hok'] at h
      have hthd : thd m P r l = toldn_h1 m P.1 P.2.1 P.2.2.1 P.2.2.2.1 P.2.2.2.2.1 P.2.2.2.2.2.1 P.2.2.2.2.2.2.1 P.2.2.2.2.2.2.2.1 P.2.2.2.2.2.2.2.2.1 P.2.2.2.2.2.2.2.2.2.1 P.2.2.2.2.2.2.2.2.2.2.1 P.2.2.2.2.2.2.2.2.2.2.2.1 P.2.2.2.2.2.2.2.2.2.2.2.2
        true r.2.2.2.2.2.2.1 r.2.2.2.2.2.2.2.1 r.2.2.2.2.2.2.2.2.1 r.2.2.2.2.2.2.2.2.2.1 r.2.2.2.2.2.2.2.2.2.2.1 r.2.2.2.2.2.2.2.2.2.2.2.1 r.2.2.2.2.2.2.2.2.2.2.2.2.1 r.2.2.2.2.2.2.2.2.2.2.2.2.2.1 r.2.2.2.2.2.2.2.2.2.2.2.2.2.2.1 r.2.2.2.2.2.2.2.2.2.2.2.2.2.2.2.1 r.2.2.2.2.2.2.2.2.2.2.2.2.2.2.2.2.1 r.2.2.2.2.2.2.2.2.2.2.2.2.2.2.2.2.2.1 r.2.2.2.2.2.2.2.2.2.2.2.2.2.2.2.2.2.2
        l.length r.1 r.2.1 r.2.2.1 r.2.2.2.1 r.2.2.2.2.1 (evsV l) := by unfold thd; rw [hok']
      rw [hthd]
      unfold toldn_S1 toldn_t1 at h
      simp only [hst, cond_true, Nat.zero_add, evs_take, hv, ← evs_append] at h
      rcases l.eq_nil_or_concat with rfl | ⟨l', p, rfl⟩
      · -- nothing yet
        have ha : addE [] (rEv r) = [rEv r] := rfl
        rw [ha]
        have hk : (decide ((0 : Int) < ((([] : List Ev).length : Nat) : Int))) = false := by decide
        simp only [hk, cond_false, Bool.cond_self] at h
        have h2 := h (by
          simp [hS1, evs_flat, evs_len])
        exact toldn_go1 h2
      · rw [List.concat_eq_append] at *
        have hlen : (l' ++ [p]).length = l'.length + 1 := by simp
        have hw : (IntKind.i64.wrap ((((l' ++ [p]).length : Nat) : Int) - 1)).toNat = l'.length := by rw [wrap64_in (by omega) (by omega)]; omega
        have hw2 : IntKind.i64.wrap ((((l' ++ [p]).length : Nat) : Int) - 1) = l'.length := by rw [wrap64_in (by omega) (by omega)]; omega
        have hk : (decide ((0 : Int) < (((l' ++ [p]).length : Nat) : Int))) = true := decide_eq_true (by omega)
        have g0 : (evsV (l' ++ [p])).getD (l'.length * 5 + 0) undef = .int .i64 p.k := evs_get l' p 0
        have g4 : (evsV (l' ++ [p])).getD (l'.length * 5 + 4) undef = .string p.text := evs_get l' p 4
        have hbp := hb p (by simp)
        simp only [hk, hw2, Int.toNat_natCast, cond_true] at h
        simp only [g0, g4, toInt, toStr, evs_set] at h
        have hgl : (l' ++ [p]).getLast? = some p := by simp
        have hdl : (l' ++ [p]).dropLast = l' := by simp
        have hflat := evs_flat
        have hel := evs_len (l' ++ [p])
        have e1 : slen (cat p.text (rEv r).text) = slen p.text + slen (rEv r).text := by simp [slen, cat, toL, ofL]
        by_cases ck : r.1 = 2
        · have c1 : (r.1 == 2) = true := by simpa using ck
          by_cases cp : p.k = 2
          · have c2 : (p.k == 2) = true := by simpa using cp
            have ha : addE (l' ++ [p]) (rEv r) = l' ++ [{ p with text := cat p.text r.2.2.2.2.1 }] := by
              unfold addE; rw [hgl]; dsimp only; rw [if_pos ⟨ck, cp⟩, hdl]; rfl
            rw [ha]
            simp only [c1, c2, cond_true] at h
            have h2 := h (by
              have : slen p.text + slen r.2.2.2.2.1 ≤ 9223372036854775807 := hbp
              simp [hS1, evs_flat, hel, hlen, isInt, isStr, this]; omega)
            have hl2 : (l' ++ [{ p with text := cat p.text r.2.2.2.2.1 }]).length = (l' ++ [p]).length := by simp
            unfold thd
            rw [hl2]
            exact toldn_go1 h2
          · have c2 : (p.k == 2) = false := by simpa using cp
            have ha : addE (l' ++ [p]) (rEv r) = (l' ++ [p]) ++ [rEv r] := by
              unfold addE; rw [hgl]; dsimp only; rw [if_neg (fun hh => cp hh.2)]
            rw [ha]
            simp only [c1, c2, cond_true, cond_false] at h
            have h2 := h (by simp [hS1, evs_flat, hel, hlen, isInt]; omega)
            have hl2 : ((l' ++ [p]) ++ [rEv r]).length = (l' ++ [p]).length + 1 := by simp
            unfold thd
            rw [hl2]
            exact toldn_go1 h2
        · have c1 : (r.1 == 2) = false := by simpa using ck
          have ha : addE (l' ++ [p]) (rEv r) = (l' ++ [p]) ++ [rEv r] := by
            unfold addE; rw [hgl]; dsimp only; rw [if_neg (fun hh => ck hh.1)]
          rw [ha]
          simp only [c1, cond_false] at h
          have h2 := h (by simp [hS1, evs_flat, hel, hlen]; omega)
          have hl2 : ((l' ++ [p]) ++ [rEv r]).length = (l' ++ [p]).length + 1 := by simp
          unfold thd
          rw [hl2]
          exact toldn_go1 h2
end Go.Proofs.Ytfmcohbagbafmaa
