/-
  The statement UtfStops: its two loops.
-/
import Derived.Test.YtadpggfmogjddaaUtfR
set_option linter.unusedVariables false
set_option linter.unusedSimpArgs false
open Go Go.Am
namespace Go.Proofs.Ytadpggfmogjddaa

/-- The numbers of the characters from here. -/
def nums : Q → List UInt8 → List Int
  | q, [] => []
  | q, b :: r => bif (sst q b.toNat).1 then (bif (sst q b.toNat).2.1 == 0 then (sst q b.toNat).2.2.2.2 :: nums (sst q b.toNat).2 r else nums (sst q b.toNat).2 r) else []
def vs (A : List Int) : List Value := A.map (Value.int .i32)
theorem vs_len (A : List Int) : (vs A).length = A.length := by simp [vs]
theorem vs_flat (A : List Int) : (vs A).all flat = true := by simp [vs, flat]
theorem vs_take (A : List Int) : List.take (A.length * 1) (List.drop 0 (vs A)) = vs A := by
  rw [List.drop_zero, Nat.mul_one, List.take_of_length_le (by rw [vs_len]; exact Nat.le_refl _)]
theorem vs_snoc (A : List Int) (x : Int) : vs A ++ [Value.int .i32 x] = vs (A ++ [x]) := by simp [vs]
theorem vs_get (A : List Int) (i : Nat) (h : i < A.length) : (vs A).getD i undef = .int .i32 A[i] := by
  simp [vs, List.getD_eq_getElem?_getD, h]
theorem isInt_self (k : IntKind) (x : Int) : isInt k (.int k x) = true := by simp [isInt]

theorem stops_safe1 (s : ByteArray) (N : Int) (i : Nat) (a b c d t4 : Int) (A : List Int) (hA : A.length ≤ 1000000) : stops_S1 s N i A.length a b c d (vs A) t4 := by
  unfold stops_S1
  rw [vs_take, vs_snoc, vs_flat, vs_flat, vs_len]
  simp [step_safe]
  omega
theorem stops_safe2 (s : ByteArray) (N : Int) (A : List Int) (i : Nat) (a b c d t4 : Int) (k : Nat) : stops_S2 s N A.length (vs A) i a b c d t4 k := by
  unfold stops_S2
  rw [vs_flat]
  by_cases hk : k < A.length
  · simp only [Nat.zero_add, Nat.mul_one, Int.toNat_natCast]
    rw [vs_get A k hk, isInt_self, vs_len]
    simp +contextual [step_safe, hk]
  · have : decide ((A.length : Int) ≤ (k : Int)) = true := by simp; omega
    simp only [this]
    simp +contextual [step_safe]

theorem stops_loop1 (s : ByteArray) (N : Int) (full : List Int) (hs : slen s ≤ 5000) : ∀ (n i : Nat) (q : Q) (A : List Int) (t4 : Int), i + n = slen s → A ++ nums q ((toL s).drop i) = full → A.length ≤ i →
    Gets E 0 (stops_h1 s N i A.length q.1 q.2.1 q.2.2.1 q.2.2.2 (vs A) t4) (stops_h2 s N full.length (vs full) 0 0 0 0 0 0 0)
  | 0, i, q, A, t4, hi, hf, hA => by
    have h := stops_ok1 s N i A.length q.1 q.2.1 q.2.2.1 q.2.2.2 (vs A) t4 (stops_safe1 _ _ _ _ _ _ _ _ _ (by omega))
    unfold stops_t1 at h
    rw [show decide ((i : Int) < (slen s : Int)) = false by simp; omega] at h
    rw [show (toL s).drop i = [] from List.drop_eq_nil_of_le (by unfold slen at hi; omega), nums, List.append_nil] at hf
    subst hf
    exact stops_go2 h
  | n + 1, i, q, A, t4, hi, hf, hA => by
    have hl : i < (toL s).length := by unfold slen at hi; omega
    have hch : chr s i = ((toL s)[i].toNat : Int) := by simp [chr, List.getD_eq_getElem?_getD, hl]
    have h := stops_ok1 s N i A.length q.1 q.2.1 q.2.2.1 q.2.2.2 (vs A) t4 (stops_safe1 _ _ _ _ _ _ _ _ _ (by omega))
    have e0 : step_t0 q.1 q.2.1 q.2.2.1 q.2.2.2 0 false (chr s i) = sst q (toL s)[i].toNat := by rw [hch]; rfl
    unfold stops_t1 at h
    rw [Int.toNat_natCast, vs_take] at h
    simp only [e0, show decide ((i : Int) < (slen s : Int)) = true by simp; omega, cond_true, vs_snoc] at h
    rw [List.drop_eq_getElem_cons hl, nums] at hf
    clear hch e0
    generalize (toL s)[i] = b at h hf
    rw [wrap64_in (x := (i : Int) + 1) (by omega) (by omega), show (i : Int) + 1 = ((i + 1 : Nat) : Int) by omega] at h
    generalize sst q b.toNat = r at h hf
    have next (A' : List Int) (t : Int) (h1 : A' ++ nums r.2 ((toL s).drop (i + 1)) = full) (h2 : A'.length ≤ i + 1) := stops_loop1 s N full hs n (i + 1) r.2 A' t (by omega) h1 h2
    cases hb : r.1 with
    | false =>
      simp only [hb, cond_false, List.append_nil] at hf
      subst hf
      simp only [hb, Bool.not_false, cond_true, Bool.cond_self] at h
      exact stops_go2 h
    | true =>
      simp only [hb, cond_true] at hf
      simp only [hb, Bool.not_true, cond_false] at h
      cases hz : (r.2.1 == 0) with
      | true =>
        simp only [hz, cond_true] at hf h
        cases hq : (q.1 == 0) <;> simp only [hq, cond_true, cond_false] at h
        · exact (stops_go1 h).trans (by have := next (A ++ [r.2.2.2.2]) t4 (by simpa using hf) (by simp; omega); rwa [List.length_append] at this)
        · exact (stops_go1 h).trans (by have := next (A ++ [r.2.2.2.2]) i (by simpa using hf) (by simp; omega); rwa [List.length_append] at this)
      | false =>
        simp only [hz, cond_false] at hf h
        cases hq : (q.1 == 0) <;> simp only [hq, cond_true, cond_false] at h
        · exact (stops_go1 h).trans (next A t4 hf (by omega))
        · exact (stops_go1 h).trans (next A i hf (by omega))

theorem stops_loop2 (s : ByteArray) (N : Nat) (full : List Int) (hN : N < 256) (hs : slen s ≤ 5000) : ∀ (n i : Nat) (q : Q) (A : List Int) (t4 : Int), i + n = slen s → A ++ nums q ((toL s).drop i) = full → A.length ≤ N →
    AEnds E 9 0 (stops_h2 s N full.length (vs full) i q.1 q.2.1 q.2.2.1 q.2.2.2 t4 A.length) (.bool true) []
  | 0, i, q, A, t4, hi, hf, hA => by
    have h := stops_ok2 s N full.length (vs full) i q.1 q.2.1 q.2.2.1 q.2.2.2 t4 A.length (stops_safe2 _ _ _ _ _ _ _ _ _ _)
    unfold stops_t2 at h
    rw [show decide ((i : Int) < (slen s : Int)) = false by simp; omega, wrap64_in (x := (N : Int)) (by omega) (by omega)] at h
    rw [show (toL s).drop i = [] from List.drop_eq_nil_of_le (by unfold slen at hi; omega), nums, List.append_nil] at hf
    subst hf
    have e : ((A.length : Int) == bif decide ((A.length : Int) < (N : Int)) then (A.length : Int) else (N : Int)) = true := by
      simp only [Bool.cond_decide, beq_iff_eq]; split <;> omega
    rw [e] at h
    exact stops_end h
  | n + 1, i, q, A, t4, hi, hf, hA => by
    have hl : i < (toL s).length := by unfold slen at hi; omega
    have hch : chr s i = ((toL s)[i].toNat : Int) := by simp [chr, List.getD_eq_getElem?_getD, hl]
    have h := stops_ok2 s N full.length (vs full) i q.1 q.2.1 q.2.2.1 q.2.2.2 t4 A.length (stops_safe2 _ _ _ _ _ _ _ _ _ _)
    have e0 : step_t0 q.1 q.2.1 q.2.2.1 q.2.2.2 0 false (chr s i) = sst q (toL s)[i].toNat := by rw [hch]; rfl
    unfold stops_t2 at h
    rw [Int.toNat_natCast, Int.toNat_natCast, wrap64_in (x := (N : Int)) (by omega) (by omega)] at h
    simp only [e0, show decide ((i : Int) < (slen s : Int)) = true by simp; omega, cond_true] at h
    rw [List.drop_eq_getElem_cons hl, nums] at hf
    clear hch e0
    generalize (toL s)[i] = b at h hf
    rw [wrap64_in (x := (i : Int) + 1) (by omega) (by omega), show (i : Int) + 1 = ((i + 1 : Nat) : Int) by omega, wrap64_in (x := (A.length : Int) + 1) (by omega) (by omega), Nat.zero_add, Nat.mul_one] at h
    generalize sst q b.toNat = r at h hf
    have next (A' : List Int) (t : Int) (h1 : A' ++ nums r.2 ((toL s).drop (i + 1)) = full) (h2 : A'.length ≤ N) := stops_loop2 s N full hN hs n (i + 1) r.2 A' t (by omega) h1 h2
    cases hb : r.1 with
    | false =>
      simp only [hb, cond_false, List.append_nil] at hf
      subst hf
      have e : ((A.length : Int) == bif decide ((A.length : Int) < (N : Int)) then (A.length : Int) else (N : Int)) = true := by
        simp only [Bool.cond_decide, beq_iff_eq]; split <;> omega
      simp only [hb, Bool.not_false, cond_true, Bool.cond_self, e] at h
      exact stops_end h
    | true =>
      simp only [hb, cond_true] at hf
      simp only [hb, Bool.not_true, cond_false] at h
      cases hz : (r.2.1 == 0) with
      | true =>
        simp only [hz, cond_true] at hf h
        have hlen : A.length < full.length := by rw [← hf]; simp
        have hget : full[A.length] = r.2.2.2.2 := by simp [← hf]
        rw [vs_get full A.length hlen, hget] at h
        cases hn : ((A.length : Int) == (N : Int)) with
        | true =>
          have e : ((A.length : Int) == bif decide ((full.length : Int) < (N : Int)) then (full.length : Int) else (N : Int)) = true := by
            have : (A.length : Int) = (N : Int) := by simpa using hn
            simp only [Bool.cond_decide, beq_iff_eq]; split <;> omega
          simp only [hn, cond_true, Bool.cond_self, e] at h
          exact stops_end h
        | false =>
          have hn2 : ¬ (A.length : Int) = (N : Int) := by simpa using hn
          simp only [hn, cond_false, show decide ((full.length : Int) ≤ (A.length : Int)) = false by simp; omega, toInt, bne_self_eq_false] at h
          cases hq : (q.1 == 0) <;> simp only [hq, cond_true, cond_false] at h
          · exact (stops_go2 h).ends (by have := next (A ++ [r.2.2.2.2]) t4 (by simpa using hf) (by simp; omega); rw [List.length_append] at this; exact this)
          · exact (stops_go2 h).ends (by have := next (A ++ [r.2.2.2.2]) i (by simpa using hf) (by simp; omega); rw [List.length_append] at this; exact this)
      | false =>
        simp only [hz, cond_false] at hf h
        cases hq : (q.1 == 0) <;> simp only [hq, cond_true, cond_false] at h
        · exact (stops_go2 h).ends (next A t4 hf (by omega))
        · exact (stops_go2 h).ends (next A i hf (by omega))

end Go.Proofs.Ytadpggfmogjddaa
