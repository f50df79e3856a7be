/-
  The statement UtfReads holds: its loop over the characters.
-/
import Derived.Test.YtadpggfmogjddaaUtfL
set_option linter.unusedVariables false
set_option linter.unusedSimpArgs false
open Go Go.Am
namespace Go.Proofs.Ytadpggfmogjddaa

theorem plV_get (L : List (Nat × Int)) (j : Nat) (h : j < L.length) : (plV L).getD j undef = .int .i64 (L[j].1 : Int) := by
  simp [plV, List.getD_eq_getElem?_getD, h]
theorem rnV_get (L : List (Nat × Int)) (j : Nat) (h : j < L.length) : (rnV L).getD j undef = .int .i64 L[j].2 := by
  simp [rnV, List.getD_eq_getElem?_getD, h]
theorem sst_bd {n : Nat} {q : Q} {b : Int} (hq : q.1 = 0 ∨ CI n q) (h0 : 0 ≤ b) (h1 : b < 256) (h : (sst q b).1 = true) : 0 ≤ (sst q b).2.2.2.2 ∧ (sst q b).2.2.2.2 < 2147483648 := by
  rcases hq with hq | hq
  · obtain ⟨l, lo, hi, x⟩ := q
    dsimp only at hq
    subst hq
    have hb := first_byte b h0 h1
    rw [sst_start] at h ⊢
    rcases hb with ⟨q, hq, e1, e2⟩ | hb
    · rw [if_neg (by rw [e1]; omega)]
      dsimp only
      rw [e1]
      have := bg_cases h0 h1 hq
      omega
    · rw [if_pos hb] at h; cases h
  · obtain ⟨l, lo, hi, x⟩ := q
    unfold CI at hq
    dsimp only at hq
    obtain ⟨c1, c2, c3⟩ := cont_val (by omega) (by omega) (by omega) h0 h1 h
    rw [c3]
    dsimp only
    omega

theorem ureads_safe (s : ByteArray) (i j : Nat) (a b c d : Int) (fr : Int) : ureads_S1 s i a b c d fr j := by
  unfold ureads_S1
  by_cases hj : j < (chars s).length
  · have e1 := plV_get (chars s) j hj
    have e2 := rnV_get (chars s) j hj
    simp only [Nat.zero_add, Nat.mul_one, Int.toNat_natCast, e1, e2, plV_len, rnV_len, plV_flat, rnV_flat, isInt_int]
    simp [step_safe, hj]
    omega
  · have hj2 : decide (((chars s).length : Int) ≤ (j : Int)) = true := by simp; omega
    simp only [hj2, plV_flat, rnV_flat]
    simp [step_safe]
    intro h
    exact ⟨fun _ => h, fun _ => h⟩

set_option maxHeartbeats 2000000 in
theorem ureads_run (s : ByteArray) (hs : slen s ≤ 1000000) : ∀ (n i fr : Nat) (q : Q) (A : List (Nat × Int)), i + n = slen s → (q.1 = 0 ∨ CI (i - fr) q) → fr ≤ i → chars s = A ++ runesD q fr i ((toL s).drop i) → A.length ≤ i →
    AEnds E 4 0 (ureads_h1 s i q.1 q.2.1 q.2.2.1 q.2.2.2 fr A.length) (.bool true) []
  | 0, i, fr, q, A, hi, hq, hf, hc, hA => by
    have h := ureads_ok1 s i q.1 q.2.1 q.2.2.1 q.2.2.2 fr A.length (ureads_safe _ _ _ _ _ _ _ _)
    rw [show (toL s).drop i = [] from List.drop_eq_nil_of_le (by unfold slen at hi; omega), runesD, List.append_nil] at hc
    rw [show ureads_t1 s i q.1 q.2.1 q.2.2.1 q.2.2.2 fr A.length = .inr true by
      unfold ureads_t1; simp [show ¬ ((i : Int) < slen s) by omega, hc]] at h
    exact ureads_end h
  | n + 1, i, fr, q, A, hi, hq, hf, hc, hA => by
    have hl : i < (toL s).length := by unfold slen at hi; omega
    have hch : chr s i = ((toL s)[i].toNat : Int) := by simp [chr, List.getD_eq_getElem?_getD, hl]
    obtain ⟨u0, u1⟩ := u8_lt (toL s)[i]
    have h := ureads_ok1 s i q.1 q.2.1 q.2.2.1 q.2.2.2 fr A.length (ureads_safe _ _ _ _ _ _ _ _)
    have e0 : step_t0 q.1 q.2.1 q.2.2.1 q.2.2.2 0 false (chr s i) = sst q (toL s)[i].toNat := by rw [hch]; rfl
    unfold ureads_t1 at h
    rw [Int.toNat_natCast] at h
    simp only [e0, show decide ((i : Int) < slen s) = true by simp; omega, cond_true, Nat.zero_add, Nat.mul_one, Int.toNat_natCast] at h
    rw [List.drop_eq_getElem_cons hl, runesD] at hc
    clear hch e0
    generalize (toL s)[i] = b at h u0 u1 hc
    have hbd := fun hb => sst_bd hq u0 u1 hb
    have hst : q.1 = 0 → (sst q b.toNat).1 = true → (sst q b.toNat).2.1 = 0 ∨ CI 1 (sst q b.toNat).2 := by
      intro h0 hb
      obtain ⟨l, lo, hi, x⟩ := q
      dsimp only at h0
      subst h0
      rcases start_CI u0 u1 hb with ⟨g, _⟩ | g
      · exact .inl g
      · exact .inr g
    have hct : ∀ n, CI n q → (sst q b.toNat).1 = true → (sst q b.toNat).2.1 = 0 ∨ CI (n + 1) (sst q b.toNat).2 := by
      intro n h0 hb
      rcases cont_CI h0 u0 u1 hb with ⟨g, _⟩ | g
      · exact .inl g
      · exact .inr g
    generalize sst q b.toNat = r at h hc hbd hst hct
    cases hb : r.1 with
    | false =>
      simp only [hb, List.append_nil] at hc
      simp only [hb, Bool.not_false, cond_true, Bool.cond_self, hc, beq_self_eq_true] at h
      exact ureads_end h
    | true =>
      obtain ⟨b0, b1⟩ := hbd hb
      simp only [hb, Bool.not_true, cond_false] at h
      simp only [hb] at hc
      rw [wrap64_in (x := (i : Int) + 1) (by omega) (by omega), show (i : Int) + 1 = ((i + 1 : Nat) : Int) by omega] at h
      by_cases hz : r.2.1 = 0
      · simp only [hz, if_true, beq_self_eq_true, cond_true] at hc h
        have hlen : A.length < (chars s).length := by rw [hc]; simp
        have hget : (chars s)[A.length] = ((if q.1 = 0 then i else fr), r.2.2.2.2) := by simp [hc]
        rw [plV_get _ _ hlen, rnV_get _ _ hlen, hget, show decide (((chars s).length : Int) ≤ (A.length : Int)) = false by simp; omega] at h
        dsimp only [toInt] at h
        rw [wrap64_in (x := r.2.2.2.2) (by omega) (by omega), wrap64_in (x := (A.length : Int) + 1) (by omega) (by omega)] at h
        have hnext (f2 : Nat) (hf2 : f2 ≤ i) (hc2 : chars s = A ++ (f2, r.2.2.2.2) :: runesD r.2 f2 (i + 1) ((toL s).drop (i + 1))) := ureads_run s hs n (i + 1) f2 r.2 (A ++ [(f2, r.2.2.2.2)]) (by omega) (.inl hz) (by omega) (by simpa using hc2) (by simp; omega)
        have el (f2 : Nat) : (A.length : Int) + 1 = ((A ++ [(f2, r.2.2.2.2)]).length : Int) := by simp
        cases hq0 : (q.1 == 0) with
        | true =>
          have hq1 : q.1 = 0 := by simpa using hq0
          rw [if_pos hq1] at hc h
          simp only [hq0, cond_true, cond_false, bne_self_eq_false] at h
          rw [el i] at h
          have := hnext i (Nat.le_refl _) hc
          rw [hz] at this
          exact (ureads_go1 h).ends this
        | false =>
          have hq1 : ¬ q.1 = 0 := by simpa using hq0
          rw [if_neg hq1] at hc h
          simp only [hq0, cond_true, cond_false, bne_self_eq_false] at h
          rw [el fr] at h
          have := hnext fr hf hc
          rw [hz] at this
          exact (ureads_go1 h).ends this
      · have hz2 : (r.2.1 == 0) = false := by simpa using hz
        simp only [hz, if_false] at hc
        simp only [hz2, cond_false] at h
        cases hq0 : (q.1 == 0) with
        | true =>
          have hq1 : q.1 = 0 := by simpa using hq0
          rw [if_pos hq1] at hc
          simp only [hq0, cond_true] at h
          refine (ureads_go1 h).ends (ureads_run s hs n (i + 1) i r.2 A (by omega) ?_ (by omega) hc (by omega))
          rcases hst hq1 hb with g | g
          · exact .inl g
          · exact .inr (by rw [show i + 1 - i = 1 by omega]; exact g)
        | false =>
          have hq1 : ¬ q.1 = 0 := by simpa using hq0
          rw [if_neg hq1] at hc
          simp only [hq0, cond_false] at h
          refine (ureads_go1 h).ends (ureads_run s hs n (i + 1) fr r.2 A (by omega) ?_ (by omega) hc (by omega))
          rcases hq with g0 | g0
          · exact absurd g0 hq1
          · rcases hct _ g0 hb with g | g
            · exact .inl g
            · exact .inr (by rw [show i + 1 - fr = i - fr + 1 by omega]; exact g)

end Go.Proofs.Ytadpggfmogjddaa
