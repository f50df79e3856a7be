/-
  The document's own answer: all events of bytes, as a contract.
-/
import Derived.Test.YtfmcohbagbafmaaFramesG
import Derived.Test.YtfmcohbagbafmaaFramesI
set_option linter.unusedVariables false
set_option linter.unusedSimpArgs false
open Go Go.Am
namespace Go.Proofs.Ytfmcohbagbafmaa

def behind (s : ByteArray) : ByteArray := sub s (hN s).toNat (slen s)
def kOfS (s : ByteArray) : Nat := min (slen (behind s)) (hLen s).toNat
def evBegin (s : ByteArray) : Ev := ⟨1, chr s 0 % 16, decide (128 ≤ chr s 0), hLen s, ⟨#[]⟩⟩
def evPiece (s : ByteArray) : Ev := ⟨2, 0, false, 0, maskD [hKey s 0, hKey s 1, hKey s 2, hKey s 3] 0 (sub (behind s) 0 (kOfS s))⟩
def evEnd : Ev := ⟨3, 0, false, 0, ⟨#[]⟩⟩
def evFail : Ev := ⟨4, 0, false, 0, ⟨#[]⟩⟩
def evsOf (s : ByteArray) : List Ev := if kOfS s = 0 then [evBegin s] else [evBegin s, evPiece s]
/-- All events of bytes, whether the last one was a Fail, whether nothing is under way. -/
def allD (m : Bool) : Nat → ByteArray → List Ev → List Ev × Bool × Bool
  | 0, s, l => (l, false, false)
  | n + 1, s, l => bif !hOk s then (l, false, toL s == [])
    else bif !mayS m s then (l ++ [evFail], true, false)
    else bif decide ((kOfS s : Int) < hLen s) then (l ++ evsOf s, false, false)
    else allD m n (sub (behind s) (kOfS s) (slen (behind s))) (l ++ evsOf s ++ [evEnd])
theorem behind_len {s : ByteArray} (h : hOk s = true) : slen (behind s) = slen s - (hN s).toNat ∧ 2 ≤ (hN s).toNat ∧ (hN s).toNat ≤ slen s := by
  have n1 := hN_bd s
  have n3 := hOk_le h
  refine ⟨?_, by omega, by omega⟩
  unfold behind; rw [slen_sub]; omega

theorem rall_run (s0 : ByteArray) (m : Bool) : ∀ (n : Nat) (s : ByteArray) (l : List Ev), slen s < n → slen s ≤ 1000000 → l.length + 3 * n ≤ 10000000 →
    AEnds E 18 0 (rall_h1 s0 m s l.length (evsV l)) (.tuple #[.slice (some ⟨0, 0, none⟩) (allD m n s l).1.length 0, .bool (allD m n s l).2.1, .bool (allD m n s l).2.2]) [some (.cells (evsV (allD m n s l).1) 65 (some 5))]
  | 0, s, l, h, _, _ => absurd h (Nat.not_lt_zero _)
  | n + 1, s, l, hn, hs, hl => by
    have hc : rheadc_pre s := trivial
    have h := rall_ok1 s0 m s l.length (evsV l)
    unfold rall_S1 rall_t1 at h
    rw [allD]
    cases ho : hOk s with
    | false =>
      have e : rheadT s = (false, false, false, 0, 0, 0, 0, 0, 0, 0, 0, false) := by unfold rheadT; rw [ho]; rfl
      simp only [e, Bool.not_false, cond_true] at h ⊢
      have h2 := h (by simp [hc, evs_flat])
      exact rall_end h2
    | true =>
      obtain ⟨b1, b2, b3⟩ := behind_len ho
      have n2 := hLen_bd s
      have e : rheadT s = (decide (128 ≤ chr s 0), hMask s, hLeast s, chr s 0 / 16 % 8, chr s 0 % 16, hKey s 0, hKey s 1, hKey s 2, hKey s 3, hLen s, hN s, true) := by unfold rheadT; rw [ho]; rfl
      have hm : mayD m (decide (128 ≤ chr s 0)) (chr s 0 / 16 % 8) (chr s 0 % 16) (hMask s) (hLen s) (hLeast s) = mayS m s := rfl
      have p (a b c : Bool) (d e f g i j k : Int) (q : Bool) : rmayc_pre a b c d e f g i j k q := trivial
      have hel := evs_len l
      have f4 : ([Value.int IntKind.i64 4, Value.int IntKind.i64 0, Value.bool false, Value.int IntKind.i64 0, Value.string { data := #[] }] : List Value) = evsV [evFail] := rfl
      have f3 : ([Value.int IntKind.i64 3, Value.int IntKind.i64 0, Value.bool false, Value.int IntKind.i64 0, Value.string { data := #[] }] : List Value) = evsV [evEnd] := rfl
      simp only [e, hm, Bool.not_true, cond_false] at h ⊢
      cases hmm : mayS m s with
      | false =>
        simp only [hmm, Bool.not_false, cond_true, evs_take, f4, ← evs_append] at h ⊢
        have h2 := h (by simp [hc, p, evs_flat, hel]; omega)
        have hl2 : (l ++ [evFail]).length = l.length + 1 := by simp
        rw [hl2]
        exact rall_end h2
      | true =>
        have n4 := mayS_len hmm
        have hb : sub s (hN s).toNat (slen s) = behind s := rfl
        have w1 : IntKind.i64.wrap (hLen s) = hLen s := wrap64_in (by omega) (by omega)
        have w2 : IntKind.u64.wrap (hLen s) = hLen s := wrapU64 (by omega) (by omega)
        have w3 : IntKind.u64.wrap (slen (behind s) : Int) = slen (behind s) := wrapU64 (by omega) (by omega)
        have f1 : ([Value.int IntKind.i64 1, Value.int IntKind.i64 (chr s 0 % 16), Value.bool (decide (128 ≤ chr s 0)), Value.int IntKind.i64 (hLen s), Value.string { data := #[] }] : List Value) = evsV [evBegin s] := rfl
        simp only [hmm, hb, w1, w2, w3, Bool.not_true, cond_false, evs_take, f1, f3, ← evs_append, Int.toNat_natCast] at h ⊢
        have hl1 : (l ++ [evBegin s]).length = l.length + 1 := by simp
        have t1 : List.take ((l.length + 1) * 5) (List.drop 0 (evsV (l ++ [evBegin s]))) = evsV (l ++ [evBegin s]) := by rw [← hl1, evs_take]
        simp only [t1, ← evs_append] at h
        have ht0 : (hLen s).toNat = kOfS s ∨ ¬ (hLen s ≤ slen (behind s)) := by unfold kOfS; omega
        have f2 : ([Value.int IntKind.i64 2, Value.int IntKind.i64 0, Value.bool false, Value.int IntKind.i64 0, Value.string (maskD [hKey s 0, hKey s 1, hKey s 2, hKey s 3] 0 (sub (behind s) 0 (kOfS s)))] : List Value) = evsV [evPiece s] := rfl
        have hl2 : (l ++ [evBegin s] ++ [evPiece s]).length = l.length + 1 + 1 := by simp
        have t2 : List.take ((l.length + 1 + 1) * 5) (List.drop 0 (evsV (l ++ [evBegin s] ++ [evPiece s]))) = evsV (l ++ [evBegin s] ++ [evPiece s]) := by rw [← hl2, evs_take]
        have el1 := evs_len (l ++ [evBegin s])
        have el2 := evs_len (l ++ [evBegin s] ++ [evPiece s])
        have el3 : (evsV (l ++ [evBegin s, evPiece s])).length = (l.length + 2) * 5 := by rw [evs_len]; simp
        have pm (k : Nat) : rmask_pre (hKey s 0) (hKey s 1) (hKey s 2) (hKey s 3) 0 (sub (behind s) 0 k) := by
          unfold rmask_pre; rw [slen_sub]; omega
        by_cases c1 : hLen s ≤ slen (behind s)
        · have hk : (hLen s).toNat = kOfS s := by unfold kOfS; omega
          have d2 : decide (hLen s < hLen s) = false := by simp
          have d3 : decide ((kOfS s : Int) < hLen s) = false := by simp; omega
          rw [decide_eq_true c1, cond_true, d2, hk] at h
          rw [d3, cond_false]
          by_cases c2 : kOfS s = 0
          · have d1 : decide (0 < hLen s) = false := by simp; omega
            have hev : evsOf s = [evBegin s] := by unfold evsOf; rw [if_pos c2]
            rw [hev]
            rw [d1] at h
            simp only [cond_false] at h
            have h2 := h (by simp [hc, p, evs_flat, hel, el1, b1, c1, pm]; omega)
            have ih := rall_run s0 m n (sub (behind s) (kOfS s) (slen (behind s))) (l ++ [evBegin s] ++ [evEnd]) (by rw [slen_sub]; omega) (by rw [slen_sub]; omega) (by simp; omega)
            have hl3 : (l ++ [evBegin s] ++ [evEnd]).length = l.length + 1 + 1 := by simp
            rw [hl3] at ih
            exact (rall_go1 h2).ends ih
          · have d1 : decide (0 < hLen s) = true := by simp; omega
            have hev : evsOf s = [evBegin s, evPiece s] := by unfold evsOf; rw [if_neg c2]
            rw [hev, show l ++ [evBegin s, evPiece s] = l ++ [evBegin s] ++ [evPiece s] by simp]
            rw [d1] at h
            simp only [cond_true, cond_false, f2, ← evs_append, t2] at h
            have h2 := h (by simp [hc, p, evs_flat, hel, el1, el3, b1, c1, pm]; omega)
            have ih := rall_run s0 m n (sub (behind s) (kOfS s) (slen (behind s))) (l ++ [evBegin s] ++ [evPiece s] ++ [evEnd]) (by rw [slen_sub]; omega) (by rw [slen_sub]; omega) (by simp; omega)
            have hl3 : (l ++ [evBegin s] ++ [evPiece s] ++ [evEnd]).length = l.length + 1 + 1 + 1 := by simp
            rw [hl3] at ih
            exact (rall_go1 h2).ends ih
        · have hk : slen (behind s) = kOfS s := by unfold kOfS; omega
          have d2 : decide ((slen (behind s) : Int) < hLen s) = true := by simp; omega
          have d3 : decide ((kOfS s : Int) < hLen s) = true := by simp; omega
          rw [decide_eq_false c1, cond_false, d2] at h
          rw [d3, cond_true]
          by_cases c2 : kOfS s = 0
          · have d1 : decide (0 < (slen (behind s) : Int)) = false := by simp; omega
            have hev : evsOf s = [evBegin s] := by unfold evsOf; rw [if_pos c2]
            rw [hev]
            rw [d1] at h
            simp only [cond_true, cond_false] at h
            have h2 := h (by simp [hc, p, evs_flat, hel, el1, b1, c1, pm]; omega)
            rw [hl1]
            exact rall_end h2
          · have d1 : decide (0 < (slen (behind s) : Int)) = true := by simp; omega
            have hev : evsOf s = [evBegin s, evPiece s] := by unfold evsOf; rw [if_neg c2]
            rw [hev, show l ++ [evBegin s, evPiece s] = l ++ [evBegin s] ++ [evPiece s] by simp]
            rw [d1, hk] at h
            simp only [cond_true, cond_false, f2, ← evs_append, t2] at h
            have h2 := h (by simp [hc, p, evs_flat, hel, el1, el3, b1, c1, pm]; omega)
            rw [hl2]
            exact rall_end h2
end Go.Proofs.Ytfmcohbagbafmaa
