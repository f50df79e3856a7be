/-
  The statement UtfPieces: its loop.
-/
import Derived.Test.YtadpggfmogjddaaUtfN
import Derived.Test.YtadpggfmogjddaaUtfO
set_option linter.unusedVariables false
set_option linter.unusedSimpArgs false
open Go Go.Am
namespace Go.Proofs.Ytadpggfmogjddaa
theorem feedL_le (l : List UInt8) (q : Q) (at' : Int) (bad : Bool) : at' ≤ (feedL q at' bad l).2.1 ∧ (feedL q at' bad l).2.1 ≤ at' + l.length := by
  cases bad with
  | true => rw [feedL_bad]; constructor <;> simp <;> omega
  | false => have := feedL_at l q at'; exact ⟨this.1, this.2.1⟩
theorem cut_mod (c : Int) (n : Nat) (h0 : 0 ≤ c) (h1 : c < 256) (hn : n ≤ 1000000) : (IntKind.i64.wrap c).tmod (IntKind.i64.wrap ((n : Int) + 1)) = ((c.toNat % (n + 1) : Nat) : Int) := by
  rw [wrap64_in (by omega) (by omega), wrap64_in (by omega) (by omega), Int.tmod_eq_emod_of_nonneg h0, Int.natCast_emod, Int.toNat_of_nonneg h0]
  rfl
theorem u8get (cuts : List Int) (i : Nat) (h : i < cuts.length) : (List.map (Value.int IntKind.u8) cuts).getD i undef = .int .u8 cuts[i] := by
  simp [List.getD_eq_getElem?_getD, h]
theorem pieces_run (s behind : ByteArray) (cuts : List Int) (hs : slen s ≤ 5000) (hc : cuts.length ≤ 200) (hb0 : slen behind ≤ 300) (hcut : ∀ c ∈ cuts, 0 ≤ c ∧ c < 256) : ∀ (n i : Nat) (rest : ByteArray) (q : Q) (at' : Int) (bad : Bool), i + n = cuts.length →
    feedL q at' bad (toL rest) = feedL (0, 0, 0, 0) 0 false (toL s) → 0 ≤ at' → at' + slen rest ≤ 5000 →
    AEnds E 7 0 (pieces_h1 s cuts behind rest i q.1 q.2.1 q.2.2.1 q.2.2.2 at' bad) (.bool true) []
  | 0, i, rest, q, at', bad, hi, hf, h0, h1 => by
    obtain ⟨a1, a2, a3⟩ := feedL_at (toL s) (0, 0, 0, 0) 0
    have hw := wholeD_feed (toL s) (0, 0, 0, 0) 0
    have hls : ((toL s).length : Int) = (slen s : Int) := rfl
    rw [hls] at a2 a3
    have hp1 : feed_pre q.1 q.2.1 q.2.2.1 q.2.2.2 at' bad rest := ⟨by omega, h0, by omega⟩
    have hv : valid_pre s := by unfold valid_pre; omega
    have hp2 : feed_pre (feedL (0, 0, 0, 0) 0 false (toL s)).1.1 (feedL (0, 0, 0, 0) 0 false (toL s)).1.2.1 (feedL (0, 0, 0, 0) 0 false (toL s)).1.2.2.1 (feedL (0, 0, 0, 0) 0 false (toL s)).1.2.2.2 (feedL (0, 0, 0, 0) 0 false (toL s)).2.1 (feedL (0, 0, 0, 0) 0 false (toL s)).2.2 behind := ⟨by omega, by omega, by omega⟩
    have hd : decide ((i : Int) < (cuts.length : Int)) = false := by simp; omega
    have hS : pieces_S1 s cuts behind rest i q.1 q.2.1 q.2.2.1 q.2.2.2 at' bad := by
      unfold pieces_S1
      rw [hd]
      simp [hp1, hp2, hv]
    have h := pieces_ok1 s cuts behind rest i q.1 q.2.1 q.2.2.1 q.2.2.2 at' bad hS
    unfold pieces_t1 at h
    simp only [hd, cond_false] at h
    rw [show ((q.1, q.2.1, q.2.2.1, q.2.2.2) : Q) = q from rfl, hf, hw] at h
    generalize feedL (0, 0, 0, 0) 0 false (toL s) = f at h a1 a2 a3
    cases hbad : f.2.2 with
    | false =>
      have ha := a3.1 hbad
      simp [hbad, ha, feedL_bad] at h
      exact pieces_end h
    | true =>
      have ha : ¬ f.2.1 = (slen s : Int) := fun e => by
        have := a3.2 (by omega)
        rw [hbad] at this; cases this
      have ha2 : ¬ (slen s : Int) < f.2.1 := by omega
      have hb2 : (f.2.1 == (slen s : Int)) = false := by simpa using ha
      simp [hbad, hb2, ha2, feedL_bad] at h
      exact pieces_end h
  | n + 1, i, rest, q, at', bad, hi, hf, h0, h1 => by
    have hl : i < cuts.length := by omega
    have hg := u8get cuts i hl
    obtain ⟨g0, g1⟩ := hcut cuts[i] (List.getElem_mem hl)
    have hk := cut_mod cuts[i] (slen rest) g0 g1 (by omega)
    have hkl : cuts[i].toNat % (slen rest + 1) ≤ slen rest := by have := Nat.mod_lt cuts[i].toNat (show slen rest + 1 > 0 by omega); omega
    generalize cuts[i].toNat % (slen rest + 1) = k at hk hkl
    have hs1 : slen (sub rest 0 k) = k := by
      have e : slen (sub rest 0 k) = min (k - 0) (slen rest - 0) := by
        unfold slen
        rw [show toL (sub rest 0 k) = ((toL rest).drop 0).take (k - 0) by simp [sub, toL, ofL], List.length_take, List.length_drop]
      omega
    have e1 : toL (sub rest 0 k) = (toL rest).take k := by simp [sub, toL, ofL]
    have e2 : toL (sub rest k (slen rest)) = (toL rest).drop k := by
      rw [show toL (sub rest k (slen rest)) = ((toL rest).drop k).take (slen rest - k) by simp [sub, toL, ofL], List.take_of_length_le (by rw [List.length_drop]; exact Nat.le_refl _)]
    have hs2 : slen (sub rest k (slen rest)) = slen rest - k := by
      show (toL (sub rest k (slen rest))).length = (toL rest).length - k
      rw [e2, List.length_drop]
    have hp : feed_pre q.1 q.2.1 q.2.2.1 q.2.2.2 at' bad (sub rest 0 k) := ⟨by omega, h0, by omega⟩
    have hd : decide ((i : Int) < (cuts.length : Int)) = true := by simp; omega
    have hk2 : ((k : Nat) : Int).toNat = k := Int.toNat_natCast _
    have hw1 : IntKind.i64.wrap ((slen rest : Int) + 1) = (slen rest : Int) + 1 := wrap64_in (by omega) (by omega)
    have hS : pieces_S1 s cuts behind rest i q.1 q.2.1 q.2.2.1 q.2.2.2 at' bad := by
      unfold pieces_S1
      rw [hd, Nat.mul_one, Int.toNat_natCast, hg]
      dsimp only [toInt]
      rw [hk, hk2, hw1]
      refine ⟨fun _ => ⟨hkl, by omega, hp, by omega, ?_, by simpa using hl, by simp [isInt], by omega, by omega, by simpa using (by omega : 0 < cuts.length)⟩, fun hh => by cases hh⟩
      simp; omega
    have h := pieces_ok1 s cuts behind rest i q.1 q.2.1 q.2.2.1 q.2.2.2 at' bad hS
    unfold pieces_t1 at h
    rw [hd, Nat.mul_one, Int.toNat_natCast, hg] at h
    dsimp only [toInt] at h
    rw [hk, hk2] at h
    simp only [cond_true] at h
    rw [show ((q.1, q.2.1, q.2.2.1, q.2.2.2) : Q) = q from rfl, e1, wrap64_in (x := (i : Int) + 1) (by omega) (by omega), show (i : Int) + 1 = ((i + 1 : Nat) : Int) by omega] at h
    have hb := feedL_le ((toL rest).take k) q at' bad
    have hlk : ((toL rest).take k).length = k := by rw [List.length_take]; unfold slen at hkl; omega
    rw [hlk] at hb
    have ih := pieces_run s behind cuts hs hc hb0 hcut n (i + 1) (sub rest k (slen rest)) (feedL q at' bad ((toL rest).take k)).1 (feedL q at' bad ((toL rest).take k)).2.1 (feedL q at' bad ((toL rest).take k)).2.2 (by omega)
      (by rw [e2, ← feedL_append, List.take_append_drop]; exact hf) (by omega) (by rw [hs2]; omega)
    exact (pieces_go1 h).ends ih
end Go.Proofs.Ytadpggfmogjddaa
