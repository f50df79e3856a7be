/-
  The statement RingSets hands back true.
-/
import Derived.Test.YtabloimmlmgcbaaRingBq
import Derived.Test.YtabloimmlmgcbaaRingG
set_option linter.unusedVariables false
set_option linter.unusedSimpArgs false
open Go Go.Am
namespace Go.Proofs.Ytabloimmlmgcbaa

section
variable {mx first n : Int} {ln : Nat} {L : List Value} {l : List ByteArray}
theorem sset_in (h : sR mx first n ln L l) {i : Nat} (hi : i < l.length) (x : ByteArray) : sset_S0 mx first n ln L i x ∧ ∃ L', sset_t0 mx first n ln L i x = (true, L') ∧ sR mx first n ln L' (l.set i x) := by
  obtain ⟨a1, a2, a3, a4, a5, a6, a7⟩ := sR_n h
  have hx : l[i]? = some l[i] := List.getElem?_eq_getElem hi
  have hidx : (IntKind.i64.wrap (first + (i : Int))).tmod (ln : Int) = ((first.toNat + i) % ln : Nat) := mod_idx a4 a5 (by omega) (by omega) (by omega)
  have hj : (first.toNat + i) % ln < ln := Nat.mod_lt _ (by omega)
  have hget : L.getD (0 + ((first.toNat + i) % ln) * 1) undef = Value.string l[i] := by
    have := h.rep.get sEl (sQ_get hx) (k := 0) (by omega)
    rw [Nat.zero_add]
    exact this
  have hL := h.rep.len sEl
  have hs := h.rep.set sEl (x := [Value.string x]) ⟨x, rfl⟩ (j := i) (by rw [sQ_len]; exact hi)
  have hsf := hs.flat sEl
  have d2 : decide ((i : Int) < 0) = false := by simp
  have d3 : decide (n ≤ (i : Int)) = false := by simp; omega
  have hN : ((ln : Int) != 0) = true := by simp; omega
  constructor
  · unfold sset_S0
    rw [d2, d3, hidx, Int.toNat_natCast, hget, Nat.zero_add]
    refine ⟨(fun h => by cases h), fun _ => ⟨(fun h => by cases h), fun _ => ⟨hsf, beq_self_eq_true _, beq_self_eq_true _, ?_, ?_, ?_, hN, ?_, rfl⟩⟩⟩
    all_goals omega
  · refine ⟨setN L (((first.toNat + i) % ln) * 1) [Value.string x], ?_, ?_⟩
    · unfold sset_t0
      rw [d2, d3, hidx, Int.toNat_natCast, Nat.zero_add]
      rfl
    · refine ⟨?_, h.lnm, h.mxl⟩
      have e : sQ (l.set i x) = (sQ l).set i [Value.string x] := by simp [sQ, List.map_set]
      rw [e]
      exact hs
theorem sset_out (h : sR mx first n ln L l) {i : Int} (hi : i < 0 ∨ n ≤ i) (x : ByteArray) : sset_S0 mx first n ln L i x ∧ sset_t0 mx first n ln L i x = (false, L) := by
  have hLf := sR_flat h
  unfold sset_S0 sset_t0
  by_cases c : i < 0
  · rw [decide_eq_true c]
    exact ⟨⟨fun _ => hLf, (fun h => by cases h)⟩, rfl⟩
  · rw [decide_eq_false c, decide_eq_true (by omega : n ≤ i)]
    exact ⟨⟨(fun h => by cases h), fun _ => ⟨fun _ => hLf, (fun h => by cases h)⟩⟩, rfl⟩
theorem sclear_in (h : sR mx first n ln L l) : sclear_S0 mx first n ln L ∧ ∃ f' L', sclear_t0 mx first n ln L = (f', 0, L') ∧ sR mx f' 0 ln L' [] := by
  obtain ⟨a1, a2, a3, a4, a5, a6, a7⟩ := sR_n h
  have hL := h.rep.len sEl
  by_cases c : 0 < n
  · have e : [] ++ rep [Value.string ⟨#[]⟩] ln ++ List.drop (0 + ln * 1) L = (List.replicate ln sZ).flatten := by
      rw [List.nil_append, rep_flat, List.drop_eq_nil_of_le (by omega), List.append_nil]
      rfl
    have hr := rep_new sEl (q := []) (by simp) (m := ln) (by simp; omega)
    have el : ([] : List (List Value)).length + ln = ln := by simp
    rw [el, List.nil_append] at hr
    unfold sclear_S0 sclear_t0
    rw [decide_eq_true c, e]
    exact ⟨⟨fun _ => ⟨hr.flat sEl, by omega⟩, (fun h => by cases h)⟩, _, _, rfl, hr, a6, a7⟩
  · have h0 : l = [] := List.length_eq_zero_iff.1 (by omega)
    subst h0
    have hn : n = 0 := a1
    subst hn
    unfold sclear_S0 sclear_t0
    rw [decide_eq_false c]
    exact ⟨⟨(fun h => by cases h), fun _ => sR_flat h⟩, _, _, rfl, h⟩
theorem slen_in (h : sR mx first n ln L l) : slen_S0 mx first n ln L := sR_flat h
end

theorem S_get {l : List ByteArray} {i : Nat} {x : ByteArray} (h : l[i]? = some x) : (l.map Value.string).getD i undef = .string x := by
  rw [List.getD_eq_getElem?_getD, List.getElem?_map, h]; rfl
section
variable {most : Int} {l : List ByteArray} {at' : Int}
theorem sets_mx (hm : 0 ≤ most ∧ most ≤ 255) : IntKind.i64.wrap (1 + IntKind.i64.wrap (most.tmod 50)) = ((1 + (most.toNat % 50) : Nat) : Int) := by
  have e : most.tmod 50 = ((most.toNat % 50 : Nat) : Int) := by
    obtain ⟨k, rfl⟩ : ∃ k : Nat, most = k := ⟨most.toNat, by omega⟩
    rw [Int.toNat_natCast]
    exact (Int.ofNat_tmod k 50).symm
  rw [e, wrap64_in (x := ((most.toNat % 50 : Nat) : Int)) (by omega) (by omega), wrap64_in (by omega) (by omega)]
  omega
/-- Behind Set: cleared, and as a new one. -/
theorem sets_run5 {R : Nat} (hR0 : IntKind.i64.wrap (1 + IntKind.i64.wrap (most.tmod 50)) = (R : Int)) (hR1 : 1 ≤ R ∧ R ≤ 50) {first n : Int} {ln : Nat} {L L' : List Value} {q q' : List ByteArray} {b : Bool} (hl : l.length ≤ 50)
    (hq : q = l.drop (l.length - q.length)) (hn : n = q.length) (hql : q.length ≤ l.length) (hset : sset_t0 (R : Int) first n ln L at' ⟨#[115, 101, 116]⟩ = (b, L')) (hR : sR R first n ln L' q')
    (hq' : q' = if 0 ≤ at' ∧ at' < n then q.set at'.toNat ⟨#[115, 101, 116]⟩ else q) : ∀ k i, i + k = q.length →
    AEnds E 7 0 (sets_h5 most l at' first n ln L i) (.bool true) []
  | 0, i, hi => by
    have hLf := sR_flat hR
    obtain ⟨c1, f2, L2, c2, c3⟩ := sclear_in hR
    obtain ⟨p1, p2⟩ := spop_nil c3
    obtain ⟨f4, n4, ln4, L4, u1, u2⟩ := spush_in c3 ⟨#[110, 101, 119]⟩ (by omega)
    obtain ⟨v1, f5, n5, L5, v2, v3⟩ := spop_cons u2
    have w := sets_w5_1 most l at' first n ln L i
    simp only [hR0] at w
    have w := w _ hset _ c2 _ p2 _ u1 _ v2
    exact w rfl rfl rfl (beq_self_eq_true _) (sR_flat u2) v1 (sR_flat v3) (sR_flat c3) (sR_pre c3 _) (sR_flat c3) p1 hLf c1 (by simp; omega)
  | k + 1, i, hi => by
    have hLf := sR_flat hR
    have hiq : i < q.length := by omega
    obtain ⟨x, hx⟩ : ∃ x, q[i]? = some x := ⟨_, List.getElem?_eq_getElem hiq⟩
    have hxl : l[l.length - q.length + i]? = some x := by
      rw [hq, List.getElem?_drop] at hx
      rw [← hx]
    have hidx : IntKind.i64.wrap (IntKind.i64.wrap ((l.length : Int) - n) + (i : Int)) = ((l.length - q.length + i : Nat) : Int) := by
      rw [wrap64_in (x := (l.length : Int) - n) (by omega) (by omega), wrap64_in (by omega) (by omega)]
      omega
    have hget := S_get hxl
    have ih := sets_run5 hR0 hR1 hl hq hn hql hset hR hq' k (i + 1) (by omega)
    by_cases hat : (i : Int) = at'
    · have hx' : q'[i]? = some ⟨#[115, 101, 116]⟩ := by
        rw [hq', if_pos (by omega), show at'.toNat = i by omega, List.getElem?_set_self hiq]
      obtain ⟨s1, s2⟩ := sat_in hR hx'
      have w := sets_w5_9 most l at' first n ln L i
      simp only [hR0, hidx, Int.toNat_natCast, Nat.mul_one, hget] at w
      have w := w _ hset _ s2
      rw [wrap64_in (x := (i : Int) + 1) (by omega) (by omega)] at w
      refine Gets.ends ?_ ih
      apply w
      all_goals first | assumption | rfl | omega | (simp; done) | (simp; omega)
    · have hx' : q'[i]? = some x := by
        rw [hq']
        split
        · rw [List.getElem?_set_ne (by omega)]; exact hx
        · exact hx
      obtain ⟨s1, s2⟩ := sat_in hR hx'
      have w := sets_w5_10 most l at' first n ln L i
      simp only [hR0, hidx, Int.toNat_natCast, Nat.mul_one, hget, toStr, isStr] at w
      have w := w _ hset _ s2
      rw [wrap64_in (x := (i : Int) + 1) (by omega) (by omega)] at w
      refine Gets.ends ?_ ih
      apply w
      all_goals first | assumption | rfl | omega | (simp; done) | (simp; omega)
/-- What the ring holds of the first i texts. -/
def lastOf (R : Nat) (l : List ByteArray) (i : Nat) : List ByteArray := (l.take i).drop (i - R)
theorem sets_run3 {R : Nat} (hR0 : IntKind.i64.wrap (1 + IntKind.i64.wrap (most.tmod 50)) = (R : Int)) (hR1 : 1 ≤ R ∧ R ≤ 50) (hl : l.length ≤ 50) : ∀ (k i : Nat) (first n : Int) (ln : Nat) (L : List Value), i + k = l.length → 1 ≤ i → sR R first n ln L (lastOf R l i) →
    AEnds E 7 0 (sets_h3 most l at' i first n ln L) (.bool true) []
  | 0, i, first, n, ln, L, hi, hi1, hR => by
    have hLf := sR_flat hR
    obtain ⟨a1, a2, a3, a4, a5, a6, a7⟩ := sR_n hR
    have hi : i = l.length := by omega
    subst hi
    have hq : lastOf R l l.length = l.drop (l.length - R) := by unfold lastOf; rw [List.take_length]
    rw [hq] at hR a1 a2
    have hqn : (l.drop (l.length - R)).length = l.length - (l.length - R) := by simp
    have hq2 : l.drop (l.length - R) = l.drop (l.length - (l.drop (l.length - R)).length) := by
      rw [hqn]; congr 1; omega
    by_cases hat : 0 ≤ at'
    · by_cases hat2 : at' < n
      · obtain ⟨s1, L', s2, s3⟩ := sset_in hR (i := at'.toNat) (by omega) ⟨#[115, 101, 116]⟩
        rw [show ((at'.toNat : Nat) : Int) = at' by omega] at s1 s2
        have w := sets_w3_8 most l at' l.length first n ln L
        simp only [hR0] at w
        have w := w _ s2
        refine Gets.ends ?_ (sets_run5 hR0 hR1 hl hq2 a1 (by omega) s2 s3 (by rw [if_pos ⟨hat, hat2⟩]) _ 0 (Nat.zero_add _))
        have hLf' := sR_flat s3
        exact w hLf' (by simp; omega) (by simp) (slen_in s3) (by simp [hat2]) (by simp [hat]) hLf s1 (slen_in hR) (by simp)
      · obtain ⟨s1, s2⟩ := sset_out hR (i := at') (by omega) ⟨#[115, 101, 116]⟩
        have w := sets_w3_8 most l at' l.length first n ln L
        simp only [hR0] at w
        have w := w _ s2
        refine Gets.ends ?_ (sets_run5 hR0 hR1 hl hq2 a1 (by omega) s2 hR (by rw [if_neg (by omega)]) _ 0 (Nat.zero_add _))
        exact w hLf (by simp; omega) (by simp) (slen_in hR) (by simp; omega) (by simp [hat]) hLf s1 (slen_in hR) (by simp)
    · obtain ⟨s1, s2⟩ := sset_out hR (i := at') (by omega) ⟨#[115, 101, 116]⟩
      have w := sets_w3_9 most l at' l.length first n ln L
      simp only [hR0] at w
      have w := w _ s2
      refine Gets.ends ?_ (sets_run5 hR0 hR1 hl hq2 a1 (by omega) s2 hR (by rw [if_neg (by omega)]) _ 0 (Nat.zero_add _))
      exact w hLf (by simp; omega) (by simp) (slen_in hR) rfl (by simp; omega) hLf s1 (slen_in hR) (by simp)
  | k + 1, i, first, n, ln, L, hi, hi1, hR => by
    have hLf := sR_flat hR
    obtain ⟨a1, a2, a3, a4, a5, a6, a7⟩ := sR_n hR
    have hil : i < l.length := by omega
    obtain ⟨x, hx⟩ : ∃ x, l[i]? = some x := ⟨_, List.getElem?_eq_getElem hil⟩
    have hget := S_get hx
    have hlen : (lastOf R l i).length = i - (i - R) := by unfold lastOf; simp; omega
    have hnext : l.take (i + 1) = l.take i ++ [x] := by rw [List.take_add_one, hx]; rfl
    by_cases hn : n < (R : Int)
    · obtain ⟨f', n', ln', L', hp, hR'⟩ := spush_in hR x hn
      have e : lastOf R l i ++ [x] = lastOf R l (i + 1) := by
        unfold lastOf
        rw [hnext, show i - R = 0 by omega, show i + 1 - R = 0 by omega]; rfl
      rw [e] at hR'
      have w := sets_w3_2 most l at' i first n ln L
      simp only [hR0, Int.toNat_natCast, Nat.mul_one, hget, toStr, isStr] at w
      have w := w _ hp
      rw [wrap64_in (x := (i : Int) + 1) (by omega) (by omega)] at w
      refine Gets.ends ?_ (sets_run3 hR0 hR1 hl k (i + 1) f' n' ln' L' (by omega) (by omega) hR')
      have hLf' := sR_flat hR'
      have hpre := sR_pre hR x
      apply w
      all_goals first | assumption | rfl | omega | (simp; done) | (simp; omega)
    · have hp := spush_full (ln := ln) (L := L) (first := first) x (show (R : Int) ≤ n by omega)
      obtain ⟨y, r, hyr⟩ : ∃ y r, lastOf R l i = y :: r := by
        cases hc : lastOf R l i with
        | nil => rw [hc] at hlen; simp at hlen; omega
        | cons y r => exact ⟨y, r, rfl⟩
      have hR2 := hR
      rw [hyr] at hR2
      obtain ⟨hS, f2, n2, L2, hp2, hR3⟩ := spop_cons hR2
      obtain ⟨b1, _⟩ := sR_n hR3
      have hrl : r.length + 1 = (lastOf R l i).length := by rw [hyr]; rfl
      obtain ⟨f', n', ln', L', hp3, hR4⟩ := spush_in hR3 x (by omega)
      have e : r ++ [x] = lastOf R l (i + 1) := by
        have : r = (lastOf R l i).drop 1 := by rw [hyr]; rfl
        rw [this]
        unfold lastOf
        rw [hnext, List.drop_drop, show i - R + 1 = i + 1 - R by omega, List.drop_append_of_le_length (by simp; omega)]
      rw [e] at hR4
      have w := sets_w3_0 most l at' i first n ln L
      simp only [hR0, Int.toNat_natCast, Nat.mul_one, hget, toStr, isStr] at w
      have w := w _ hp _ hp2 _ hp3
      rw [wrap64_in (x := (i : Int) + 1) (by omega) (by omega)] at w
      refine Gets.ends ?_ (sets_run3 hR0 hR1 hl k (i + 1) f' n' ln' L' (by omega) (by omega) hR4)
      have hLf2 := sR_flat hR3
      have hLf' := sR_flat hR4
      have hpre := sR_pre hR x
      have hpre2 := sR_pre hR3 x
      apply w
      all_goals first | assumption | rfl | omega | (simp; done) | (simp; omega)
theorem sets_run2 {R : Nat} (hR0 : IntKind.i64.wrap (1 + IntKind.i64.wrap (most.tmod 50)) = (R : Int)) (hR1 : 1 ≤ R ∧ R ≤ 50) (hl : l.length ≤ 50) : AEnds E 7 0 (sets_h2 most l at') (.bool true) [] := by
  by_cases h0 : 0 < l.length
  · obtain ⟨x, hx⟩ : ∃ x, l[0]? = some x := ⟨_, List.getElem?_eq_getElem h0⟩
    have hget := S_get hx
    obtain ⟨hS, hR⟩ := spush0_in (mx := (R : Int)) (by omega) (by omega) x
    have e : lastOf R l 1 = [x] := by
      unfold lastOf
      rw [show 1 - R = 0 by omega, List.take_add_one, hx]; rfl
    have hLf := sR_flat hR
    rw [← e] at hR
    have w := sets_w2_0 most l at'
    simp only [hR0, hget, toStr, isStr] at w
    refine Gets.ends ?_ (sets_run3 (at' := at') hR0 hR1 hl (l.length - 1) 1 _ _ _ _ (by omega) (by omega) hR)
    apply w
    all_goals first | assumption | rfl | omega | (simp; done) | (simp; omega)
  · have h4 : AEnds E 7 0 (sets_h4 most l at') (.bool true) [] := by
      obtain ⟨hS, hR⟩ := spush0_in (mx := (R : Int)) (by omega) (by omega) ⟨#[110, 101, 119]⟩
      have hLf := sR_flat hR
      obtain ⟨hP, f', n', L', hp, hR2⟩ := spop_cons hR
      have hLf2 := sR_flat hR2
      unfold spop_t0 at hp
      rw [show decide ((1 : Int) ≤ 0) = false from rfl, cond_false] at hp
      simp only [Prod.mk.injEq] at hp
      obtain ⟨e1, _, _, _, e5⟩ := hp
      rw [show IntKind.i64.wrap (0 + 0) = 0 from wrap64_in (by omega) (by omega)] at e1
      rw [← e5] at hLf2
      have w := sets_w4_0 most l at'
      simp only [hR0] at w
      have w := w hLf hP hLf2 hS trivial
      rw [e1] at w
      exact w
    by_cases hat : 0 ≤ at'
    · refine (sets_w2_6 most l at' trivial ?_ ?_ ?_ ?_).ends h4
      · rw [decide_eq_false (by omega)]; rfl
      · exact decide_eq_true hat
      · exact decide_eq_false (by omega)
      · exact decide_eq_false (by omega)
    · refine (sets_w2_3 most l at' trivial ?_ ?_ ?_).ends h4
      · exact decide_eq_false (by omega)
      · exact decide_eq_true (by omega)
      · exact decide_eq_false (by omega)
theorem sets_run1 {R : Nat} (hR0 : IntKind.i64.wrap (1 + IntKind.i64.wrap (most.tmod 50)) = (R : Int)) (hR1 : 1 ≤ R ∧ R ≤ 50) : ∀ (k i : Nat) (t : Int), i + k = l.length → AEnds E 7 0 (sets_h1 most l at' t i) (.bool true) []
  | k, i, t, hi => by
    by_cases c1 : i < l.length
    · by_cases c2 : i ≤ 50
      · obtain ⟨x, hx⟩ : ∃ x, l[i]? = some x := ⟨_, List.getElem?_eq_getElem c1⟩
        have hget := S_get hx
        have w := sets_w1_0 most l at' t i
        simp only [Int.toNat_natCast, Nat.mul_one, hget, toStr, isStr] at w
        rw [wrap64_in (x := (i : Int) + 1) (by omega) (by omega)] at w
        match k with
        | 0 => omega
        | k + 1 =>
          refine Gets.ends ?_ (sets_run1 hR0 hR1 k (i + 1) (IntKind.i64.wrap (t + bif decide (3001 < (slen x : Int)) then 3001 else (slen x : Int))) (by omega))
          apply w
          all_goals first | assumption | rfl | omega | (simp; done) | (simp; omega)
      · exact sets_w1_2 most l at' t i (by simp; omega) (by simp; omega) (by simp; omega)
    · by_cases c2 : 50 < l.length
      · exact sets_w1_1 most l at' t i (by simp; omega) (by simp; omega)
      by_cases c3 : 3000 < t
      · exact sets_w1_3 most l at' t i (by simp; omega) (by simp; omega) (by simp; omega)
      refine (sets_w1_9 most l at' t i ?_ ?_ (by simp; omega) (by simp; omega) (by simp; omega)).ends (sets_run2 hR0 hR1 (by omega))
      · rw [hR0]; simp; omega
      · rw [hR0]; simp; omega
theorem sets_all (most : Int) (hm : 0 ≤ most ∧ most ≤ 255) (l : List ByteArray) (at' : Int) : AEnds E 7 0 (startC E 7 [.int .u8 most, .iface l.length (.agg (l.map Value.string).toArray), .int .i64 at'] []) (.bool true) [] :=
  (sets_w0_0 most l at' trivial).ends (sets_run1 (sets_mx hm) (by omega) l.length 0 0 (Nat.zero_add _))
end
end Go.Proofs.Ytabloimmlmgcbaa
