/-
  The statement OutboxClears hands back true. (Printed by clears.py.)
-/
import Derived.Test.YticpjnmoiepafaaOutboxJ
set_option linter.unusedVariables false
set_option linter.unusedSimpArgs false
open Go Go.Am
namespace Go.Proofs.Yticpjnmoiepafaa

section
variable {q : Int} {l b : List Act}
theorem sR_pre {mx first n : Int} {ln : Nat} {L : List Value} {r : List sT} (h : sR mx first n ln L r) (x : ByteArray) : spushc_pre mx first n ln L x := ⟨_, h⟩
theorem mR_pre' {mx first n : Int} {ln : Nat} {L : List Value} {r : List mT} (h : mR mx first n ln L r) (k o : Int) (x : ByteArray) : mpushc_pre mx first n ln L k o x := ⟨_, h⟩
theorem greatB_false' {l : List Act} (h : greatB l.length (aQ l) = false) : l.length ≤ 200 := (greatB_false h).1

theorem clears_run8 (hb : b.length ≤ 200) (b4 : Bool) : ∀ (k j : Nat) (f1 n1 : Int) (k1 : Nat) (L1 : List Value) (f2 n2 : Int) (k2 : Nat) (L2 : List Value), j + k = b.length → sR 4 f1 n1 k1 L1 [] → mR q f2 n2 k2 L2 [] →
    AEnds E 8 0 (clears_h8 q l.length (aQ l) b.length (aQ b) n1 k1 L1 f1 f2 n2 k2 L2 b4 j) (.bool true) []
  | 0, j, f1, n1, k1, L1, f2, n2, k2, L2, hj, hs, hm => by
    have sl := slen_in hs
    have ml := mlen_in hm
    have sn := (sR_n hs).1
    have mn := (mR_n hm).1
    have sf := sR_flat hs
    have mf := mR_flat hm
    simp only [List.length_nil] at sn mn
    subst sn mn
    have w := clears_w8_2 q l.length (aQ l) b.length (aQ b) 0 k1 L1 f1 f2 0 k2 L2 b4 j
    apply w
    all_goals first | omega | assumption | trivial | (simp; done) | (simp; omega) | rfl
  | k + 1, j, f1, n1, k1, L1, f2, n2, k2, L2, hj, hs, hm => by
    obtain ⟨a, ha⟩ : ∃ a, b[j]? = some a := ⟨_, List.getElem?_eq_getElem (by omega)⟩
    obtain ⟨g, g0, g1, g2⟩ := aQ_get ha
    have hlen := aQ_len b
    obtain ⟨s1, s2⟩ := spop_nil hs
    obtain ⟨m1, m2⟩ := mpop_nil hm
    have sl := slen_in hs
    have ml := mlen_in hm
    have sn := (sR_n hs).1
    have mn := (mR_n hm).1
    have sf := sR_flat hs
    have mf := mR_flat hm
    simp only [List.length_nil] at sn mn
    subst sn mn
    have ih := clears_run8 hb b4 k (j + 1) f1 0 k1 L1 f2 0 k2 L2 (by omega) hs hm
    cases b4 with
    | false =>
      have w := clears_w8_1 q l.length (aQ l) b.length (aQ b) 0 k1 L1 f1 f2 0 k2 L2 false j _ s2 _ m2
      simp only [Int.toNat_natCast, g0, g1, g2, toInt, toStr, isInt, isStr] at w
      rw [wrap64_in (x := (j : Int) + 1) (by omega) (by omega)] at w
      refine Gets.ends ?_ ih
      apply w
      all_goals first | omega | assumption | trivial | (simp; done) | (simp; omega) | rfl
    | true =>
      have w := clears_w8_0 q l.length (aQ l) b.length (aQ b) 0 k1 L1 f1 f2 0 k2 L2 true j _ s2 _ m2
      simp only [Int.toNat_natCast, g0, g1, g2, toInt, toStr, isInt, isStr] at w
      rw [wrap64_in (x := (j : Int) + 1) (by omega) (by omega)] at w
      refine Gets.ends ?_ ih
      apply w
      all_goals first | omega | assumption | trivial | (simp; done) | (simp; omega) | rfl
theorem clears_stop4 (hb : b.length ≤ 200) (b6 b4 : Bool) (f1 n1 : Int) (k1 : Nat) (L1 : List Value) (f2 n2 : Int) (k2 : Nat) (L2 : List Value) (hs : sR 4 f1 n1 k1 L1 []) (hm : mR q f2 n2 k2 L2 []) :
    AEnds E 8 0 (clears_h4 q l.length (aQ l) b.length (aQ b) n1 k1 L1 f1 f2 n2 k2 L2 b6 b4 false) (.bool true) [] := by
    have sf := sR_flat hs
    have mf := mR_flat hm
    have w := clears_w4_4 q l.length (aQ l) b.length (aQ b) n1 k1 L1 f1 f2 n2 k2 L2 b6 b4 false
    refine Gets.ends ?_ (clears_run8 (l := l) hb b4 b.length 0 f1 n1 k1 L1 f2 n2 k2 L2 (Nat.zero_add _) hs hm)
    apply w
    all_goals first | omega | assumption | trivial | (simp; done) | (simp; omega) | rfl
theorem clears_run4 (hb : b.length ≤ 200) (b4 : Bool) : ∀ (ls : List sT) (lm : List mT) (b6 : Bool) (f1 n1 : Int) (k1 : Nat) (L1 : List Value) (f2 n2 : Int) (k2 : Nat) (L2 : List Value), sR 4 f1 n1 k1 L1 ls → mR q f2 n2 k2 L2 lm →
    AEnds E 8 0 (clears_h4 q l.length (aQ l) b.length (aQ b) n1 k1 L1 f1 f2 n2 k2 L2 b6 b4 true) (.bool true) []
  | x :: ls, lm, b6, f1, n1, k1, L1, f2, n2, k2, L2, hs, hm => by
    have sf := sR_flat hs
    have mf := mR_flat hm
    obtain ⟨s1, f1', n1', L1', s2, s3⟩ := spop_cons hs
    have sf3 := sR_flat s3
    have w := clears_w4_0 q l.length (aQ l) b.length (aQ b) n1 k1 L1 f1 f2 n2 k2 L2 b6 b4 true _ s2
    refine Gets.ends ?_ (clears_run4 hb b4 ls lm b6 f1' n1' k1 L1' f2 n2 k2 L2 s3 hm)
    apply w
    all_goals first | omega | assumption | trivial | (simp; done) | (simp; omega) | rfl
  | [], y :: lm, b6, f1, n1, k1, L1, f2, n2, k2, L2, hs, hm => by
    have sf := sR_flat hs
    have mf := mR_flat hm
    obtain ⟨s1, s2⟩ := spop_nil hs
    obtain ⟨m1, f2', n2', L2', m2, m3⟩ := mpop_cons hm
    have mf3 := mR_flat m3
    have w := clears_w4_1 q l.length (aQ l) b.length (aQ b) n1 k1 L1 f1 f2 n2 k2 L2 b6 b4 true _ s2 _ m2
    refine Gets.ends ?_ (clears_run4 hb b4 [] lm b6 f1 n1 k1 L1 f2' n2' k2 L2' hs m3)
    apply w
    all_goals first | omega | assumption | trivial | (simp; done) | (simp; omega) | rfl
  | [], [], false, f1, n1, k1, L1, f2, n2, k2, L2, hs, hm => by
    have sf := sR_flat hs
    have mf := mR_flat hm
    obtain ⟨s1, s2⟩ := spop_nil hs
    obtain ⟨m1, m2⟩ := mpop_nil hm
    have w := clears_w4_2 q l.length (aQ l) b.length (aQ b) n1 k1 L1 f1 f2 n2 k2 L2 false b4 true _ s2 _ m2
    refine Gets.ends ?_ (clears_run4 hb b4 [] [] true f1 n1 k1 L1 f2 n2 k2 L2 hs hm)
    apply w
    all_goals first | omega | assumption | trivial | (simp; done) | (simp; omega) | rfl
  | [], [], true, f1, n1, k1, L1, f2, n2, k2, L2, hs, hm => by
    have sf := sR_flat hs
    have mf := mR_flat hm
    obtain ⟨s1, s2⟩ := spop_nil hs
    obtain ⟨m1, m2⟩ := mpop_nil hm
    have w := clears_w4_3 q l.length (aQ l) b.length (aQ b) n1 k1 L1 f1 f2 n2 k2 L2 true b4 true _ s2 _ m2
    refine Gets.ends ?_ (clears_stop4 (l := l) hb true b4 f1 n1 k1 L1 f2 n2 k2 L2 hs hm)
    apply w
    all_goals first | omega | assumption | trivial | (simp; done) | (simp; omega) | rfl
termination_by ls lm b6 => (ls.length, lm.length, if b6 then 0 else 1)
theorem clears_run6 (hb : b.length ≤ 200) (t : Int) (b6 b4 : Bool) {lm : List mT} : ∀ (ls : List sT) (f1 n1 : Int) (k1 : Nat) (L1 : List Value) (f2 n2 : Int) (k2 : Nat) (L2 : List Value), sR 4 f1 n1 k1 L1 ls → mR q f2 n2 k2 L2 lm →
    AEnds E 8 0 (clears_h6 q l.length (aQ l) b.length (aQ b) t n1 k1 L1 f1 f2 n2 k2 L2 b6 b4 true) (.bool true) []
  | x :: ls, f1, n1, k1, L1, f2, n2, k2, L2, hs, hm => by
    have sf := sR_flat hs
    have mf := mR_flat hm
    obtain ⟨s1, f1', n1', L1', s2, s3⟩ := spop_cons hs
    have sf3 := sR_flat s3
    have w := clears_w6_0 q l.length (aQ l) b.length (aQ b) t n1 k1 L1 f1 f2 n2 k2 L2 b6 b4 true _ s2
    refine Gets.ends ?_ (clears_run6 hb t b6 b4 ls f1' n1' k1 L1' f2 n2 k2 L2 s3 hm)
    apply w
    all_goals first | omega | assumption | trivial | (simp; done) | (simp; omega) | rfl
  | [], f1, n1, k1, L1, f2, n2, k2, L2, hs, hm => by
    have sf := sR_flat hs
    have mf := mR_flat hm
    obtain ⟨s1, s2⟩ := spop_nil hs
    have w := clears_w6_1 q l.length (aQ l) b.length (aQ b) t n1 k1 L1 f1 f2 n2 k2 L2 b6 b4 true _ s2
    refine Gets.ends ?_ (clears_run4 (l := l) hb b4 [] lm b6 f1 n1 k1 L1 f2 n2 k2 L2 hs hm)
    apply w
    all_goals first | omega | assumption | trivial | (simp; done) | (simp; omega) | rfl
theorem clears_run7 (hb : b.length ≤ 200) (t : Int) (b6 : Bool) : ∀ (ls : List sT) (lm : List mT) (f1 n1 : Int) (k1 : Nat) (L1 : List Value) (f2 n2 : Int) (k2 : Nat) (L2 : List Value), sR 4 f1 n1 k1 L1 ls → mR q f2 n2 k2 L2 lm →
    AEnds E 8 0 (clears_h7 q l.length (aQ l) b.length (aQ b) t n1 k1 L1 f1 f2 n2 k2 L2 b6 true) (.bool true) []
  | x :: ls, lm, f1, n1, k1, L1, f2, n2, k2, L2, hs, hm => by
    have sf := sR_flat hs
    have mf := mR_flat hm
    obtain ⟨s1, f1', n1', L1', s2, s3⟩ := spop_cons hs
    have sf3 := sR_flat s3
    have w := clears_w7_0 q l.length (aQ l) b.length (aQ b) t n1 k1 L1 f1 f2 n2 k2 L2 b6 true _ s2
    refine Gets.ends ?_ (clears_run7 hb t b6 ls lm f1' n1' k1 L1' f2 n2 k2 L2 s3 hm)
    apply w
    all_goals first | omega | assumption | trivial | (simp; done) | (simp; omega) | rfl
  | [], y :: lm, f1, n1, k1, L1, f2, n2, k2, L2, hs, hm => by
    have sf := sR_flat hs
    have mf := mR_flat hm
    obtain ⟨s1, s2⟩ := spop_nil hs
    obtain ⟨m1, f2', n2', L2', m2, m3⟩ := mpop_cons hm
    have mf3 := mR_flat m3
    have w := clears_w7_1 q l.length (aQ l) b.length (aQ b) t n1 k1 L1 f1 f2 n2 k2 L2 b6 true _ s2 _ m2
    refine Gets.ends ?_ (clears_run7 hb t b6 [] lm f1 n1 k1 L1 f2' n2' k2 L2' hs m3)
    apply w
    all_goals first | omega | assumption | trivial | (simp; done) | (simp; omega) | rfl
  | [], [], f1, n1, k1, L1, f2, n2, k2, L2, hs, hm => by
    have sf := sR_flat hs
    have mf := mR_flat hm
    obtain ⟨s1, s2⟩ := spop_nil hs
    obtain ⟨m1, m2⟩ := mpop_nil hm
    have w := clears_w7_2 q l.length (aQ l) b.length (aQ b) t n1 k1 L1 f1 f2 n2 k2 L2 b6 true _ s2 _ m2
    refine Gets.ends ?_ (clears_run4 (l := l) hb true [] [] b6 f1 n1 k1 L1 f2 n2 k2 L2 hs hm)
    apply w
    all_goals first | omega | assumption | trivial | (simp; done) | (simp; omega) | rfl
termination_by ls lm => (ls.length, lm.length)
theorem clears_run9 (hb : b.length ≤ 200) (t t' : Int) (b6 : Bool) {lm : List mT} : ∀ (ls : List sT) (f1 n1 : Int) (k1 : Nat) (L1 : List Value) (f2 n2 : Int) (k2 : Nat) (L2 : List Value), sR 4 f1 n1 k1 L1 ls → mR q f2 n2 k2 L2 lm →
    AEnds E 8 0 (clears_h9 q l.length (aQ l) b.length (aQ b) t n1 k1 L1 f1 f2 n2 k2 L2 b6 t' true) (.bool true) []
  | x :: ls, f1, n1, k1, L1, f2, n2, k2, L2, hs, hm => by
    have sf := sR_flat hs
    have mf := mR_flat hm
    obtain ⟨s1, f1', n1', L1', s2, s3⟩ := spop_cons hs
    have sf3 := sR_flat s3
    have w := clears_w9_0 q l.length (aQ l) b.length (aQ b) t n1 k1 L1 f1 f2 n2 k2 L2 b6 t' true _ s2
    refine Gets.ends ?_ (clears_run9 hb t t' b6 ls f1' n1' k1 L1' f2 n2 k2 L2 s3 hm)
    apply w
    all_goals first | omega | assumption | trivial | (simp; done) | (simp; omega) | rfl
  | [], f1, n1, k1, L1, f2, n2, k2, L2, hs, hm => by
    have sf := sR_flat hs
    have mf := mR_flat hm
    obtain ⟨s1, s2⟩ := spop_nil hs
    have w := clears_w9_1 q l.length (aQ l) b.length (aQ b) t n1 k1 L1 f1 f2 n2 k2 L2 b6 t' true _ s2
    refine Gets.ends ?_ (clears_run7 (l := l) hb t' b6 [] lm f1 n1 k1 L1 f2 n2 k2 L2 hs hm)
    apply w
    all_goals first | omega | assumption | trivial | (simp; done) | (simp; omega) | rfl
/-- What is shown of the acts from the i-th on, at the four heads. -/
def Acts (q : Int) (l b : List Act) (i : Nat) : Prop := ∀ (ls : List sT) (lm : List mT) (f1 n1 : Int) (k1 : Nat) (L1 : List Value) (f2 n2 : Int) (k2 : Nat) (L2 : List Value) (b5 b6 : Bool), sR 4 f1 n1 k1 L1 ls → mR q f2 n2 k2 L2 lm →
    (∀ b4, AEnds E 8 0 (clears_h1 q l.length (aQ l) b.length (aQ b) i n1 k1 L1 f1 f2 n2 k2 L2 b5 b6 b4) (.bool true) []) ∧ (∀ t b4, AEnds E 8 0 (clears_h2 q l.length (aQ l) b.length (aQ b) t n1 k1 L1 f1 f2 n2 k2 L2 b5 b6 b4 i) (.bool true) []) ∧ (∀ t, AEnds E 8 0 (clears_h3 q l.length (aQ l) b.length (aQ b) t n1 k1 L1 f1 f2 n2 k2 L2 b5 b6 i) (.bool true) []) ∧ (∀ t t', AEnds E 8 0 (clears_h5 q l.length (aQ l) b.length (aQ b) t n1 k1 L1 f1 f2 n2 k2 L2 b5 b6 t' i) (.bool true) [])
theorem clears_acts0 (hb : b.length ≤ 200) (i : Nat) (hi : i = l.length) : Acts q l b i := by
  intro ls lm f1 n1 k1 L1 f2 n2 k2 L2 b5 b6 hs hm
  have sf := sR_flat hs
  have mf := mR_flat hm
  refine ⟨fun b4 => ?_, fun t b4 => ?_, fun t => ?_, fun t t' => ?_⟩
  · refine Gets.ends ?_ (clears_run4 (l := l) hb b4 ls lm b6 f1 n1 k1 L1 f2 n2 k2 L2 hs hm)
    apply clears_w1_20 q l.length (aQ l) b.length (aQ b) i n1 k1 L1 f1 f2 n2 k2 L2 b5 b6 b4
    all_goals first | omega | assumption | trivial | (simp; done) | (simp; omega) | rfl
  · refine Gets.ends ?_ (clears_run6 (l := l) hb t b6 b4 ls f1 n1 k1 L1 f2 n2 k2 L2 hs hm)
    apply clears_w2_17 q l.length (aQ l) b.length (aQ b) t n1 k1 L1 f1 f2 n2 k2 L2 b5 b6 b4 i
    all_goals first | omega | assumption | trivial | (simp; done) | (simp; omega) | rfl
  · refine Gets.ends ?_ (clears_run7 (l := l) hb t b6 ls lm f1 n1 k1 L1 f2 n2 k2 L2 hs hm)
    apply clears_w3_8 q l.length (aQ l) b.length (aQ b) t n1 k1 L1 f1 f2 n2 k2 L2 b5 b6 i
    all_goals first | omega | assumption | trivial | (simp; done) | (simp; omega) | rfl
  · refine Gets.ends ?_ (clears_run9 (l := l) hb t t' b6 ls f1 n1 k1 L1 f2 n2 k2 L2 hs hm)
    apply clears_w5_7 q l.length (aQ l) b.length (aQ b) t n1 k1 L1 f1 f2 n2 k2 L2 b5 b6 t' i
    all_goals first | omega | assumption | trivial | (simp; done) | (simp; omega) | rfl
set_option maxHeartbeats 2000000 in
theorem clears_acts1
    (hl : l.length ≤ 200) (i : Nat) (hi : i < l.length) (ih : Acts q l b (i + 1)) (hq : 1 ≤ q ∧ q ≤ 64)
    (ls : List sT) (lm : List mT) (f1 n1 : Int) (k1 : Nat) (L1 : List Value) (f2 n2 : Int) (k2 : Nat) (L2 : List Value) (b5 b6 : Bool) (hs : sR 4 f1 n1 k1 L1 ls) (hm : mR q f2 n2 k2 L2 lm) (b4 : Bool) : AEnds E 8 0 (clears_h1 q l.length (aQ l) b.length (aQ b) i n1 k1 L1 f1 f2 n2 k2 L2 b5 b6 b4) (.bool true) [] := by
  obtain ⟨⟨ak, ax, tx⟩, ha⟩ : ∃ a, l[i]? = some a := ⟨_, List.getElem?_eq_getElem hi⟩
  obtain ⟨g, g0, g1, g2⟩ := aQ_get ha
  have hlen := aQ_len l
  have sf := sR_flat hs
  have mf := mR_flat hm
  have sn := (sR_n hs).1
  have mn := (mR_n hm).1
  by_cases c0 : ak = 0
  · subst c0
    cases b4 with
    | true =>
      have w := clears_w1_0 q l.length (aQ l) b.length (aQ b) i n1 k1 L1 f1 f2 n2 k2 L2 b5 b6 true
      simp only [Int.toNat_natCast, g0, g1, g2, toInt, toStr, isInt, isStr] at w
      rw [wrap64_in (x := (i : Int) + 1) (by omega) (by omega)] at w
      refine Gets.ends ?_ ((ih ls lm f1 n1 k1 L1 f2 n2 k2 L2 b5 b6 hs hm).1 true)
      apply w
      all_goals first | omega | assumption | trivial | (simp; done) | (simp; omega) | rfl
    | false =>
      cases b5 with
      | true =>
        have w := clears_w1_1 q l.length (aQ l) b.length (aQ b) i n1 k1 L1 f1 f2 n2 k2 L2 true b6 false
        simp only [Int.toNat_natCast, g0, g1, g2, toInt, toStr, isInt, isStr] at w
        rw [wrap64_in (x := (i : Int) + 1) (by omega) (by omega)] at w
        refine Gets.ends ?_ ((ih ls lm f1 n1 k1 L1 f2 n2 k2 L2 true b6 hs hm).1 false)
        apply w
        all_goals first | omega | assumption | trivial | (simp; done) | (simp; omega) | rfl
      | false =>
        have pre := sR_pre hs tx
        by_cases cn : n1 < 4
        · obtain ⟨f1', n1', k1', L1', u1, u2⟩ := spush_in hs tx cn
          have uf := sR_flat u2
          have w := clears_w1_3 q l.length (aQ l) b.length (aQ b) i n1 k1 L1 f1 f2 n2 k2 L2 false b6 false
          simp only [Int.toNat_natCast, g0, g1, g2, toInt, toStr, isInt, isStr] at w
          have w := w _ u1
          rw [wrap64_in (x := (i : Int) + 1) (by omega) (by omega)] at w
          refine Gets.ends ?_ ((ih (ls ++ [tx]) lm f1' n1' k1' L1' f2 n2 k2 L2 false b6 u2 hm).1 false)
          apply w
          all_goals first | omega | assumption | trivial | (simp; done) | (simp; omega) | rfl
        · have u1 := spush_full (ln := k1) (L := L1) (first := f1) tx (show 4 ≤ n1 by omega)
          have w := clears_w1_2 q l.length (aQ l) b.length (aQ b) i n1 k1 L1 f1 f2 n2 k2 L2 false b6 false
          simp only [Int.toNat_natCast, g0, g1, g2, toInt, toStr, isInt, isStr] at w
          have w := w _ u1
          rw [wrap64_in (x := (i : Int) + 1) (by omega) (by omega)] at w
          refine Gets.ends ?_ ((ih ls lm f1 n1 k1 L1 f2 n2 k2 L2 false b6 hs hm).1 false)
          apply w
          all_goals first | omega | assumption | trivial | (simp; done) | (simp; omega) | rfl
  by_cases c1 : ak = 1
  · subst c1
    cases b4 with
    | true =>
      have w := clears_w1_4 q l.length (aQ l) b.length (aQ b) i n1 k1 L1 f1 f2 n2 k2 L2 b5 b6 true
      simp only [Int.toNat_natCast, g0, g1, g2, toInt, toStr, isInt, isStr] at w
      rw [wrap64_in (x := (i : Int) + 1) (by omega) (by omega)] at w
      refine Gets.ends ?_ ((ih ls lm f1 n1 k1 L1 f2 n2 k2 L2 b5 b6 hs hm).1 true)
      apply w
      all_goals first | omega | assumption | trivial | (simp; done) | (simp; omega) | rfl
    | false =>
      cases b5 with
      | true =>
        have w := clears_w1_5 q l.length (aQ l) b.length (aQ b) i n1 k1 L1 f1 f2 n2 k2 L2 true b6 false
        simp only [Int.toNat_natCast, g0, g1, g2, toInt, toStr, isInt, isStr] at w
        rw [wrap64_in (x := (i : Int) + 1) (by omega) (by omega)] at w
        refine Gets.ends ?_ ((ih ls lm f1 n1 k1 L1 f2 n2 k2 L2 true b6 hs hm).1 false)
        apply w
        all_goals first | omega | assumption | trivial | (simp; done) | (simp; omega) | rfl
      | false =>
        have w := clears_w1_6 q l.length (aQ l) b.length (aQ b) i n1 k1 L1 f1 f2 n2 k2 L2 false b6 false
        simp only [Int.toNat_natCast, g0, g1, g2, toInt, toStr, isInt, isStr] at w
        rw [wrap64_in (x := (i : Int) + 1) (by omega) (by omega)] at w
        refine Gets.ends ?_ ((ih ls lm f1 n1 k1 L1 f2 n2 k2 L2 false b6 hs hm).2.1 i false)
        apply w
        all_goals first | omega | assumption | trivial | (simp; done) | (simp; omega) | rfl
  by_cases c2 : ak = 2
  · subst c2
    cases b4 with
    | true =>
      have w := clears_w1_7 q l.length (aQ l) b.length (aQ b) i n1 k1 L1 f1 f2 n2 k2 L2 b5 b6 true
      simp only [Int.toNat_natCast, g0, g1, g2, toInt, toStr, isInt, isStr] at w
      rw [wrap64_in (x := (i : Int) + 1) (by omega) (by omega)] at w
      refine Gets.ends ?_ ((ih ls lm f1 n1 k1 L1 f2 n2 k2 L2 b5 b6 hs hm).1 true)
      apply w
      all_goals first | omega | assumption | trivial | (simp; done) | (simp; omega) | rfl
    | false =>
      cases b5 with
      | true =>
        have w := clears_w1_8 q l.length (aQ l) b.length (aQ b) i n1 k1 L1 f1 f2 n2 k2 L2 true b6 false
        simp only [Int.toNat_natCast, g0, g1, g2, toInt, toStr, isInt, isStr] at w
        rw [wrap64_in (x := (i : Int) + 1) (by omega) (by omega)] at w
        refine Gets.ends ?_ ((ih ls lm f1 n1 k1 L1 f2 n2 k2 L2 true b6 hs hm).1 false)
        apply w
        all_goals first | omega | assumption | trivial | (simp; done) | (simp; omega) | rfl
      | false =>
        have pre := mR_pre' hm 3 (IntKind.i64.wrap ax) tx
        by_cases cn : n2 < q
        · obtain ⟨f2', n2', k2', L2', u1, u2⟩ := mpush_in hm (3, IntKind.i64.wrap ax, tx) cn
          have uf := mR_flat u2
          have w := clears_w1_10 q l.length (aQ l) b.length (aQ b) i n1 k1 L1 f1 f2 n2 k2 L2 false b6 false
          simp only [Int.toNat_natCast, g0, g1, g2, toInt, toStr, isInt, isStr] at w
          have w := w _ u1
          rw [wrap64_in (x := (i : Int) + 1) (by omega) (by omega)] at w
          refine Gets.ends ?_ ((ih ls (lm ++ [(3, IntKind.i64.wrap ax, tx)]) f1 n1 k1 L1 f2' n2' k2' L2' false b6 hs u2).1 false)
          apply w
          all_goals first | omega | assumption | trivial | (simp; done) | (simp; omega) | rfl
        · have u1 := mpush_full (ln := k2) (L := L2) (first := f2) (3, IntKind.i64.wrap ax, tx) (show q ≤ n2 by omega)
          have w := clears_w1_9 q l.length (aQ l) b.length (aQ b) i n1 k1 L1 f1 f2 n2 k2 L2 false b6 false
          simp only [Int.toNat_natCast, g0, g1, g2, toInt, toStr, isInt, isStr] at w
          have w := w _ u1
          rw [wrap64_in (x := (i : Int) + 1) (by omega) (by omega)] at w
          refine Gets.ends ?_ ((ih ls lm f1 n1 k1 L1 f2 n2 k2 L2 false b6 hs hm).1 false)
          apply w
          all_goals first | omega | assumption | trivial | (simp; done) | (simp; omega) | rfl
  by_cases c3 : ak = 3
  · subst c3
    cases b4 with
    | true =>
      have w := clears_w1_11 q l.length (aQ l) b.length (aQ b) i n1 k1 L1 f1 f2 n2 k2 L2 b5 b6 true
      simp only [Int.toNat_natCast, g0, g1, g2, toInt, toStr, isInt, isStr] at w
      rw [wrap64_in (x := (i : Int) + 1) (by omega) (by omega)] at w
      refine Gets.ends ?_ ((ih ls lm f1 n1 k1 L1 f2 n2 k2 L2 b5 b6 hs hm).1 true)
      apply w
      all_goals first | omega | assumption | trivial | (simp; done) | (simp; omega) | rfl
    | false =>
      cases b5 with
      | true =>
        have w := clears_w1_12 q l.length (aQ l) b.length (aQ b) i n1 k1 L1 f1 f2 n2 k2 L2 true b6 false
        simp only [Int.toNat_natCast, g0, g1, g2, toInt, toStr, isInt, isStr] at w
        rw [wrap64_in (x := (i : Int) + 1) (by omega) (by omega)] at w
        refine Gets.ends ?_ ((ih ls lm f1 n1 k1 L1 f2 n2 k2 L2 true b6 hs hm).1 false)
        apply w
        all_goals first | omega | assumption | trivial | (simp; done) | (simp; omega) | rfl
      | false =>
        have w := clears_w1_13 q l.length (aQ l) b.length (aQ b) i n1 k1 L1 f1 f2 n2 k2 L2 false b6 false
        simp only [Int.toNat_natCast, g0, g1, g2, toInt, toStr, isInt, isStr] at w
        rw [wrap64_in (x := (i : Int) + 1) (by omega) (by omega)] at w
        refine Gets.ends ?_ ((ih ls lm f1 n1 k1 L1 f2 n2 k2 L2 false b6 hs hm).2.2.1 i)
        apply w
        all_goals first | omega | assumption | trivial | (simp; done) | (simp; omega) | rfl
  by_cases c4 : ak = 4
  · subst c4
    have w := clears_w1_14 q l.length (aQ l) b.length (aQ b) i n1 k1 L1 f1 f2 n2 k2 L2 b5 b6 b4
    simp only [Int.toNat_natCast, g0, g1, g2, toInt, toStr, isInt, isStr] at w
    rw [wrap64_in (x := (i : Int) + 1) (by omega) (by omega)] at w
    refine Gets.ends ?_ ((ih ls lm f1 n1 k1 L1 f2 n2 k2 L2 true b6 hs hm).1 b4)
    apply w
    all_goals first | omega | assumption | trivial | (simp; done) | (simp; omega) | rfl
  have e0 : (ak == 0) = false := by simpa using c0
  have e1 : (ak == 1) = false := by simpa using c1
  have e2 : (ak == 2) = false := by simpa using c2
  have e3 : (ak == 3) = false := by simpa using c3
  have e4 : (ak == 4) = false := by simpa using c4
  cases ls with
  | cons x ls =>
    obtain ⟨s1, f1', n1', L1', s2, s3⟩ := spop_cons hs
    have sf3 := sR_flat s3
    have w := clears_w1_15 q l.length (aQ l) b.length (aQ b) i n1 k1 L1 f1 f2 n2 k2 L2 b5 b6 b4 _ s2
    simp only [Int.toNat_natCast, g0, g1, g2, toInt, toStr, isInt, isStr] at w
    rw [wrap64_in (x := (i : Int) + 1) (by omega) (by omega)] at w
    refine Gets.ends ?_ ((ih ls lm f1' n1' k1 L1' f2 n2 k2 L2 b5 b6 s3 hm).1 b4)
    apply w
    all_goals first | omega | assumption | trivial | (simp; done) | (simp; omega) | rfl
  | nil =>
    obtain ⟨s1, s2⟩ := spop_nil hs
    cases lm with
    | cons y lm =>
      obtain ⟨m1, f2', n2', L2', m2, m3⟩ := mpop_cons hm
      have mf3 := mR_flat m3
      have w := clears_w1_16 q l.length (aQ l) b.length (aQ b) i n1 k1 L1 f1 f2 n2 k2 L2 b5 b6 b4 _ s2 _ m2
      simp only [Int.toNat_natCast, g0, g1, g2, toInt, toStr, isInt, isStr] at w
      rw [wrap64_in (x := (i : Int) + 1) (by omega) (by omega)] at w
      refine Gets.ends ?_ ((ih [] lm f1 n1 k1 L1 f2' n2' k2 L2' b5 b6 hs m3).1 b4)
      apply w
      all_goals first | omega | assumption | trivial | (simp; done) | (simp; omega) | rfl
    | nil =>
      obtain ⟨m1, m2⟩ := mpop_nil hm
      cases b5 with
      | false =>
        have w := clears_w1_19 q l.length (aQ l) b.length (aQ b) i n1 k1 L1 f1 f2 n2 k2 L2 false b6 b4 _ s2 _ m2
        simp only [Int.toNat_natCast, g0, g1, g2, toInt, toStr, isInt, isStr] at w
        rw [wrap64_in (x := (i : Int) + 1) (by omega) (by omega)] at w
        refine Gets.ends ?_ ((ih [] [] f1 n1 k1 L1 f2 n2 k2 L2 false b6 hs hm).1 b4)
        apply w
        all_goals first | omega | assumption | trivial | (simp; done) | (simp; omega) | rfl
      | true =>
        cases b6 with
        | false =>
          have w := clears_w1_17 q l.length (aQ l) b.length (aQ b) i n1 k1 L1 f1 f2 n2 k2 L2 true false b4 _ s2 _ m2
          simp only [Int.toNat_natCast, g0, g1, g2, toInt, toStr, isInt, isStr] at w
          rw [wrap64_in (x := (i : Int) + 1) (by omega) (by omega)] at w
          refine Gets.ends ?_ ((ih [] [] f1 n1 k1 L1 f2 n2 k2 L2 true true hs hm).1 b4)
          apply w
          all_goals first | omega | assumption | trivial | (simp; done) | (simp; omega) | rfl
        | true =>
          have w := clears_w1_18 q l.length (aQ l) b.length (aQ b) i n1 k1 L1 f1 f2 n2 k2 L2 true true b4 _ s2 _ m2
          simp only [Int.toNat_natCast, g0, g1, g2, toInt, toStr, isInt, isStr] at w
          rw [wrap64_in (x := (i : Int) + 1) (by omega) (by omega)] at w
          refine Gets.ends ?_ ((ih [] [] f1 n1 k1 L1 f2 n2 k2 L2 true true hs hm).1 b4)
          apply w
          all_goals first | omega | assumption | trivial | (simp; done) | (simp; omega) | rfl
set_option maxHeartbeats 2000000 in
theorem clears_acts2
    (hl : l.length ≤ 200) (i : Nat) (hi : i < l.length) (ih : Acts q l b (i + 1)) (hq : 1 ≤ q ∧ q ≤ 64)
    (ls : List sT) (lm : List mT) (f1 n1 : Int) (k1 : Nat) (L1 : List Value) (f2 n2 : Int) (k2 : Nat) (L2 : List Value) (b5 b6 : Bool) (hs : sR 4 f1 n1 k1 L1 ls) (hm : mR q f2 n2 k2 L2 lm) (t : Int) (b4 : Bool) : AEnds E 8 0 (clears_h2 q l.length (aQ l) b.length (aQ b) t n1 k1 L1 f1 f2 n2 k2 L2 b5 b6 b4 i) (.bool true) [] := by
  obtain ⟨⟨ak, ax, tx⟩, ha⟩ : ∃ a, l[i]? = some a := ⟨_, List.getElem?_eq_getElem hi⟩
  obtain ⟨g, g0, g1, g2⟩ := aQ_get ha
  have hlen := aQ_len l
  have sf := sR_flat hs
  have mf := mR_flat hm
  have sn := (sR_n hs).1
  have mn := (mR_n hm).1
  by_cases c0 : ak = 0
  · subst c0
    cases b4 with
    | true =>
      have w := clears_w2_0 q l.length (aQ l) b.length (aQ b) t n1 k1 L1 f1 f2 n2 k2 L2 b5 b6 true i
      simp only [Int.toNat_natCast, g0, g1, g2, toInt, toStr, isInt, isStr] at w
      rw [wrap64_in (x := (i : Int) + 1) (by omega) (by omega)] at w
      refine Gets.ends ?_ ((ih ls lm f1 n1 k1 L1 f2 n2 k2 L2 b5 b6 hs hm).2.1 t true)
      apply w
      all_goals first | omega | assumption | trivial | (simp; done) | (simp; omega) | rfl
    | false =>
      cases b5 with
      | true =>
        have w := clears_w2_1 q l.length (aQ l) b.length (aQ b) t n1 k1 L1 f1 f2 n2 k2 L2 true b6 false i
        simp only [Int.toNat_natCast, g0, g1, g2, toInt, toStr, isInt, isStr] at w
        rw [wrap64_in (x := (i : Int) + 1) (by omega) (by omega)] at w
        refine Gets.ends ?_ ((ih ls lm f1 n1 k1 L1 f2 n2 k2 L2 true b6 hs hm).2.1 t false)
        apply w
        all_goals first | omega | assumption | trivial | (simp; done) | (simp; omega) | rfl
      | false =>
        have pre := sR_pre hs tx
        by_cases cn : n1 < 4
        · obtain ⟨f1', n1', k1', L1', u1, u2⟩ := spush_in hs tx cn
          have uf := sR_flat u2
          have w := clears_w2_3 q l.length (aQ l) b.length (aQ b) t n1 k1 L1 f1 f2 n2 k2 L2 false b6 false i
          simp only [Int.toNat_natCast, g0, g1, g2, toInt, toStr, isInt, isStr] at w
          have w := w _ u1
          rw [wrap64_in (x := (i : Int) + 1) (by omega) (by omega)] at w
          refine Gets.ends ?_ ((ih (ls ++ [tx]) lm f1' n1' k1' L1' f2 n2 k2 L2 false b6 u2 hm).2.1 t false)
          apply w
          all_goals first | omega | assumption | trivial | (simp; done) | (simp; omega) | rfl
        · have u1 := spush_full (ln := k1) (L := L1) (first := f1) tx (show 4 ≤ n1 by omega)
          have w := clears_w2_2 q l.length (aQ l) b.length (aQ b) t n1 k1 L1 f1 f2 n2 k2 L2 false b6 false i
          simp only [Int.toNat_natCast, g0, g1, g2, toInt, toStr, isInt, isStr] at w
          have w := w _ u1
          rw [wrap64_in (x := (i : Int) + 1) (by omega) (by omega)] at w
          refine Gets.ends ?_ ((ih ls lm f1 n1 k1 L1 f2 n2 k2 L2 false b6 hs hm).2.1 t false)
          apply w
          all_goals first | omega | assumption | trivial | (simp; done) | (simp; omega) | rfl
  by_cases c1 : ak = 1
  · subst c1
    cases b4 with
    | true =>
      have w := clears_w2_4 q l.length (aQ l) b.length (aQ b) t n1 k1 L1 f1 f2 n2 k2 L2 b5 b6 true i
      simp only [Int.toNat_natCast, g0, g1, g2, toInt, toStr, isInt, isStr] at w
      rw [wrap64_in (x := (i : Int) + 1) (by omega) (by omega)] at w
      refine Gets.ends ?_ ((ih ls lm f1 n1 k1 L1 f2 n2 k2 L2 b5 b6 hs hm).2.1 t true)
      apply w
      all_goals first | omega | assumption | trivial | (simp; done) | (simp; omega) | rfl
    | false =>
      cases b5 with
      | true =>
        have w := clears_w2_5 q l.length (aQ l) b.length (aQ b) t n1 k1 L1 f1 f2 n2 k2 L2 true b6 false i
        simp only [Int.toNat_natCast, g0, g1, g2, toInt, toStr, isInt, isStr] at w
        rw [wrap64_in (x := (i : Int) + 1) (by omega) (by omega)] at w
        refine Gets.ends ?_ ((ih ls lm f1 n1 k1 L1 f2 n2 k2 L2 true b6 hs hm).2.1 t false)
        apply w
        all_goals first | omega | assumption | trivial | (simp; done) | (simp; omega) | rfl
      | false =>
        have w := clears_w2_6 q l.length (aQ l) b.length (aQ b) t n1 k1 L1 f1 f2 n2 k2 L2 false b6 false i
        simp only [Int.toNat_natCast, g0, g1, g2, toInt, toStr, isInt, isStr] at w
        rw [wrap64_in (x := (i : Int) + 1) (by omega) (by omega)] at w
        refine Gets.ends ?_ ((ih ls lm f1 n1 k1 L1 f2 n2 k2 L2 false b6 hs hm).2.1 i false)
        apply w
        all_goals first | omega | assumption | trivial | (simp; done) | (simp; omega) | rfl
  by_cases c2 : ak = 2
  · subst c2
    cases b4 with
    | true =>
      have w := clears_w2_7 q l.length (aQ l) b.length (aQ b) t n1 k1 L1 f1 f2 n2 k2 L2 b5 b6 true i
      simp only [Int.toNat_natCast, g0, g1, g2, toInt, toStr, isInt, isStr] at w
      rw [wrap64_in (x := (i : Int) + 1) (by omega) (by omega)] at w
      refine Gets.ends ?_ ((ih ls lm f1 n1 k1 L1 f2 n2 k2 L2 b5 b6 hs hm).2.1 t true)
      apply w
      all_goals first | omega | assumption | trivial | (simp; done) | (simp; omega) | rfl
    | false =>
      cases b5 with
      | true =>
        have w := clears_w2_8 q l.length (aQ l) b.length (aQ b) t n1 k1 L1 f1 f2 n2 k2 L2 true b6 false i
        simp only [Int.toNat_natCast, g0, g1, g2, toInt, toStr, isInt, isStr] at w
        rw [wrap64_in (x := (i : Int) + 1) (by omega) (by omega)] at w
        refine Gets.ends ?_ ((ih ls lm f1 n1 k1 L1 f2 n2 k2 L2 true b6 hs hm).2.1 t false)
        apply w
        all_goals first | omega | assumption | trivial | (simp; done) | (simp; omega) | rfl
      | false =>
        have pre := mR_pre' hm 3 (IntKind.i64.wrap ax) tx
        by_cases cn : n2 < q
        · obtain ⟨f2', n2', k2', L2', u1, u2⟩ := mpush_in hm (3, IntKind.i64.wrap ax, tx) cn
          have uf := mR_flat u2
          have w := clears_w2_10 q l.length (aQ l) b.length (aQ b) t n1 k1 L1 f1 f2 n2 k2 L2 false b6 false i
          simp only [Int.toNat_natCast, g0, g1, g2, toInt, toStr, isInt, isStr] at w
          have w := w _ u1
          rw [wrap64_in (x := (i : Int) + 1) (by omega) (by omega)] at w
          refine Gets.ends ?_ ((ih ls (lm ++ [(3, IntKind.i64.wrap ax, tx)]) f1 n1 k1 L1 f2' n2' k2' L2' false b6 hs u2).2.1 t false)
          apply w
          all_goals first | omega | assumption | trivial | (simp; done) | (simp; omega) | rfl
        · have u1 := mpush_full (ln := k2) (L := L2) (first := f2) (3, IntKind.i64.wrap ax, tx) (show q ≤ n2 by omega)
          have w := clears_w2_9 q l.length (aQ l) b.length (aQ b) t n1 k1 L1 f1 f2 n2 k2 L2 false b6 false i
          simp only [Int.toNat_natCast, g0, g1, g2, toInt, toStr, isInt, isStr] at w
          have w := w _ u1
          rw [wrap64_in (x := (i : Int) + 1) (by omega) (by omega)] at w
          refine Gets.ends ?_ ((ih ls lm f1 n1 k1 L1 f2 n2 k2 L2 false b6 hs hm).2.1 t false)
          apply w
          all_goals first | omega | assumption | trivial | (simp; done) | (simp; omega) | rfl
  by_cases c3 : ak = 3
  · subst c3
    cases b4 with
    | true =>
      have w := clears_w2_11 q l.length (aQ l) b.length (aQ b) t n1 k1 L1 f1 f2 n2 k2 L2 b5 b6 true i
      simp only [Int.toNat_natCast, g0, g1, g2, toInt, toStr, isInt, isStr] at w
      rw [wrap64_in (x := (i : Int) + 1) (by omega) (by omega)] at w
      refine Gets.ends ?_ ((ih ls lm f1 n1 k1 L1 f2 n2 k2 L2 b5 b6 hs hm).2.1 t true)
      apply w
      all_goals first | omega | assumption | trivial | (simp; done) | (simp; omega) | rfl
    | false =>
      cases b5 with
      | true =>
        have w := clears_w2_12 q l.length (aQ l) b.length (aQ b) t n1 k1 L1 f1 f2 n2 k2 L2 true b6 false i
        simp only [Int.toNat_natCast, g0, g1, g2, toInt, toStr, isInt, isStr] at w
        rw [wrap64_in (x := (i : Int) + 1) (by omega) (by omega)] at w
        refine Gets.ends ?_ ((ih ls lm f1 n1 k1 L1 f2 n2 k2 L2 true b6 hs hm).2.1 t false)
        apply w
        all_goals first | omega | assumption | trivial | (simp; done) | (simp; omega) | rfl
      | false =>
        have w := clears_w2_13 q l.length (aQ l) b.length (aQ b) t n1 k1 L1 f1 f2 n2 k2 L2 false b6 false i
        simp only [Int.toNat_natCast, g0, g1, g2, toInt, toStr, isInt, isStr] at w
        rw [wrap64_in (x := (i : Int) + 1) (by omega) (by omega)] at w
        refine Gets.ends ?_ ((ih ls lm f1 n1 k1 L1 f2 n2 k2 L2 false b6 hs hm).2.2.2 t i)
        apply w
        all_goals first | omega | assumption | trivial | (simp; done) | (simp; omega) | rfl
  by_cases c4 : ak = 4
  · subst c4
    have w := clears_w2_14 q l.length (aQ l) b.length (aQ b) t n1 k1 L1 f1 f2 n2 k2 L2 b5 b6 b4 i
    simp only [Int.toNat_natCast, g0, g1, g2, toInt, toStr, isInt, isStr] at w
    rw [wrap64_in (x := (i : Int) + 1) (by omega) (by omega)] at w
    refine Gets.ends ?_ ((ih ls lm f1 n1 k1 L1 f2 n2 k2 L2 true b6 hs hm).2.1 t b4)
    apply w
    all_goals first | omega | assumption | trivial | (simp; done) | (simp; omega) | rfl
  have e0 : (ak == 0) = false := by simpa using c0
  have e1 : (ak == 1) = false := by simpa using c1
  have e2 : (ak == 2) = false := by simpa using c2
  have e3 : (ak == 3) = false := by simpa using c3
  have e4 : (ak == 4) = false := by simpa using c4
  cases ls with
  | cons x ls =>
    obtain ⟨s1, f1', n1', L1', s2, s3⟩ := spop_cons hs
    have sf3 := sR_flat s3
    have w := clears_w2_15 q l.length (aQ l) b.length (aQ b) t n1 k1 L1 f1 f2 n2 k2 L2 b5 b6 b4 i _ s2
    simp only [Int.toNat_natCast, g0, g1, g2, toInt, toStr, isInt, isStr] at w
    rw [wrap64_in (x := (i : Int) + 1) (by omega) (by omega)] at w
    refine Gets.ends ?_ ((ih ls lm f1' n1' k1 L1' f2 n2 k2 L2 b5 b6 s3 hm).2.1 t b4)
    apply w
    all_goals first | omega | assumption | trivial | (simp; done) | (simp; omega) | rfl
  | nil =>
    obtain ⟨s1, s2⟩ := spop_nil hs
    have w := clears_w2_16 q l.length (aQ l) b.length (aQ b) t n1 k1 L1 f1 f2 n2 k2 L2 b5 b6 b4 i _ s2
    simp only [Int.toNat_natCast, g0, g1, g2, toInt, toStr, isInt, isStr] at w
    rw [wrap64_in (x := (i : Int) + 1) (by omega) (by omega)] at w
    refine Gets.ends ?_ ((ih [] lm f1 n1 k1 L1 f2 n2 k2 L2 b5 b6 hs hm).1 b4)
    apply w
    all_goals first | omega | assumption | trivial | (simp; done) | (simp; omega) | rfl
set_option maxHeartbeats 2000000 in
theorem clears_acts3
    (hl : l.length ≤ 200) (i : Nat) (hi : i < l.length) (ih : Acts q l b (i + 1)) (hq : 1 ≤ q ∧ q ≤ 64)
    (ls : List sT) (lm : List mT) (f1 n1 : Int) (k1 : Nat) (L1 : List Value) (f2 n2 : Int) (k2 : Nat) (L2 : List Value) (b5 b6 : Bool) (hs : sR 4 f1 n1 k1 L1 ls) (hm : mR q f2 n2 k2 L2 lm) (t : Int) : AEnds E 8 0 (clears_h3 q l.length (aQ l) b.length (aQ b) t n1 k1 L1 f1 f2 n2 k2 L2 b5 b6 i) (.bool true) [] := by
  obtain ⟨⟨ak, ax, tx⟩, ha⟩ : ∃ a, l[i]? = some a := ⟨_, List.getElem?_eq_getElem hi⟩
  obtain ⟨g, g0, g1, g2⟩ := aQ_get ha
  have hlen := aQ_len l
  have sf := sR_flat hs
  have mf := mR_flat hm
  have sn := (sR_n hs).1
  have mn := (mR_n hm).1
  by_cases c0 : ak = 0
  · subst c0
    have w := clears_w3_0 q l.length (aQ l) b.length (aQ b) t n1 k1 L1 f1 f2 n2 k2 L2 b5 b6 i
    simp only [Int.toNat_natCast, g0, g1, g2, toInt, toStr, isInt, isStr] at w
    rw [wrap64_in (x := (i : Int) + 1) (by omega) (by omega)] at w
    refine Gets.ends ?_ ((ih ls lm f1 n1 k1 L1 f2 n2 k2 L2 b5 b6 hs hm).2.2.1 t)
    apply w
    all_goals first | omega | assumption | trivial | (simp; done) | (simp; omega) | rfl
  by_cases c1 : ak = 1
  · subst c1
    have w := clears_w3_1 q l.length (aQ l) b.length (aQ b) t n1 k1 L1 f1 f2 n2 k2 L2 b5 b6 i
    simp only [Int.toNat_natCast, g0, g1, g2, toInt, toStr, isInt, isStr] at w
    rw [wrap64_in (x := (i : Int) + 1) (by omega) (by omega)] at w
    refine Gets.ends ?_ ((ih ls lm f1 n1 k1 L1 f2 n2 k2 L2 b5 b6 hs hm).2.2.1 t)
    apply w
    all_goals first | omega | assumption | trivial | (simp; done) | (simp; omega) | rfl
  by_cases c2 : ak = 2
  · subst c2
    have w := clears_w3_2 q l.length (aQ l) b.length (aQ b) t n1 k1 L1 f1 f2 n2 k2 L2 b5 b6 i
    simp only [Int.toNat_natCast, g0, g1, g2, toInt, toStr, isInt, isStr] at w
    rw [wrap64_in (x := (i : Int) + 1) (by omega) (by omega)] at w
    refine Gets.ends ?_ ((ih ls lm f1 n1 k1 L1 f2 n2 k2 L2 b5 b6 hs hm).2.2.1 t)
    apply w
    all_goals first | omega | assumption | trivial | (simp; done) | (simp; omega) | rfl
  by_cases c3 : ak = 3
  · subst c3
    have w := clears_w3_3 q l.length (aQ l) b.length (aQ b) t n1 k1 L1 f1 f2 n2 k2 L2 b5 b6 i
    simp only [Int.toNat_natCast, g0, g1, g2, toInt, toStr, isInt, isStr] at w
    rw [wrap64_in (x := (i : Int) + 1) (by omega) (by omega)] at w
    refine Gets.ends ?_ ((ih ls lm f1 n1 k1 L1 f2 n2 k2 L2 b5 b6 hs hm).2.2.1 t)
    apply w
    all_goals first | omega | assumption | trivial | (simp; done) | (simp; omega) | rfl
  by_cases c4 : ak = 4
  · subst c4
    have w := clears_w3_4 q l.length (aQ l) b.length (aQ b) t n1 k1 L1 f1 f2 n2 k2 L2 b5 b6 i
    simp only [Int.toNat_natCast, g0, g1, g2, toInt, toStr, isInt, isStr] at w
    rw [wrap64_in (x := (i : Int) + 1) (by omega) (by omega)] at w
    refine Gets.ends ?_ ((ih ls lm f1 n1 k1 L1 f2 n2 k2 L2 true b6 hs hm).2.2.1 t)
    apply w
    all_goals first | omega | assumption | trivial | (simp; done) | (simp; omega) | rfl
  have e0 : (ak == 0) = false := by simpa using c0
  have e1 : (ak == 1) = false := by simpa using c1
  have e2 : (ak == 2) = false := by simpa using c2
  have e3 : (ak == 3) = false := by simpa using c3
  have e4 : (ak == 4) = false := by simpa using c4
  cases ls with
  | cons x ls =>
    obtain ⟨s1, f1', n1', L1', s2, s3⟩ := spop_cons hs
    have sf3 := sR_flat s3
    have w := clears_w3_5 q l.length (aQ l) b.length (aQ b) t n1 k1 L1 f1 f2 n2 k2 L2 b5 b6 i _ s2
    simp only [Int.toNat_natCast, g0, g1, g2, toInt, toStr, isInt, isStr] at w
    rw [wrap64_in (x := (i : Int) + 1) (by omega) (by omega)] at w
    refine Gets.ends ?_ ((ih ls lm f1' n1' k1 L1' f2 n2 k2 L2 b5 b6 s3 hm).2.2.1 t)
    apply w
    all_goals first | omega | assumption | trivial | (simp; done) | (simp; omega) | rfl
  | nil =>
    obtain ⟨s1, s2⟩ := spop_nil hs
    cases lm with
    | cons y lm =>
      obtain ⟨m1, f2', n2', L2', m2, m3⟩ := mpop_cons hm
      have mf3 := mR_flat m3
      have w := clears_w3_6 q l.length (aQ l) b.length (aQ b) t n1 k1 L1 f1 f2 n2 k2 L2 b5 b6 i _ s2 _ m2
      simp only [Int.toNat_natCast, g0, g1, g2, toInt, toStr, isInt, isStr] at w
      rw [wrap64_in (x := (i : Int) + 1) (by omega) (by omega)] at w
      refine Gets.ends ?_ ((ih [] lm f1 n1 k1 L1 f2' n2' k2 L2' b5 b6 hs m3).2.2.1 t)
      apply w
      all_goals first | omega | assumption | trivial | (simp; done) | (simp; omega) | rfl
    | nil =>
      obtain ⟨m1, m2⟩ := mpop_nil hm
      have w := clears_w3_7 q l.length (aQ l) b.length (aQ b) t n1 k1 L1 f1 f2 n2 k2 L2 b5 b6 i _ s2 _ m2
      simp only [Int.toNat_natCast, g0, g1, g2, toInt, toStr, isInt, isStr] at w
      rw [wrap64_in (x := (i : Int) + 1) (by omega) (by omega)] at w
      refine Gets.ends ?_ ((ih [] [] f1 n1 k1 L1 f2 n2 k2 L2 b5 b6 hs hm).1 true)
      apply w
      all_goals first | omega | assumption | trivial | (simp; done) | (simp; omega) | rfl
set_option maxHeartbeats 2000000 in
theorem clears_acts5
    (hl : l.length ≤ 200) (i : Nat) (hi : i < l.length) (ih : Acts q l b (i + 1)) (hq : 1 ≤ q ∧ q ≤ 64)
    (ls : List sT) (lm : List mT) (f1 n1 : Int) (k1 : Nat) (L1 : List Value) (f2 n2 : Int) (k2 : Nat) (L2 : List Value) (b5 b6 : Bool) (hs : sR 4 f1 n1 k1 L1 ls) (hm : mR q f2 n2 k2 L2 lm) (t t' : Int) : AEnds E 8 0 (clears_h5 q l.length (aQ l) b.length (aQ b) t n1 k1 L1 f1 f2 n2 k2 L2 b5 b6 t' i) (.bool true) [] := by
  obtain ⟨⟨ak, ax, tx⟩, ha⟩ : ∃ a, l[i]? = some a := ⟨_, List.getElem?_eq_getElem hi⟩
  obtain ⟨g, g0, g1, g2⟩ := aQ_get ha
  have hlen := aQ_len l
  have sf := sR_flat hs
  have mf := mR_flat hm
  have sn := (sR_n hs).1
  have mn := (mR_n hm).1
  by_cases c0 : ak = 0
  · subst c0
    have w := clears_w5_0 q l.length (aQ l) b.length (aQ b) t n1 k1 L1 f1 f2 n2 k2 L2 b5 b6 t' i
    simp only [Int.toNat_natCast, g0, g1, g2, toInt, toStr, isInt, isStr] at w
    rw [wrap64_in (x := (i : Int) + 1) (by omega) (by omega)] at w
    refine Gets.ends ?_ ((ih ls lm f1 n1 k1 L1 f2 n2 k2 L2 b5 b6 hs hm).2.2.2 t t')
    apply w
    all_goals first | omega | assumption | trivial | (simp; done) | (simp; omega) | rfl
  by_cases c1 : ak = 1
  · subst c1
    have w := clears_w5_1 q l.length (aQ l) b.length (aQ b) t n1 k1 L1 f1 f2 n2 k2 L2 b5 b6 t' i
    simp only [Int.toNat_natCast, g0, g1, g2, toInt, toStr, isInt, isStr] at w
    rw [wrap64_in (x := (i : Int) + 1) (by omega) (by omega)] at w
    refine Gets.ends ?_ ((ih ls lm f1 n1 k1 L1 f2 n2 k2 L2 b5 b6 hs hm).2.2.2 t t')
    apply w
    all_goals first | omega | assumption | trivial | (simp; done) | (simp; omega) | rfl
  by_cases c2 : ak = 2
  · subst c2
    have w := clears_w5_2 q l.length (aQ l) b.length (aQ b) t n1 k1 L1 f1 f2 n2 k2 L2 b5 b6 t' i
    simp only [Int.toNat_natCast, g0, g1, g2, toInt, toStr, isInt, isStr] at w
    rw [wrap64_in (x := (i : Int) + 1) (by omega) (by omega)] at w
    refine Gets.ends ?_ ((ih ls lm f1 n1 k1 L1 f2 n2 k2 L2 b5 b6 hs hm).2.2.2 t t')
    apply w
    all_goals first | omega | assumption | trivial | (simp; done) | (simp; omega) | rfl
  by_cases c3 : ak = 3
  · subst c3
    have w := clears_w5_3 q l.length (aQ l) b.length (aQ b) t n1 k1 L1 f1 f2 n2 k2 L2 b5 b6 t' i
    simp only [Int.toNat_natCast, g0, g1, g2, toInt, toStr, isInt, isStr] at w
    rw [wrap64_in (x := (i : Int) + 1) (by omega) (by omega)] at w
    refine Gets.ends ?_ ((ih ls lm f1 n1 k1 L1 f2 n2 k2 L2 b5 b6 hs hm).2.2.2 t t')
    apply w
    all_goals first | omega | assumption | trivial | (simp; done) | (simp; omega) | rfl
  by_cases c4 : ak = 4
  · subst c4
    have w := clears_w5_4 q l.length (aQ l) b.length (aQ b) t n1 k1 L1 f1 f2 n2 k2 L2 b5 b6 t' i
    simp only [Int.toNat_natCast, g0, g1, g2, toInt, toStr, isInt, isStr] at w
    rw [wrap64_in (x := (i : Int) + 1) (by omega) (by omega)] at w
    refine Gets.ends ?_ ((ih ls lm f1 n1 k1 L1 f2 n2 k2 L2 true b6 hs hm).2.2.2 t t')
    apply w
    all_goals first | omega | assumption | trivial | (simp; done) | (simp; omega) | rfl
  have e0 : (ak == 0) = false := by simpa using c0
  have e1 : (ak == 1) = false := by simpa using c1
  have e2 : (ak == 2) = false := by simpa using c2
  have e3 : (ak == 3) = false := by simpa using c3
  have e4 : (ak == 4) = false := by simpa using c4
  cases ls with
  | cons x ls =>
    obtain ⟨s1, f1', n1', L1', s2, s3⟩ := spop_cons hs
    have sf3 := sR_flat s3
    have w := clears_w5_5 q l.length (aQ l) b.length (aQ b) t n1 k1 L1 f1 f2 n2 k2 L2 b5 b6 t' i _ s2
    simp only [Int.toNat_natCast, g0, g1, g2, toInt, toStr, isInt, isStr] at w
    rw [wrap64_in (x := (i : Int) + 1) (by omega) (by omega)] at w
    refine Gets.ends ?_ ((ih ls lm f1' n1' k1 L1' f2 n2 k2 L2 b5 b6 s3 hm).2.2.2 t t')
    apply w
    all_goals first | omega | assumption | trivial | (simp; done) | (simp; omega) | rfl
  | nil =>
    obtain ⟨s1, s2⟩ := spop_nil hs
    have w := clears_w5_6 q l.length (aQ l) b.length (aQ b) t n1 k1 L1 f1 f2 n2 k2 L2 b5 b6 t' i _ s2
    simp only [Int.toNat_natCast, g0, g1, g2, toInt, toStr, isInt, isStr] at w
    rw [wrap64_in (x := (i : Int) + 1) (by omega) (by omega)] at w
    refine Gets.ends ?_ ((ih [] lm f1 n1 k1 L1 f2 n2 k2 L2 b5 b6 hs hm).2.2.1 t')
    apply w
    all_goals first | omega | assumption | trivial | (simp; done) | (simp; omega) | rfl
theorem clears_acts (hb : b.length ≤ 200) (hl : l.length ≤ 200) (hq : 1 ≤ q ∧ q ≤ 64) : ∀ (k i : Nat), i + k = l.length → Acts q l b i
  | 0, i, hi => clears_acts0 hb i (by omega)
  | k + 1, i, hi => by
    have ih := clears_acts hb hl hq k (i + 1) (by omega)
    intro ls lm f1 n1 k1 L1 f2 n2 k2 L2 b5 b6 hs hm
    exact ⟨clears_acts1 hl i (by omega) ih hq ls lm f1 n1 k1 L1 f2 n2 k2 L2 b5 b6 hs hm, clears_acts2 hl i (by omega) ih hq ls lm f1 n1 k1 L1 f2 n2 k2 L2 b5 b6 hs hm, clears_acts3 hl i (by omega) ih hq ls lm f1 n1 k1 L1 f2 n2 k2 L2 b5 b6 hs hm, clears_acts5 hl i (by omega) ih hq ls lm f1 n1 k1 L1 f2 n2 k2 L2 b5 b6 hs hm⟩
end
theorem clears_all (q : Int) (l b : List Act) : AEnds E 8 0 (startC E 8 [.int .i64 q, .iface l.length (.agg (aQ l).toArray), .iface b.length (.agg (aQ b).toArray)] []) (.bool true) [] := by
  have pl : great_pre l.length (aQ l) := ⟨l, rfl, rfl⟩
  have pb : great_pre b.length (aQ b) := ⟨b, rfl, rfl⟩
  have el : aggOf (.iface l.length (.agg (aQ l).toArray)) = aQ l := rfl
  have eb : aggOf (.iface b.length (.agg (aQ b).toArray)) = aQ b := rfl
  have w0 := clears_w0_0 q l.length (aQ l) b.length (aQ b)
  have w1 := clears_w0_1 q l.length (aQ l) b.length (aQ b)
  have w2 := clears_w0_2 q l.length (aQ l) b.length (aQ b)
  have w3 := clears_w0_3 q l.length (aQ l) b.length (aQ b)
  have w4 := clears_w0_4 q l.length (aQ l) b.length (aQ b)
  rw [el] at w0
  rw [el, eb] at w1 w2 w3 w4
  cases cl : greatB l.length (aQ l) with
  | true => exact w0 trivial cl (eqA_self _) pl
  | false =>
    cases cb : greatB b.length (aQ b) with
    | true => exact w1 trivial cb (eqA_self _) pb cl (eqA_self _) pl
    | false =>
      by_cases c1 : q < 1
      · exact w2 trivial (decide_eq_true c1) cb (eqA_self _) pb cl (eqA_self _) pl
      by_cases c2 : 64 < q
      · exact w3 trivial (decide_eq_true c2) (decide_eq_false c1) cb (eqA_self _) pb cl (eqA_self _) pl
      refine (w4 (decide_eq_false (by omega)) (decide_eq_false c1) (decide_eq_false c2) cb (eqA_self _) pb cl (eqA_self _) pl).ends ?_
      exact (clears_acts (greatB_false cb).1 (greatB_false cl).1 ⟨by omega, by omega⟩ l.length 0 (Nat.zero_add _) [] [] 0 0 0 [] 0 0 0 [] false false (sR_nil (by omega) (by omega)) (mR_nil (by omega) (by omega))).1 false
end Go.Proofs.Yticpjnmoiepafaa
