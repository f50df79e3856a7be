/-
  An act, on both rings: the walk; as a contract.
-/
import Derived.Test.YtabloimmlmgcbaaRingUg
set_option linter.unusedVariables false
set_option linter.unusedSimpArgs false
open Go Go.Am
namespace Go.Proofs.Ytabloimmlmgcbaa

def endH (mx f n : Int) (ln : Nat) (L : List Value) (wn wo : Nat) (o : Ob) : Heap := [some (.cells [.int .i64 mx, .int .i64 f, .int .i64 n, .slice (some ⟨2, 0, none⟩) ln 0] 92 none), some (.cells [.int .i64 mx, .slice (some ⟨3, wo, none⟩) wn 0] 61 none), some (.cells L 9 (some 1)), some o]
/-- It ends well, and both rings hold the same then. -/
def Out (mx : Int) (C : Cfg) : Prop := ∃ (f n : Int) (ln : Nat) (L : List Value) (wn wo : Nat) (W : List Value) (l : List ByteArray), sR mx f n ln L l ∧ WR l wn wo W ∧
  (AEnds E2 25 2 C (.bool true) (endH mx f n ln L wn wo (.cells W 9 (some 1))) ∨ AEnds E2 25 2 C (.bool true) (endH mx f n ln L wn wo (.log W 9 1)))
theorem Out.of {mx : Int} {C C' : Cfg} (g : Gets E2 2 C C') (h : Out mx C') : Out mx C := by
  obtain ⟨f, n, ln, L, wn, wo, W, l, h1, h2, h3⟩ := h
  exact ⟨f, n, ln, L, wn, wo, W, l, h1, h2, h3.imp (fun h => g.ends h) (fun h => g.ends h)⟩
theorem nf {a b : Int} (h : ¬ a = b) : (a == b) = false := by simpa using h
theorem nt {a b : Int} (h : a = b) : (a == b) = true := by simp [h]
theorem df {p : Prop} [Decidable p] (h : ¬ p) : decide p = false := decide_eq_false h
section
variable (mx first n : Int) (ln : Nat) (L : List Value) (wn wo : Nat) (W : List Value) (d k : Int) (s : ByteArray) {l : List ByteArray}
/-- Push, as far as there is room. -/
def pushL (mx : Int) (s : ByteArray) (lw : List ByteArray) : List ByteArray := if (lw.length : Int) < mx then lw ++ [s] else lw
theorem push_all {f n' : Int} {ln' : Nat} {L' : List Value} {lw : List ByteArray} (h : sR mx f n' ln' L' lw) : ∃ b f2 n2 ln2 L2, spushR mx f n' ln' L' s = (b, f2, n2, ln2, L2) ∧ sR mx f2 n2 ln2 L2 (pushL mx s lw) := by
  obtain ⟨a1, _⟩ := sR_n h
  unfold pushL
  by_cases c : (lw.length : Int) < mx
  · rw [if_pos c]
    obtain ⟨f2, n2, ln2, L2, e1, e2⟩ := spush_in h s (by omega)
    exact ⟨_, _, _, _, _, e1, e2⟩
  · rw [if_neg c]
    exact ⟨_, _, _, _, _, spush_full s (by omega), h⟩
theorem mid {f n' : Int} {ln' : Nat} {L' : List Value} {wn' wo' : Nat} {W' : List Value} {lw : List ByteArray} (hr : sR mx f n' ln' L' (pushL mx s lw)) (hw : WR lw wn' wo' W') (hp : 0 < lw.length) (t3n : Nat) (c5 : Bool) (c6 : Nat) (c7 : Int) (q : List ByteArray) (f27 f33 : Int) (f34 : ByteArray) (hb : lw.length ≤ 65536) :
    ∃ f2 n2 ln2 L2 wn2 wo2 W2 lw2, sR mx f2 n2 ln2 L2 lw2 ∧ WR lw2 wn2 wo2 W2 ∧ lw.length ≤ lw2.length + 1 ∧
      Gets E2 2 (does_h3 mx first n ln L wn wo W d k s t3n f n' ln' c5 c6 c7 (S q) L' W' wn' wo' f27 f33 f34) (does_h4 mx first n ln L wn wo W d k s t3n f27 f2 n2 ln2 c5 c6 c7 (S q) L2 W2 wn2 wo2) := by
  obtain ⟨y, lw', rfl⟩ : ∃ y lw', lw = y :: lw' := by
    cases lw with
    | nil => simp at hp
    | cons y lw' => exact ⟨y, lw', rfl⟩
  have hn := hw.n
  have hlen := hw.len
  have hQ := S_flat q
  have hLf := sR_flat hr
  have g0 := hw.get (i := 0) (x := y) rfl
  simp only [List.length_cons] at hn hb
  unfold pushL at hr
  by_cases c : ((y :: lw').length : Int) < mx
  · rw [if_pos c, List.cons_append] at hr
    simp only [List.length_cons] at c
    obtain ⟨v1, f2, n2, L2, v2, v3⟩ := spop_cons hr
    have hP := sR_flat v3
    have hww := (WR.new (y :: (lw' ++ [s]))).pop
    have w := does_w3_2 mx first n ln L wn wo W d k s t3n f n' ln' c5 c6 c7 (S q) L' W' wn' wo' f27 f33 f34 _ v2
    rw [hw.take, S_app, List.cons_append] at w
    have e0 : (S (y :: (lw' ++ [s]))).getD 0 undef = .string y := S_get rfl
    have e1 : (S (y :: (lw' ++ [s]))).length = lw'.length + 2 := by rw [S_len]; simp
    have e2 : wn' + 1 - 1 = (y :: (lw' ++ [s])).length - 1 := by simp; omega
    rw [e2] at w
    refine ⟨f2, n2, ln', L2, _, _, _, lw' ++ [s], v3, hww, by simp, w hQ hP (by omega) (by rw [e0]; rfl) (by omega) hLf v1 (by omega) (by omega) (by omega) (df (by omega))⟩
  · rw [if_neg c] at hr
    simp only [List.length_cons] at c
    obtain ⟨v1, f2, n2, L2, v2, v3⟩ := spop_cons hr
    have hP := sR_flat v3
    have w := does_w3_1 mx first n ln L wn wo W d k s t3n f n' ln' c5 c6 c7 (S q) L' W' wn' wo' f27 f33 f34 _ v2
    refine ⟨f2, n2, ln', L2, _, _, W', lw', v3, hw.pop, by simp, w hQ hP (by omega) (by omega) (by rw [g0]; rfl) (by omega) (nf (by omega)) hLf v1 (decide_eq_true (by omega))⟩
/-- The ring's things, told. -/
theorem col (hr : sR mx first n ln L l) (hw : WR l wn wo W) : ∀ i, i ≤ l.length → Gets E2 2 (does_h1 mx first n ln L wn wo W d k s ln wn false wn 0 [] 0 0) (does_h1 mx first n ln L wn wo W d k s ln wn false wn 0 (S (l.take i)) i i)
  | 0, _ => Gets.refl _
  | i + 1, hi => by
    refine (col hr hw i (by omega)).trans ?_
    obtain ⟨a1, a2, a4, a5, a6, a7⟩ := sR_n hr
    obtain ⟨x, hx⟩ : ∃ x, l[i]? = some x := ⟨_, List.getElem?_eq_getElem (by omega)⟩
    obtain ⟨q1, q2⟩ := sat_in hr hx
    have hl : (S (l.take i)).length = i := by rw [S_len, List.length_take]; omega
    have w := does_w1_0 mx first n ln L wn wo W d k s ln wn false wn 0 (S (l.take i)) i i _ q2
    have e : List.take (i * 1) (List.drop 0 (S (l.take i))) ++ [Value.string x] = S (l.take (i + 1)) := by
      rw [List.drop_zero, List.take_of_length_le (by omega), S_app, List.take_add_one, hx]
      rfl
    rw [e, wrap64_in (by omega) (by omega)] at w
    exact w (S_flat _) (sR_flat hr) hw.flat (by omega) (by omega) (by omega) q1 (decide_eq_true (by omega))
theorem run4 (hw0 : WR l wn wo W) (hb : l.length ≤ 65536) : ∀ (m i : Nat) (lw : List ByteArray) (f n' : Int) (ln' : Nat) (L' : List Value) (wn' wo' : Nat) (W' : List Value), i + 1 + m = l.length → sR mx f n' ln' L' lw → WR lw wn' wo' W' → l.length ≤ lw.length + (i + 1) →
    Out mx (does_h4 mx first n ln L wn wo W d k s l.length i f n' ln' false wn ((i + 1 : Nat) : Int) (S l) L' W' wn' wo')
  | 0, i, lw, f, n', ln', L', wn', wo', W', hi, hr, hw, hl => by
    have hLf := sR_flat hr
    have hn0 := hw0.n
    have wi : IntKind.i64.wrap ((i : Int) + 1) = ((i + 1 : Nat) : Int) := by rw [wrap64_in (by omega) (by omega)]; omega
    have d1 : decide (((i + 1 : Nat) : Int) < (l.length : Int)) = false := decide_eq_false (by omega)
    have e0 : (((i + 1 : Nat) : Int) == (wn : Int)) = true := nt (by omega)
    refine ⟨f, n', ln', L', wn', wo', W', lw, hr, hw, .inr ?_⟩
    by_cases k1 : 1 ≤ k
    · by_cases k2 : k ≤ (wn : Int)
      · by_cases k3 : ((i + 1 : Nat) : Int) = k
        · have w := does_w4_4 mx first n ln L wn wo W d k s l.length i f n' ln' false wn ((i + 1 : Nat) : Int) (S l) L' W' wn' wo'
          rw [wi] at w
          exact w hLf (nt k3) (decide_eq_true k2) (decide_eq_true k1) d1
        · have w := does_w4_5 mx first n ln L wn wo W d k s l.length i f n' ln' false wn ((i + 1 : Nat) : Int) (S l) L' W' wn' wo'
          rw [wi, e0] at w
          exact w hLf (nf k3) (decide_eq_true k2) (decide_eq_true k1) d1
      · have w := does_w4_6 mx first n ln L wn wo W d k s l.length i f n' ln' false wn ((i + 1 : Nat) : Int) (S l) L' W' wn' wo'
        rw [wi, e0] at w
        exact w hLf (decide_eq_false k2) (decide_eq_true k1) d1
    · have w := does_w4_7 mx first n ln L wn wo W d k s l.length i f n' ln' false wn ((i + 1 : Nat) : Int) (S l) L' W' wn' wo'
      rw [wi, e0] at w
      exact w hLf (decide_eq_false k1) d1
  | m + 1, i, lw, f, n', ln', L', wn', wo', W', hi, hr, hw, hl => by
    have hLf := sR_flat hr
    have hn0 := hw0.n
    have hlen0 := hw0.len
    obtain ⟨a1, a2, a4, a5, a6, a7⟩ := sR_n hr
    obtain ⟨x, hx⟩ : ∃ x, l[i + 1]? = some x := ⟨_, List.getElem?_eq_getElem (by omega)⟩
    have gw := hw0.get hx
    have gl : (S l).getD (0 + (i + 1) * 1) undef = .string x := by rw [show 0 + (i + 1) * 1 = i + 1 by omega]; exact S_get hx
    have gw : W.getD (wo + (i + 1) * 1) undef = .string x := by rw [show wo + (i + 1) * 1 = wo + (i + 1) by omega]; exact gw
    have hS : (S l).length = l.length := S_len l
    have wi : IntKind.i64.wrap ((i : Int) + 1) = ((i + 1 : Nat) : Int) := by rw [wrap64_in (by omega) (by omega)]; omega
    have wi2 : IntKind.i64.wrap (((i + 1 : Nat) : Int) + 1) = ((i + 1 + 1 : Nat) : Int) := by rw [wrap64_in (by omega) (by omega)]; omega
    have d1 : decide (((i + 1 : Nat) : Int) < (l.length : Int)) = true := decide_eq_true (by omega)
    have d2 : decide ((wn : Int) ≤ ((i + 1 : Nat) : Int)) = false := decide_eq_false (by omega)
    have ne : (((i + 1 : Nat) : Int) != ((i + 1 : Nat) : Int)) = false := by simp
    have nx : (!toL x == toL x) = false := by simp
    by_cases k3 : ((i + 1 + 1 : Nat) : Int) = k
    · have w := does_w4_0 mx first n ln L wn wo W d k s l.length i f n' ln' false wn ((i + 1 : Nat) : Int) (S l) L' W' wn' wo'
      simp only [wi, wi2, Int.toNat_natCast, gl, gw, toStr, isStr] at w
      exact ⟨f, n', ln', L', wn', wo', W', lw, hr, hw, .inr (w hLf (nt k3) (decide_eq_true (by omega)) (decide_eq_true (by omega)) nx (by omega) trivial (by omega) (by omega) d2 ne (by omega) trivial (by omega) (by omega) d1)⟩
    · obtain ⟨b, f2, n2, ln2, L2, p1, p2⟩ := push_all mx s hr
      have w := does_w4_3 mx first n ln L wn wo W d k s l.length i f n' ln' false wn ((i + 1 : Nat) : Int) (S l) L' W' wn' wo' _ p1
      simp only [wi, wi2, Int.toNat_natCast, gl, gw, toStr, isStr] at w
      have w := w (S_flat l) (sR_flat p2) hLf ⟨lw, hr⟩ (nf k3) nx (by omega) trivial (by omega) (by omega) d2 ne (by omega) trivial (by omega) (by omega) d1
      obtain ⟨f3, n3, ln3, L3, wn3, wo3, W3, lw3, m1, m2, m3, m4⟩ := mid mx first n ln L wn wo W d k s p2 hw (by omega) l.length false wn ((i + 1 + 1 : Nat) : Int) l ((i + 1 : Nat) : Int) ((i + 1 : Nat) : Int) x (by omega)
      exact Out.of (w.trans m4) (run4 hw0 hb m (i + 1) lw3 f3 n3 ln3 L3 wn3 wo3 W3 (by omega) m1 m2 (by omega))
theorem run2 (hr : sR mx first n ln L l) (hw : WR l wn wo W) (hb : l.length ≤ 65536) : Out mx (does_h2 mx first n ln L wn wo W d k s l.length ln wn false wn 0 (S l)) := by
  have hLf := sR_flat hr
  have hWf := hw.flat
  have hn0 := hw.n
  have hlen0 := hw.len
  obtain ⟨a1, a2, a4, a5, a6, a7⟩ := sR_n hr
  cases l with
  | nil =>
    have hwn : wn = 0 := hn0
    refine ⟨first, n, ln, L, wn, wo, W, [], hr, hw, .inl ?_⟩
    have d1 : decide (0 < ((([] : List ByteArray).length : Nat) : Int)) = false := rfl
    have e0 : ((0 : Int) == (wn : Int)) = true := nt (by omega)
    by_cases k1 : 1 ≤ k
    · have w := does_w2_6 mx first n ln L wn wo W d k s ([] : List ByteArray).length ln wn false wn 0 (S [])
      rw [e0] at w
      exact w hLf hWf (decide_eq_false (by omega)) (decide_eq_true k1) d1
    · have w := does_w2_7 mx first n ln L wn wo W d k s ([] : List ByteArray).length ln wn false wn 0 (S [])
      rw [e0] at w
      exact w hLf hWf (decide_eq_false k1) d1
  | cons x q =>
    have gl : (S (x :: q)).getD 0 undef = .string x := S_get rfl
    have gw := hw.get (i := 0) (x := x) rfl
    have gw : W.getD (wo + (0 : Int).toNat * 1) undef = .string x := gw
    have hS : (S (x :: q)).length = q.length + 1 := by rw [S_len]; rfl
    have wi : IntKind.i64.wrap ((0 : Int) + 1) = ((0 + 1 : Nat) : Int) := by rw [wrap64_in (by omega) (by omega)]; rfl
    simp only [List.length_cons] at hn0 a1 a2 hb
    have d1 : decide (0 < (((x :: q).length : Nat) : Int)) = true := decide_eq_true (by simp only [List.length_cons]; omega)
    have d2 : decide ((wn : Int) ≤ 0) = false := decide_eq_false (by omega)
    have nx : (!toL x == toL x) = false := by simp
    by_cases k3 : ((0 + 1 : Nat) : Int) = k
    · have w := does_w2_0 mx first n ln L wn wo W d k s (x :: q).length ln wn false wn 0 (S (x :: q))
      simp only [wi, gl, gw, toStr, isStr] at w
      exact ⟨first, n, ln, L, wn, wo, W, x :: q, hr, hw, .inl (w hLf hWf (nt k3) (decide_eq_true (by omega)) (decide_eq_true (by omega)) nx (by show wo + 0 * 1 < W.length; omega) trivial (by omega) (by omega) d2 rfl (by omega) trivial (by simp only [List.length_cons]; omega) d1)⟩
    · obtain ⟨b, f2, n2, ln2, L2, p1, p2⟩ := push_all mx s hr
      have w := does_w2_3 mx first n ln L wn wo W d k s (x :: q).length ln wn false wn 0 (S (x :: q)) _ p1
      simp only [wi, gl, gw, toStr, isStr] at w
      have w := w (S_flat _) (sR_flat p2) (by omega) (by omega) hWf hLf ⟨_, hr⟩ (nf k3) nx (by show wo + 0 * 1 < W.length; omega) trivial (by omega) (by omega) d2 rfl (by omega) trivial (by simp only [List.length_cons]; omega) d1
      rw [hw.drop] at w
      have hwn : wn = (x :: q).length := hw.n
      have hw1 : WR (x :: q) wn 0 (S (x :: q)) := ⟨hwn, [], rfl, rfl⟩
      obtain ⟨f3, n3, ln3, L3, wn3, wo3, W3, lw3, m1, m2, m3, m4⟩ := mid mx first n ln L wn wo W d k s p2 hw1 (by simp) (x :: q).length false wn ((0 + 1 : Nat) : Int) (x :: q) 0 0 x (by simp only [List.length_cons]; omega)
      exact Out.of (w.trans m4) (run4 mx first n ln L wn wo W d k s hw (by simp only [List.length_cons]; omega) q.length 0 lw3 f3 n3 ln3 L3 wn3 wo3 W3 (by simp only [List.length_cons]; omega) m1 m2 (by omega))
end
end Go.Proofs.Ytabloimmlmgcbaa
