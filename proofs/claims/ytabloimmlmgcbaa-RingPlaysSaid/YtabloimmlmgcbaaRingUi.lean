/-
  An act, on both rings, as a contract.
-/
import Derived.Test.YtabloimmlmgcbaaRingUh
set_option linter.unusedVariables false
set_option linter.unusedSimpArgs false
open Go Go.Am
namespace Go.Proofs.Ytabloimmlmgcbaa

def outH (mx mx2 f n : Int) (ln : Nat) (L : List Value) (wn wo : Nat) (W : List Value) : Heap := [some (.cells [.int .i64 mx, .int .i64 f, .int .i64 n, .slice (some ⟨4, 0, none⟩) ln 0] 92 none), some (.cells [.int .i64 mx2, .slice (some ⟨5, wo, none⟩) wn 0] 61 none), none, none, some (.cells L 9 (some 1)), some (.cells W 9 (some 1))]
theorem fin_c {mx f n : Int} {ln : Nat} {L : List Value} {wn wo : Nat} {W : List Value} {args : List Value} {H : Heap} (h : AEnds E2 25 2 (startC E2 25 args H) (.bool true) (endH mx f n ln L wn wo (.cells W 9 (some 1)))) (hs : canStart E2 25 args = true) (hH : H.length = 4) (hf : L.all flat = true) (hf2 : W.all flat = true) :
    CallOk E2 25 args H (.bool true) (outH mx mx f n ln L wn wo W) :=
  callOk_mov (ok := [L.all flat, W.all flat]) h (by rw [hH]; kernel_rfl) (by simp [AllT, hf, hf2]) hs (by rw [hH]; exact Nat.le_of_ble_eq_true (by kernel_rfl)) (Nat.le_of_ble_eq_true (by kernel_rfl))
theorem fin_l {mx f n : Int} {ln : Nat} {L : List Value} {wn wo : Nat} {W : List Value} {args : List Value} {H : Heap} (h : AEnds E2 25 2 (startC E2 25 args H) (.bool true) (endH mx f n ln L wn wo (.log W 9 1))) (hs : canStart E2 25 args = true) (hH : H.length = 4) (hf : L.all flat = true) :
    CallOk E2 25 args H (.bool true) (outH mx mx f n ln L wn wo W) := by
  have h2 : CallOk E2 25 args H (.bool true) [some (.cells [.int .i64 mx, .int .i64 f, .int .i64 n, .slice (some ⟨4, 0, none⟩) ln 0] 92 none), some (.cells [.int .i64 mx, .slice (some ⟨5, wo, none⟩) wn 0] 61 none), none, none, some (.cells L 9 (some 1)), some (.log W 9 1)] :=
    callOk_mov (ok := [L.all flat]) h (by rw [hH]; kernel_rfl) (by simp [AllT, hf]) hs (by rw [hH]; exact Nat.le_of_ble_eq_true (by kernel_rfl)) (Nat.le_of_ble_eq_true (by kernel_rfl))
  exact callOk_unLog (k := 5) (cs := W) (e := 9) (z := 1) h2 rfl rfl
theorem fin_n {mx f n : Int} {ln : Nat} {L : List Value} {args : List Value} {H : Heap} (h : AEnds E2 25 2 (startC E2 25 args H) (.bool true) [some (.cells [.int .i64 mx, .int .i64 f, .int .i64 n, .slice (some ⟨2, 0, none⟩) ln 0] 92 none), some (.cells [.int .i64 mx, .slice none 0 0] 61 none), some (.cells L 9 (some 1))]) (hs : canStart E2 25 args = true) (hH : H.length = 4) (hf : L.all flat = true) :
    CallOk E2 25 args H (.bool true) (outH mx mx f n ln L 0 0 []) := by
  have h2 : CallOk E2 25 args H (.bool true) [some (.cells [.int .i64 mx, .int .i64 f, .int .i64 n, .slice (some ⟨4, 0, none⟩) ln 0] 92 none), some (.cells [.int .i64 mx, .slice none 0 0] 61 none), none, none, some (.cells L 9 (some 1))] :=
    callOk_mov (ok := [L.all flat]) h (by rw [hH]; kernel_rfl) (by simp [AllT, hf]) hs (by rw [hH]; exact Nat.le_of_ble_eq_true (by kernel_rfl)) (Nat.le_of_ble_eq_true (by kernel_rfl))
  exact callOk_nilC (b := 1) (o := 1) (e := 9) (z := 1) h2 rfl rfl
theorem S_set (q : List ByteArray) (j : Nat) (s : ByteArray) : setN (S q) (0 + j * 1) [Value.string s] = S (q.set j s) := by
  show (S q).set (0 + j * 1) (.string s) = _
  rw [show 0 + j * 1 = j by omega]
  unfold S
  rw [List.map_set]
section
variable (mx first n : Int) (ln : Nat) (L : List Value) (wn wo : Nat) (W : List Value) (d k : Int) (s : ByteArray) {l : List ByteArray}
def actA (d k : Int) (s : ByteArray) : List Value := [.pointer (some ⟨0, 0, none⟩), .pointer (some ⟨1, 0, none⟩), .agg #[.int .i64 d, .int .i64 k, .string s]]
def actH (mx mx2 first n : Int) (ln : Nat) (L : List Value) (wn wo : Nat) (W : List Value) : Heap := [some (.cells [.int .i64 mx, .int .i64 first, .int .i64 n, .slice (some ⟨2, 0, none⟩) ln 0] 92 none), some (.cells [.int .i64 mx2, .slice (some ⟨3, wo, none⟩) wn 0] 61 none), some (.cells L 9 (some 1)), some (.cells W 9 (some 1))]
theorem act_start (d k : Int) (s : ByteArray) : canStart E2 25 (actA d k s) = true := by kernel_rfl
theorem does_ex (hr : sR mx first n ln L l) (hw : WR l wn wo W) : ∃ f n' ln' L' wn' wo' W' l', sR mx f n' ln' L' l' ∧ WR l' wn' wo' W' ∧ CallOk E2 25 (actA d k s) (actH mx mx first n ln L wn wo W) (.bool true) (outH mx mx f n' ln' L' wn' wo' W') := by
  have hLf := sR_flat hr
  have hWf := hw.flat
  have hn0 := hw.n
  have hlen0 := hw.len
  have htk := hw.take
  obtain ⟨a1, a2, a4, a5, a6, a7⟩ := sR_n hr
  have st := act_start d k s
  have xx : (toL s == toL s) = true := beq_self_eq_true _
  by_cases d0 : d = 0
  · by_cases c : mx ≤ (wn : Int)
    · have w := does_w0_0 mx first n ln L wn wo W d k s _ (spush_full s (by omega)) hLf hWf xx (decide_eq_true c) hLf ⟨l, hr⟩ (nt d0)
      exact ⟨first, n, ln, L, wn, wo, W, l, hr, hw, fin_c w st rfl hLf hWf⟩
    · obtain ⟨f2, n2, ln2, L2, p1, p2⟩ := spush_in hr s (by omega)
      have w := does_w0_1 mx first n ln L wn wo W d k s _ p1
      rw [htk, S_app] at w
      have w := w (sR_flat p2) (S_flat _) xx (by omega) (by omega) (by omega) (df c) hLf ⟨l, hr⟩ (nt d0)
      have hww := WR.new (l ++ [s])
      have e : wn + 1 = (l ++ [s]).length := by simp; omega
      rw [e] at w
      exact ⟨f2, n2, ln2, L2, _, 0, S (l ++ [s]), l ++ [s], p2, hww, fin_c w st rfl (sR_flat p2) (S_flat _)⟩
  have e0 := nf d0
  by_cases d1 : d = 1
  · cases l with
    | nil =>
      obtain ⟨v1, v2⟩ := spop_nil hr
      have hwn : wn = 0 := hn0
      have w := does_w0_2 mx first n ln L wn wo W d k s _ v2 hLf hWf rfl (nt (by omega)) hLf v1 (nt d1) e0
      exact ⟨first, n, ln, L, wn, wo, W, [], hr, hw, fin_c w st rfl hLf hWf⟩
    | cons x q =>
      obtain ⟨v1, f2, n2, L2, v2, v3⟩ := spop_cons hr
      simp only [List.length_cons] at hn0
      have gw := hw.get (i := 0) (x := x) rfl
      have w := does_w0_3 mx first n ln L wn wo W d k s _ v2
      rw [gw] at w
      have w := w (sR_flat v3) hWf (beq_self_eq_true _) (by omega) (by omega) rfl (by omega) (nf (by omega)) hLf v1 (nt d1) e0
      exact ⟨f2, n2, ln, L2, _, _, W, q, v3, hw.pop, fin_c w st rfl (sR_flat v3) hWf⟩
  have e1 := nf d1
  by_cases d2 : d = 2
  · refine ⟨first, n, ln, L, wn, wo, W, l, hr, hw, ?_⟩
    by_cases k0 : k < 0
    · obtain ⟨q1, q2⟩ := sat_out hr (i := k) (.inl k0)
      exact fin_c (does_w0_4 mx first n ln L wn wo W d k s _ q2 hLf hWf rfl (decide_eq_true k0) q1 (nt d2) e1 e0) st rfl hLf hWf
    · by_cases k1 : (wn : Int) ≤ k
      · obtain ⟨q1, q2⟩ := sat_out hr (i := k) (.inr (by omega))
        exact fin_c (does_w0_5 mx first n ln L wn wo W d k s _ q2 hLf hWf rfl (decide_eq_true k1) (df k0) q1 (nt d2) e1 e0) st rfl hLf hWf
      · obtain ⟨i, rfl⟩ : ∃ i : Nat, k = i := ⟨k.toNat, by omega⟩
        obtain ⟨x, hx⟩ : ∃ x, l[i]? = some x := ⟨_, List.getElem?_eq_getElem (by omega)⟩
        obtain ⟨q1, q2⟩ := sat_in hr hx
        have gw := hw.get hx
        have gw : W.getD (wo + i * 1) undef = .string x := by rw [Nat.mul_one]; exact gw
        have w := does_w0_6 mx first n ln L wn wo W d (i : Int) s _ q2
        simp only [Int.toNat_natCast, gw, toStr, isStr] at w
        exact fin_c (w hLf hWf (beq_self_eq_true _) (by omega) trivial (by omega) (by omega) (df k1) (df k0) q1 (nt d2) e1 e0) st rfl hLf hWf
  have e2 := nf d2
  by_cases d3 : d = 3
  · by_cases k0 : k < 0
    · obtain ⟨q1, q2⟩ := sset_out hr (i := k) (.inl k0) s
      exact ⟨first, n, ln, L, wn, wo, W, l, hr, hw, fin_c (does_w0_7 mx first n ln L wn wo W d k s _ q2 hLf hWf xx (decide_eq_true k0) hLf q1 (nt d3) e2 e1 e0) st rfl hLf hWf⟩
    · by_cases k1 : (wn : Int) ≤ k
      · obtain ⟨q1, q2⟩ := sset_out hr (i := k) (.inr (by omega)) s
        exact ⟨first, n, ln, L, wn, wo, W, l, hr, hw, fin_c (does_w0_8 mx first n ln L wn wo W d k s _ q2 hLf hWf xx (decide_eq_true k1) (df k0) hLf q1 (nt d3) e2 e1 e0) st rfl hLf hWf⟩
      · obtain ⟨i, rfl⟩ : ∃ i : Nat, k = i := ⟨k.toNat, by omega⟩
        obtain ⟨q1, L2, q2, q3⟩ := sset_in hr (i := i) (by omega) s
        have w := does_w0_9 mx first n ln L wn wo W d (i : Int) s _ q2
        have hS := S_len l
        rw [Int.toNat_natCast, htk, S_set] at w
        have w := w (sR_flat q3) (S_flat _) xx (by omega) (by omega) (by omega) (S_one l) (by omega) (by omega) (by omega) (by omega) (df k1) (df k0) hLf q1 (nt d3) e2 e1 e0
        have hww := WR.new (l.set i s)
        have e : wn = (l.set i s).length := by simp; omega
        rw [← e] at hww
        exact ⟨first, n, ln, L2, wn, 0, _, _, q3, hww, fin_c w st rfl (sR_flat q3) (S_flat _)⟩
  have e3 := nf d3
  by_cases d4 : d = 4
  · obtain ⟨q1, f2, L2, q2, q3⟩ := sclear_in hr
    have w := does_w0_10 mx first n ln L wn wo W d k s _ q2 (sR_flat q3) hLf q1 (nt d4) e3 e2 e1 e0
    rw [nt (show n = (wn : Int) by omega)] at w
    exact ⟨f2, 0, ln, L2, 0, 0, [], [], q3, WR.new [], fin_n w st rfl (sR_flat q3)⟩
  have e4 := nf d4
  by_cases d5 : d = 5
  · have w := does_w0_11 mx first n ln L wn wo W d k s hLf hWf (slen_in hr) (nt d5) e4 e3 e2 e1 e0
    have w1 := col mx first n ln L wn wo W d k s hr hw l.length (Nat.le_refl _)
    rw [List.take_length] at w1
    have w2 := does_w1_1 mx first n ln L wn wo W d k s ln wn false wn 0 (S l) l.length l.length (S_flat l) hLf hWf (df (by omega))
    obtain ⟨f, n', ln', L', wn', wo', W', l', h1, h2, h3⟩ := Out.of (w.trans (w1.trans w2)) (run2 mx first n ln L wn wo W d k s hr hw (by omega))
    refine ⟨f, n', ln', L', wn', wo', W', l', h1, h2, ?_⟩
    rcases h3 with h3 | h3
    · exact fin_c h3 st rfl (sR_flat h1) h2.flat
    · exact fin_l h3 st rfl (sR_flat h1)
  · exact ⟨first, n, ln, L, wn, wo, W, l, hr, hw, fin_c (does_w0_12 mx first n ln L wn wo W d k s hLf hWf (nf d5) e4 e3 e2 e1 e0) st rfl hLf hWf⟩
end
abbrev DoT : Type := Int × Int × Nat × List Value × Nat × Nat × List Value
def doP (mx first n : Int) (ln : Nat) (L : List Value) (wn wo : Nat) (W : List Value) (d k : Int) (s : ByteArray) (q : DoT) : Prop :=
  (∃ l', sR mx q.1 q.2.1 q.2.2.1 q.2.2.2.1 l' ∧ WR l' q.2.2.2.2.1 q.2.2.2.2.2.1 q.2.2.2.2.2.2) ∧ CallOk E2 25 (actA d k s) (actH mx mx first n ln L wn wo W) (.bool true) (outH mx mx q.1 q.2.1 q.2.2.1 q.2.2.2.1 q.2.2.2.2.1 q.2.2.2.2.2.1 q.2.2.2.2.2.2)
noncomputable def doR (mx mx2 first n : Int) (ln : Nat) (L : List Value) (wn wo : Nat) (W : List Value) (d k : Int) (s : ByteArray) : DoT := Classical.epsilon (doP mx first n ln L wn wo W d k s)
def doc_pre (mx mx2 first n : Int) (ln : Nat) (L : List Value) (wn wo : Nat) (W : List Value) (d k : Int) (s : ByteArray) : Prop := mx2 = mx ∧ ∃ l, sR mx first n ln L l ∧ WR l wn wo W
theorem doR_ok {mx mx2 first n : Int} {ln : Nat} {L : List Value} {wn wo : Nat} {W : List Value} {d k : Int} {s : ByteArray} (h : doc_pre mx mx2 first n ln L wn wo W d k s) : doP mx first n ln L wn wo W d k s (doR mx mx2 first n ln L wn wo W d k s) := by
  obtain ⟨_, l, h1, h2⟩ := h
  obtain ⟨f, n', ln', L', wn', wo', W', l', q1, q2, q3⟩ := does_ex mx first n ln L wn wo W d k s h1 h2
  exact Classical.epsilon_spec (p := doP mx first n ln L wn wo W d k s) ⟨(f, n', ln', L', wn', wo', W'), ⟨l', q1, q2⟩, q3⟩
noncomputable def doc_v (mx mx2 first n : Int) (ln : Nat) (L : List Value) (wn wo : Nat) (W : List Value) (d k : Int) (s : ByteArray) : Value := .bool true
noncomputable def doc_h (mx mx2 first n : Int) (ln : Nat) (L : List Value) (wn wo : Nat) (W : List Value) (d k : Int) (s : ByteArray) : Heap :=
  outH mx mx2 (doR mx mx2 first n ln L wn wo W d k s).1 (doR mx mx2 first n ln L wn wo W d k s).2.1 (doR mx mx2 first n ln L wn wo W d k s).2.2.1 (doR mx mx2 first n ln L wn wo W d k s).2.2.2.1 (doR mx mx2 first n ln L wn wo W d k s).2.2.2.2.1 (doR mx mx2 first n ln L wn wo W d k s).2.2.2.2.2.1 (doR mx mx2 first n ln L wn wo W d k s).2.2.2.2.2.2
theorem doc_call (mx mx2 first n : Int) (ln : Nat) (L : List Value) (wn wo : Nat) (W : List Value) (d k : Int) (s : ByteArray) (h : doc_pre mx mx2 first n ln L wn wo W d k s) : CallOk E2 25 [.pointer (some ⟨0, 0, none⟩), .pointer (some ⟨1, 0, none⟩), .agg #[.int .i64 d, .int .i64 k, .string s]] [some (.cells [.int .i64 mx, .int .i64 first, .int .i64 n, .slice (some ⟨2, 0, none⟩) ln 0] 92 none), some (.cells [.int .i64 mx2, .slice (some ⟨3, wo, none⟩) wn 0] 61 none), some (.cells L 9 (some 1)), some (.cells W 9 (some 1))] (doc_v mx mx2 first n ln L wn wo W d k s) (doc_h mx mx2 first n ln L wn wo W d k s) := by
  have h2 := (doR_ok h).2
  obtain ⟨rfl, _⟩ := h
  exact h2
end Go.Proofs.Ytabloimmlmgcbaa
