/-
  The document's own answer: all characters.
-/
import Derived.Test.YtadpggfmogjddaaUtfI
set_option linter.unusedVariables false
set_option linter.unusedSimpArgs false
open Go Go.Am
namespace Go.Proofs.Ytadpggfmogjddaa
noncomputable def KJ : Ctr := ctrOf E [(22, anyA, one_k), (23, anyA, rune_k)]
theorem KJ_ok : KOk E KJ := ctr_cons one_k_ok (ctr_cons rune_k_ok ctr_nil)

noncomputable def refrunes_b1 (s : ByteArray) : Cfg := cfgOf (goNil E KJ 2000 17 (some []) [] [] [] [0, 4, 5, 6] [⟨true, 4, 0, 3, 1⟩, ⟨true, 5, 0, 3, 1⟩] [0, 1] [0, 4, 5, 6] (startC E 18 ([Value.string s]) ([])))
noncomputable def refrunes_h1 (s : ByteArray) (t4n : Nat) (t5n : Nat) (t6 : Int) (l0 : List Value) (l1 : List Value) : Cfg := wCells 1 l1 (wCells 0 l0 (wTmp 6 (Value.int IntKind.i64 t6) (wTmp 5 (Value.slice (some { block := 1, off := 0 }) t5n 0) (wTmp 4 (Value.slice (some { block := 0, off := 0 }) t4n 0) (refrunes_b1 s)))))
abbrev refrunes_R : Type := (Nat × Nat × Int × List Value × List Value) ⊕ (Nat × Nat × List Value × List Value)
def refrunes_V (s : ByteArray) (r : Nat × Nat × List Value × List Value) : Value := Value.tuple #[Value.slice (some { block := 0, off := 0 }) r.1 0, Value.slice (some { block := 1, off := 0 }) r.2.1 0]
def refrunes_H (s : ByteArray) (r : Nat × Nat × List Value × List Value) : Heap := [some (Ob.cells r.2.2.1 3 (some 1)), some (Ob.cells r.2.2.2 3 (some 1))]
noncomputable def refrunes_Q (s : ByteArray) (C : Cfg) (r : refrunes_R) : Prop :=
  match r with
  | .inl (p) => Gets E 0 C (refrunes_h1 s (p.1) (p.2.1) (p.2.2.1) (p.2.2.2.1) (p.2.2.2.2))
  | .inr (p) => AEnds E 18 0 C (refrunes_V s p) (refrunes_H s p)
theorem refrunes_go1 {s : ByteArray} {C : Cfg} {t4n : Nat} {t5n : Nat} {t6 : Int} {l0 : List Value} {l1 : List Value} (h : refrunes_Q s C (.inl (t4n, t5n, t6, l0, l1))) : Gets E 0 C (refrunes_h1 s t4n t5n t6 l0 l1) := h
theorem refrunes_end {s : ByteArray} {C : Cfg} {r : Nat × Nat × List Value × List Value} (h : refrunes_Q s C (.inr (r))) : AEnds E 18 0 C (refrunes_V s r) (refrunes_H s r) := h
theorem refrunes_p0_0 (s : ByteArray) : goNilB E KJ 2000 17 (some []) [] [] [] [0, 4, 5, 6] [⟨true, 4, 0, 3, 1⟩, ⟨true, 5, 0, 3, 1⟩] [0, 1] [0, 4, 5, 6] (startC E 18 ([Value.string s]) ([])) = some (true, refrunes_h1 s (0) (0) (0) ([]) ([])) := by kernel_rfl
def refrunes_t0 (s : ByteArray) : refrunes_R :=
  .inl (0, 0, 0, [], [])
def refrunes_S0 (s : ByteArray) : Prop :=
  True
theorem refrunes_ok0 (s : ByteArray) (hS : refrunes_S0 s) : refrunes_Q s (startC E 18 ([Value.string s]) ([])) (refrunes_t0 s) := by
  unfold refrunes_S0 at hS
  unfold refrunes_t0
  show Gets E 0 _ (refrunes_h1 s (0) (0) (0) ([]) ([]))
  exact reach_gb KJ_ok (refrunes_p0_0 s) (rfl) (Nat.le_of_ble_eq_true (by kernel_rfl)) (fun i hi => absurd hi (Nat.not_lt_zero _)) (fun i hi => absurd hi (Nat.not_lt_zero _)) (Nat.le_of_ble_eq_true (by kernel_rfl))
theorem refrunes_p1_0 (s : ByteArray) (t4n : Nat) (t5n : Nat) (t6 : Int) (l0 : List Value) (l1 : List Value) : goFinB E KJ 2000 33 (some [true, true]) [0, 1] [2, 3] [0, 1] (refrunes_h1 s t4n t5n t6 l0 l1) = some (and (l0.all flat) (and (l1.all flat) (and (l0.all flat) (and (l1.all flat) (and ((decide (oneV (List.drop t6.toNat (toL s)) ≤ 0)) == true) (and (eqA [Value.string s, Value.int IntKind.i64 t6] [Value.string s, Value.int IntKind.i64 t6]) (and (eqH [] []) (and (pdec (one_pre s t6)) (and ((decide (t6 < (↑(slen s) : Int))) == true) (true))))))))), Value.tuple #[Value.slice (some { block := 0, off := 0 }) t4n 0, Value.slice (some { block := 1, off := 0 }) t5n 0], [some (Ob.cells l0 3 (some 1)), some (Ob.cells l1 3 (some 1))]) := by kernel_rfl
theorem refrunes_p1_1 (s : ByteArray) (t4n : Nat) (t5n : Nat) (t6 : Int) (l0 : List Value) (l1 : List Value) : goFinB E KJ 2000 17 (some [false]) [0, 1] [2, 3] [0, 1] (refrunes_h1 s t4n t5n t6 l0 l1) = some (and (l0.all flat) (and (l1.all flat) (and (l0.all flat) (and (l1.all flat) (and ((decide (t6 < (↑(slen s) : Int))) == false) (true))))), Value.tuple #[Value.slice (some { block := 0, off := 0 }) t4n 0, Value.slice (some { block := 1, off := 0 }) t5n 0], [some (Ob.cells l0 3 (some 1)), some (Ob.cells l1 3 (some 1))]) := by kernel_rfl
theorem refrunes_p1_2 (s : ByteArray) (t4n : Nat) (t5n : Nat) (t6 : Int) (l0 : List Value) (l1 : List Value) : goNilB E KJ 2000 56 (some [true, false]) [] [] [3, 5] [0, 4, 5, 6] [] [] [] (refrunes_h1 s t4n t5n t6 l0 l1) = some (and ((List.take (t4n * 1) (List.drop 0 l0) ++ [Value.int IntKind.i64 t6]).all flat) (and ((List.take (t5n * 1) (List.drop 0 l1) ++ [Value.int IntKind.i64 (runeV (toL (sub s t6.toNat (IntKind.i64.wrap (t6 + oneV (List.drop t6.toNat (toL s)))).toNat)))]).all flat) (and (decide (0 + t5n * 1 ≤ l1.length)) (and (decide ((t5n + 1) * 8 ≤ 140737488355328)) (and (decide (t5n + 1 ≤ 9223372036854775807)) (and (eqA [Value.string (sub s t6.toNat (IntKind.i64.wrap (t6 + oneV (List.drop t6.toNat (toL s)))).toNat)] [Value.string (sub s t6.toNat (IntKind.i64.wrap (t6 + oneV (List.drop t6.toNat (toL s)))).toNat)]) (and (eqH [] []) (and (pdec (rune_pre (sub s t6.toNat (IntKind.i64.wrap (t6 + oneV (List.drop t6.toNat (toL s)))).toNat))) (and (decide (t6.toNat ≤ (IntKind.i64.wrap (t6 + oneV (List.drop t6.toNat (toL s)))).toNat)) (and (decide (0 ≤ t6)) (and (decide (0 ≤ IntKind.i64.wrap (t6 + oneV (List.drop t6.toNat (toL s))))) (and (decide (IntKind.i64.wrap (t6 + oneV (List.drop t6.toNat (toL s))) ≤ (↑(slen s) : Int))) (and (decide (0 + t4n * 1 ≤ l0.length)) (and (decide ((t4n + 1) * 8 ≤ 140737488355328)) (and (decide (t4n + 1 ≤ 9223372036854775807)) (and ((decide (oneV (List.drop t6.toNat (toL s)) ≤ 0)) == false) (and (eqA [Value.string s, Value.int IntKind.i64 t6] [Value.string s, Value.int IntKind.i64 t6]) (and (eqH [] []) (and (pdec (one_pre s t6)) (and ((decide (t6 < (↑(slen s) : Int))) == true) (true)))))))))))))))))))), refrunes_h1 s (t4n + 1) (t5n + 1) (IntKind.i64.wrap (t6 + oneV (List.drop t6.toNat (toL s)))) (List.take (t4n * 1) (List.drop 0 l0) ++ [Value.int IntKind.i64 t6]) (List.take (t5n * 1) (List.drop 0 l1) ++ [Value.int IntKind.i64 (runeV (toL (sub s t6.toNat (IntKind.i64.wrap (t6 + oneV (List.drop t6.toNat (toL s)))).toNat)))])) := by kernel_rfl
def refrunes_t1 (s : ByteArray) (t4n : Nat) (t5n : Nat) (t6 : Int) (l0 : List Value) (l1 : List Value) : refrunes_R :=
  bif decide (t6 < (↑(slen s) : Int)) then bif decide (oneV (List.drop t6.toNat (toL s)) ≤ 0) then .inr (t4n, t5n, l0, l1)
    else .inl (t4n + 1, t5n + 1, IntKind.i64.wrap (t6 + oneV (List.drop t6.toNat (toL s))), List.take (t4n * 1) (List.drop 0 l0) ++ [Value.int IntKind.i64 t6], List.take (t5n * 1) (List.drop 0 l1) ++ [Value.int IntKind.i64 (runeV (toL (sub s t6.toNat (IntKind.i64.wrap (t6 + oneV (List.drop t6.toNat (toL s)))).toNat)))])
  else .inr (t4n, t5n, l0, l1)
def refrunes_S1 (s : ByteArray) (t4n : Nat) (t5n : Nat) (t6 : Int) (l0 : List Value) (l1 : List Value) : Prop :=
  ((decide (t6 < (↑(slen s) : Int))) = true → ((decide (oneV (List.drop t6.toNat (toL s)) ≤ 0)) = true → ((l0.all flat) = true) ∧ ((l1.all flat) = true) ∧ (one_pre s t6)) ∧
    ((decide (oneV (List.drop t6.toNat (toL s)) ≤ 0)) = false → (((List.take (t4n * 1) (List.drop 0 l0) ++ [Value.int IntKind.i64 t6]).all flat) = true) ∧ (((List.take (t5n * 1) (List.drop 0 l1) ++ [Value.int IntKind.i64 (runeV (toL (sub s t6.toNat (IntKind.i64.wrap (t6 + oneV (List.drop t6.toNat (toL s)))).toNat)))]).all flat) = true) ∧ (0 + t5n * 1 ≤ l1.length) ∧ ((t5n + 1) * 8 ≤ 140737488355328) ∧ (t5n + 1 ≤ 9223372036854775807) ∧ (rune_pre (sub s t6.toNat (IntKind.i64.wrap (t6 + oneV (List.drop t6.toNat (toL s)))).toNat)) ∧ (t6.toNat ≤ (IntKind.i64.wrap (t6 + oneV (List.drop t6.toNat (toL s)))).toNat) ∧ (0 ≤ t6) ∧ (0 ≤ IntKind.i64.wrap (t6 + oneV (List.drop t6.toNat (toL s)))) ∧ (IntKind.i64.wrap (t6 + oneV (List.drop t6.toNat (toL s))) ≤ (↑(slen s) : Int)) ∧ (0 + t4n * 1 ≤ l0.length) ∧ ((t4n + 1) * 8 ≤ 140737488355328) ∧ (t4n + 1 ≤ 9223372036854775807) ∧ (one_pre s t6))) ∧
  ((decide (t6 < (↑(slen s) : Int))) = false → ((l0.all flat) = true) ∧ ((l1.all flat) = true))
theorem refrunes_ok1 (s : ByteArray) (t4n : Nat) (t5n : Nat) (t6 : Int) (l0 : List Value) (l1 : List Value) (hS : refrunes_S1 s t4n t5n t6 l0 l1) : refrunes_Q s (refrunes_h1 s t4n t5n t6 l0 l1) (refrunes_t1 s t4n t5n t6 l0 l1) := by
  unfold refrunes_S1 at hS
  unfold refrunes_t1
  refine cond_intro (P := refrunes_Q s (refrunes_h1 s t4n t5n t6 l0 l1)) _ (fun h0 => ?_) (fun h0 => ?_)
  · skip
    refine cond_intro (P := refrunes_Q s (refrunes_h1 s t4n t5n t6 l0 l1)) _ (fun h1 => ?_) (fun h1 => ?_)
    · skip
      exact ends_ofB KJ_ok (refrunes_p1_0 s t4n t5n t6 l0 l1) (andI (((hS.1 h0).1 h1).1) (andI (((hS.1 h0).1 h1).2.1) (andI (((hS.1 h0).1 h1).1) (andI (((hS.1 h0).1 h1).2.1) (andI (dT h1) (andI (eqA_self _) (andI (eqH_self _) (andI (pdec_iff.2 ((hS.1 h0).1 h1).2.2) (andI (dT h0) (rfl)))))))))) (by kernel_rfl) (Nat.le_of_ble_eq_true (by kernel_rfl)) (fun i hi => absurd hi (Nat.not_lt_zero _)) (fun i hi => absurd hi (Nat.not_lt_zero _))
    · skip
      show Gets E 0 _ (refrunes_h1 s (t4n + 1) (t5n + 1) (IntKind.i64.wrap (t6 + oneV (List.drop t6.toNat (toL s)))) (List.take (t4n * 1) (List.drop 0 l0) ++ [Value.int IntKind.i64 t6]) (List.take (t5n * 1) (List.drop 0 l1) ++ [Value.int IntKind.i64 (runeV (toL (sub s t6.toNat (IntKind.i64.wrap (t6 + oneV (List.drop t6.toNat (toL s)))).toNat)))]))
      exact reach_gb KJ_ok (refrunes_p1_2 s t4n t5n t6 l0 l1) (andI (((hS.1 h0).2 h1).1) (andI (((hS.1 h0).2 h1).2.1) (andI (decide_eq_true ((hS.1 h0).2 h1).2.2.1) (andI (decide_eq_true ((hS.1 h0).2 h1).2.2.2.1) (andI (decide_eq_true ((hS.1 h0).2 h1).2.2.2.2.1) (andI (eqA_self _) (andI (eqH_self _) (andI (pdec_iff.2 ((hS.1 h0).2 h1).2.2.2.2.2.1) (andI (decide_eq_true ((hS.1 h0).2 h1).2.2.2.2.2.2.1) (andI (decide_eq_true ((hS.1 h0).2 h1).2.2.2.2.2.2.2.1) (andI (decide_eq_true ((hS.1 h0).2 h1).2.2.2.2.2.2.2.2.1) (andI (decide_eq_true ((hS.1 h0).2 h1).2.2.2.2.2.2.2.2.2.1) (andI (decide_eq_true ((hS.1 h0).2 h1).2.2.2.2.2.2.2.2.2.2.1) (andI (decide_eq_true ((hS.1 h0).2 h1).2.2.2.2.2.2.2.2.2.2.2.1) (andI (decide_eq_true ((hS.1 h0).2 h1).2.2.2.2.2.2.2.2.2.2.2.2.1) (andI (dF h1) (andI (eqA_self _) (andI (eqH_self _) (andI (pdec_iff.2 ((hS.1 h0).2 h1).2.2.2.2.2.2.2.2.2.2.2.2.2) (andI (dT h0) (rfl))))))))))))))))))))) (Nat.le_of_ble_eq_true (by kernel_rfl)) (fun i hi => absurd hi (Nat.not_lt_zero _)) (fun i hi => absurd hi (Nat.not_lt_zero _)) (Nat.le_of_ble_eq_true (by kernel_rfl))
  · skip
    exact ends_ofB KJ_ok (refrunes_p1_1 s t4n t5n t6 l0 l1) (andI ((hS.2 h0).1) (andI ((hS.2 h0).2) (andI ((hS.2 h0).1) (andI ((hS.2 h0).2) (andI (dF h0) (rfl)))))) (by kernel_rfl) (Nat.le_of_ble_eq_true (by kernel_rfl)) (fun i hi => absurd hi (Nat.not_lt_zero _)) (fun i hi => absurd hi (Nat.not_lt_zero _))


end Go.Proofs.Ytadpggfmogjddaa
