/-
  A block's rounds: the unit (printed by the tool, its list of 80 cells written shorter).
-/
import Derived.Test.YtncldppnmkbklaaAmSlim
import Derived.Test.YtncldppnmkbklaaShaD
set_option linter.unusedVariables false
set_option linter.unusedSimpArgs false
open Go Go.Am
namespace Go.Proofs.Ytncldppnmkbklaa
set_option maxHeartbeats 2000000

noncomputable def after_b1 (a0 a1 : Int) (a2 a3 a4 : Int) (s : ByteArray) : Cfg := cfgOf (goNil E KD 2000 20 (some []) [] [] [0, 1, 2] [2, 4, 5, 13, 14] [] [] [] (startC E 13 ([.agg #[.int .u32 a0, .int .u32 a1, .int .u32 a2, .int .u32 a3, .int .u32 a4], .string s]) ([])))
noncomputable def after_h1 (a0 a1 : Int) (a2 a3 a4 : Int) (s : ByteArray) (t14 c2_0 : Int) (c2_1 c2_2 : Int) (c2_3 c2_4 : Int) : Cfg := wCell 2 4 (.int .u32 c2_4) (wCell 2 3 (.int .u32 c2_3) (wCell 2 2 (.int .u32 c2_2) (wCell 2 1 (.int .u32 c2_1) (wCell 2 0 (.int .u32 c2_0) (wTmp 14 (.int .i64 t14) (after_b1 a0 a1 a2 a3 a4 s))))))
abbrev after_R : Type := (Int × Int × Int × Int × Int × Int) ⊕ (Int × Int × Int × Int × Int)
noncomputable def after_V (a0 a1 : Int) (a2 a3 a4 : Int) (s : ByteArray) (r : Int × Int × Int × Int × Int) : Value := .agg #[.int .u32 r.1, .int .u32 r.2.1, .int .u32 r.2.2.1, .int .u32 r.2.2.2.1, .int .u32 r.2.2.2.2]
noncomputable def after_H (a0 a1 : Int) (a2 a3 a4 : Int) (s : ByteArray) (r : Int × Int × Int × Int × Int) : Heap := []
noncomputable def after_Q (a0 a1 : Int) (a2 a3 a4 : Int) (s : ByteArray) (C : Cfg) (r : after_R) : Prop :=
  match r with
  | .inl (p) => Gets E 0 C (after_h1 a0 a1 a2 a3 a4 s (p.1) (p.2.1) (p.2.2.1) (p.2.2.2.1) (p.2.2.2.2.1) (p.2.2.2.2.2))
  | .inr (p) => AEnds E 13 0 C (after_V a0 a1 a2 a3 a4 s p) (after_H a0 a1 a2 a3 a4 s p)
theorem after_go1 {a0 : Int} {a1 : Int} {a2 : Int} {a3 : Int} {a4 : Int} {s : ByteArray} {C : Cfg} {t14 : Int} {c2_0 : Int} {c2_1 : Int} {c2_2 : Int} {c2_3 : Int} {c2_4 : Int} (h : after_Q a0 a1 a2 a3 a4 s C (.inl ((t14, c2_0, c2_1, c2_2, c2_3, c2_4)))) : Gets E 0 C (after_h1 a0 a1 a2 a3 a4 s t14 c2_0 c2_1 c2_2 c2_3 c2_4) := h
theorem after_end {a0 : Int} {a1 : Int} {a2 : Int} {a3 : Int} {a4 : Int} {s : ByteArray} {C : Cfg} {r : Int × Int × Int × Int × Int} (h : after_Q a0 a1 a2 a3 a4 s C (.inr (r))) : AEnds E 13 0 C (after_V a0 a1 a2 a3 a4 s r) (after_H a0 a1 a2 a3 a4 s r) := h
noncomputable def after_t0 (a0 a1 : Int) (a2 a3 a4 : Int) (s : ByteArray) : after_R :=
  .inl ((0, a0, a1, a2, a3, a4))
noncomputable def after_S0 (a0 a1 : Int) (a2 a3 a4 : Int) (s : ByteArray) : Prop :=
  schedc_pre s
theorem after_ok0 (a0 a1 : Int) (a2 a3 a4 : Int) (s : ByteArray) (hS : after_S0 a0 a1 a2 a3 a4 s) : after_Q a0 a1 a2 a3 a4 s (startC E 13 ([.agg #[.int .u32 a0, .int .u32 a1, .int .u32 a2, .int .u32 a3, .int .u32 a4], .string s]) ([])) (after_t0 a0 a1 a2 a3 a4 s) := by
  unfold after_S0 at hS
  unfold after_t0
  show Gets E 0 _ (after_h1 a0 a1 a2 a3 a4 s (0) a0 a1 a2 a3 a4)
  exact reach_q KD_ok 2000 20 (some []) [] [] [0, 1, 2] [2, 4, 5, 13, 14] [] [] [] (andI (eqA_self [.string s]) (andI (eqH_self []) (andI (pdec_iff.2 hS) (rfl))))
noncomputable def after_t1 (a0 a1 : Int) (a2 a3 a4 : Int) (s : ByteArray) (t14 c2_0 : Int) (c2_1 c2_2 : Int) (c2_3 c2_4 : Int) : after_R :=
  bif decide (t14 < 80) then .inl ((IntKind.i64.wrap (t14 + 1), IntKind.u32.wrap (IntKind.u32.wrap (IntKind.u32.wrap (IntKind.u32.wrap (rot c2_0 5 + mf t14 c2_1 c2_2 c2_3) + c2_4) + mk t14 c2_1 c2_2 c2_3) + toInt ((vw ((List.range 80).map (wv s))).getD (t14.toNat * 1) undef)), c2_0, rot c2_1 30, c2_2, c2_3))
  else .inr ((IntKind.u32.wrap (a0 + c2_0), IntKind.u32.wrap (a1 + c2_1), IntKind.u32.wrap (a2 + c2_2), IntKind.u32.wrap (a3 + c2_3), IntKind.u32.wrap (a4 + c2_4)))
noncomputable def after_S1 (a0 a1 : Int) (a2 a3 a4 : Int) (s : ByteArray) (t14 c2_0 : Int) (c2_1 c2_2 : Int) (c2_3 c2_4 : Int) : Prop :=
  ((decide (t14 < 80)) = true → (rotc_pre c2_1 30) ∧ (rotc_pre c2_0 5) ∧ (mixc_pre t14 c2_1 c2_2 c2_3) ∧ (0 ≤ t14) ∧ (t14 < 80) ∧ (t14.toNat * 1 < 80) ∧ ((isInt IntKind.u32 ((vw ((List.range 80).map (wv s))).getD (t14.toNat * 1) undef)) = true)) ∧
  ((decide (t14 < 80)) = false → True)
theorem after_ok1 (a0 a1 : Int) (a2 a3 a4 : Int) (s : ByteArray) (t14 c2_0 : Int) (c2_1 c2_2 : Int) (c2_3 c2_4 : Int) (hS : after_S1 a0 a1 a2 a3 a4 s t14 c2_0 c2_1 c2_2 c2_3 c2_4) : after_Q a0 a1 a2 a3 a4 s (after_h1 a0 a1 a2 a3 a4 s t14 c2_0 c2_1 c2_2 c2_3 c2_4) (after_t1 a0 a1 a2 a3 a4 s t14 c2_0 c2_1 c2_2 c2_3 c2_4) := by
  unfold after_S1 at hS
  unfold after_t1
  refine cond_intro (P := after_Q a0 a1 a2 a3 a4 s (after_h1 a0 a1 a2 a3 a4 s t14 c2_0 c2_1 c2_2 c2_3 c2_4)) _ (fun h0 => ?_) (fun h0 => ?_)
  · skip
    show Gets E 0 _ (after_h1 a0 a1 a2 a3 a4 s (IntKind.i64.wrap (t14 + 1)) (IntKind.u32.wrap (IntKind.u32.wrap (IntKind.u32.wrap (IntKind.u32.wrap (rot c2_0 5 + mf t14 c2_1 c2_2 c2_3) + c2_4) + mk t14 c2_1 c2_2 c2_3) + toInt ((vw ((List.range 80).map (wv s))).getD (t14.toNat * 1) undef))) c2_0 (rot c2_1 30) c2_2 c2_3)
    exact reach_q KD_ok 2000 39 (some [true]) [] [] [0, 1, 2] [2, 4, 5, 13, 14] [] [] [] (andI (beq_self_eq_true (mf t14 c2_1 c2_2 c2_3)) (andI (beq_self_eq_true (mf t14 c2_1 c2_2 c2_3)) (andI (beq_self_eq_true (IntKind.u32.wrap (rot c2_0 5 + mf t14 c2_1 c2_2 c2_3))) (andI (beq_self_eq_true (c2_4)) (andI (beq_self_eq_true (c2_4)) (andI (beq_self_eq_true (IntKind.u32.wrap (IntKind.u32.wrap (rot c2_0 5 + mf t14 c2_1 c2_2 c2_3) + c2_4))) (andI (beq_self_eq_true (mk t14 c2_1 c2_2 c2_3)) (andI (beq_self_eq_true (mk t14 c2_1 c2_2 c2_3)) (andI (beq_self_eq_true (IntKind.u32.wrap (IntKind.u32.wrap (IntKind.u32.wrap (rot c2_0 5 + mf t14 c2_1 c2_2 c2_3) + c2_4) + mk t14 c2_1 c2_2 c2_3))) (andI (beq_self_eq_true (toInt ((vw ((List.range 80).map (wv s))).getD (t14.toNat * 1) undef))) (andI (beq_self_eq_true (toInt ((vw ((List.range 80).map (wv s))).getD (t14.toNat * 1) undef))) (andI (beq_self_eq_true (IntKind.u32.wrap (IntKind.u32.wrap (IntKind.u32.wrap (IntKind.u32.wrap (rot c2_0 5 + mf t14 c2_1 c2_2 c2_3) + c2_4) + mk t14 c2_1 c2_2 c2_3) + toInt ((vw ((List.range 80).map (wv s))).getD (t14.toNat * 1) undef)))) (andI (beq_self_eq_true (c2_0)) (andI (beq_self_eq_true (c2_0)) (andI (beq_self_eq_true (c2_1)) (andI (beq_self_eq_true (c2_2)) (andI (beq_self_eq_true (c2_2)) (andI (beq_self_eq_true (c2_3)) (andI (beq_self_eq_true (c2_3)) (andI (eqA_self [.int .u32 c2_1, .int .i64 30]) (andI (eqH_self []) (andI (pdec_iff.2 (hS.1 h0).1) (andI (eqA_self [.int .u32 c2_0, .int .i64 5]) (andI (eqH_self []) (andI (pdec_iff.2 (hS.1 h0).2.1) (andI (eqA_self [.int .i64 t14, .int .u32 c2_1, .int .u32 c2_2, .int .u32 c2_3]) (andI (eqH_self []) (andI (pdec_iff.2 (hS.1 h0).2.2.1) (andI (decide_eq_true (hS.1 h0).2.2.2.1) (andI (decide_eq_true (hS.1 h0).2.2.2.2.1) (andI (decide_eq_true (hS.1 h0).2.2.2.2.2.1) (andI ((hS.1 h0).2.2.2.2.2.2) (andI (dT h0) (rfl))))))))))))))))))))))))))))))))))
  · skip
    exact ends_q KD_ok 2000 131 (some [false, true, true, true, true, true, false]) [1] [4] [] (andI (dF h0) (rfl))


end Go.Proofs.Ytncldppnmkbklaa
