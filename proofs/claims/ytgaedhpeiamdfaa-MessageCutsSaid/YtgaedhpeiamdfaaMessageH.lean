/-
  The joiner's contracts for messages that may be; how it is cut.
-/
import Derived.Test.YtgaedhpeiamdfaaAmSlim
import Derived.Test.YtgaedhpeiamdfaaMessageF
set_option linter.unusedVariables false
set_option linter.unusedSimpArgs false
open Go Go.Am
namespace Go.Proofs.Ytgaedhpeiamdfaa

noncomputable def KN : Ctr := ctrOf E [(21, anyA, turn_k)]
theorem KN_ok : KOk E KN := ctr_cons turn_k_ok ctr_nil

abbrev next_R : Type := Int × Int
def next_V (most at' : Int) (n : Nat) (A : List Value) (r : Int × Int) : Value := .int .i64 r.1
def next_H (most at' : Int) (n : Nat) (A : List Value) (r : Int × Int) : Heap := [some (.cells [.int .i64 r.2] 3 none), some (.cells [.iface n (.agg A.toArray)] 61 none)]
noncomputable def next_Q (most at' : Int) (n : Nat) (A : List Value) (C : Cfg) (r : next_R) : Prop :=
  let p := r
  AEnds E 23 2 C (next_V most at' n A p) (next_H most at' n A p)
noncomputable def next_t0 (most at' : Int) (n : Nat) (A : List Value) : next_R :=
  bif decide ((↑n : Int) ≤ at') then (most, at')
  else bif decide (most < 1) then (most, at')
    else (turn_t0 (toInt (A.getD ((IntKind.i64.wrap (IntKind.i64.wrap (at' + 1) - 1)).toNat * 1) undef)) (IntKind.i64.wrap (most + 1)), IntKind.i64.wrap (at' + 1))
def next_S0 (most at' : Int) (n : Nat) (A : List Value) : Prop :=
  ((decide ((↑n : Int) ≤ at')) = true → True) ∧
  ((decide ((↑n : Int) ≤ at')) = false → ((decide (most < 1)) = true → True) ∧
    ((decide (most < 1)) = false → (turn_S0 (toInt (A.getD ((IntKind.i64.wrap (IntKind.i64.wrap (at' + 1) - 1)).toNat * 1) undef)) (IntKind.i64.wrap (most + 1))) ∧ ((IntKind.i64.wrap (IntKind.i64.wrap (at' + 1) - 1)).toNat * 1 < A.length) ∧ ((isInt IntKind.i64 (A.getD ((IntKind.i64.wrap (IntKind.i64.wrap (at' + 1) - 1)).toNat * 1) undef)) = true) ∧ (0 ≤ IntKind.i64.wrap (IntKind.i64.wrap (at' + 1) - 1)) ∧ (IntKind.i64.wrap (IntKind.i64.wrap (at' + 1) - 1) < (↑n : Int)) ∧ (0 < A.length)))
theorem next_ok0 (most at' : Int) (n : Nat) (A : List Value) (hS : next_S0 most at' n A) : next_Q most at' n A (startC E 23 ([.int .i64 most, .pointer (some ⟨0, 0, none⟩), .pointer (some ⟨1, 0, none⟩)]) ([some (.cells [.int .i64 at'] 3 none), some (.cells [.iface n (.agg A.toArray)] 61 none)])) (next_t0 most at' n A) := by
  unfold next_S0 at hS
  unfold next_t0
  refine cond_intro (P := next_Q most at' n A (startC E 23 ([.int .i64 most, .pointer (some ⟨0, 0, none⟩), .pointer (some ⟨1, 0, none⟩)]) ([some (.cells [.int .i64 at'] 3 none), some (.cells [.iface n (.agg A.toArray)] 61 none)]))) _ (fun h0 => ?_) (fun h0 => ?_)
  · skip
    exact ends_q KN_ok 2000 22 (some [true, true]) [0, 1] [4] [0, 1] (andI (dT h0) (rfl))
  · skip
    refine cond_intro (P := next_Q most at' n A (startC E 23 ([.int .i64 most, .pointer (some ⟨0, 0, none⟩), .pointer (some ⟨1, 0, none⟩)]) ([some (.cells [.int .i64 at'] 3 none), some (.cells [.iface n (.agg A.toArray)] 61 none)]))) _ (fun h1 => ?_) (fun h1 => ?_)
    · skip
      exact ends_q KN_ok 2000 22 (some [false, true]) [0, 1] [4] [0, 1] (andI (dT h1) (andI (dF h0) (rfl)))
    · skip
      exact ends_q KN_ok 2000 36 (some [false, false]) [0, 1] [4] [0, 1] (andI (pdec_iff.2 ((hS.2 h0).2 h1).1) (andI (decide_eq_true ((hS.2 h0).2 h1).2.1) (andI (((hS.2 h0).2 h1).2.2.1) (andI (decide_eq_true ((hS.2 h0).2 h1).2.2.2.1) (andI (decide_eq_true ((hS.2 h0).2 h1).2.2.2.2.1) (andI (decide_eq_true ((hS.2 h0).2 h1).2.2.2.2.2) (andI (dF h1) (andI (dF h0) (rfl)))))))))
theorem next_call (most at' : Int) (n : Nat) (A : List Value) (hS : next_S0 most at' n A) : CallOk E 23 ([.int .i64 most, .pointer (some ⟨0, 0, none⟩), .pointer (some ⟨1, 0, none⟩)]) ([some (.cells [.int .i64 at'] 3 none), some (.cells [.iface n (.agg A.toArray)] 61 none)]) (next_V most at' n A (next_t0 most at' n A)) (next_H most at' n A (next_t0 most at' n A)) := callOk_of_ends (next_ok0 most at' n A hS) (by kernel_rfl) (Nat.le_of_ble_eq_true (by kernel_rfl))
def next_ex (a : List Value) (h : Heap) : Int × Int × Nat × List Value := ((toInt (a.getD 0 undef)), (toInt ((cellsOf h 0).getD 0 undef)), (sliceLen ((cellsOf h 1).getD 0 undef)), (aggOf ((cellsOf h 1).getD 0 undef)))
noncomputable def next_k : Ct := kS next_ex [.int .i64, .ptr 0 0, .ptr 1 0] [.cells [.int .i64] 3 none, .cells [.row] 61 none] (fun (a0, a1, a2, a3) => next_S0 a0 a1 a2 a3) (fun (a0, a1, a2, a3) => next_V a0 a1 a2 a3 (next_t0 a0 a1 a2 a3)) (fun (a0, a1, a2, a3) => next_H a0 a1 a2 a3 (next_t0 a0 a1 a2 a3))
theorem next_k_ok : KFor E 23 next_k := kS_ok (fun x hx => next_call (x.1) (x.2.1) (x.2.2.1) (x.2.2.2) hx) (fun _ _ => rfl) (fun _ _ => rfl)


noncomputable def cb_kk : CtD := kOrD (fun _ H => nilP 7 H) (kAsk b0_ask0_ex (kFin b0N_k) (kFin b0F_k)) (kOrD (fun _ H => nilP 5 H) (kAsk b1_ask0_ex (kAsk b1_ask1_ex (kFin b1M_k) (kFin b1N_k)) (kFin b1F_k)) (kOrD (fun _ H => nilAt 6 H) (kAsk b2_ask0_ex (kAsk b2_ask1_ex (kFin b2M_k) (kFin b2N_k)) (kFin b2F_k)) (kAsk b3_ask0_ex (kAsk b3_ask1_ex (kFin b3M_k) (kFin b3N_k)) (kFin b3F_k))))
theorem cb_kk_ok : KForD E 12 cb_kk := kOrD_ok (kAsk_ok (kFin_ok b0N_k_ok) (kFin_ok b0F_k_ok)) (kOrD_ok (kAsk_ok (kAsk_ok (kFin_ok b1M_k_ok) (kFin_ok b1N_k_ok)) (kFin_ok b1F_k_ok)) (kOrD_ok (kAsk_ok (kAsk_ok (kFin_ok b2M_k_ok) (kFin_ok b2N_k_ok)) (kFin_ok b2F_k_ok)) (kAsk_ok (kAsk_ok (kFin_ok b3M_k_ok) (kFin_ok b3N_k_ok)) (kFin_ok b3F_k_ok))))
noncomputable def cp_kk : CtD := kOrD (fun _ H => nilP 5 H) (kAsk p1_ask2_ex (kFin p1S_k) (kFin p1T_k)) (kOrD (fun _ H => nilAt 6 H) (kAsk p2_ask2_ex (kFin p2S_k) (kFin p2T_k)) (kFin p3T_k))
theorem cp_kk_ok : KForD E 14 cp_kk := kOrD_ok (kAsk_ok (kFin_ok p1S_k_ok) (kFin_ok p1T_k_ok)) (kOrD_ok (kAsk_ok (kFin_ok p2S_k_ok) (kFin_ok p2T_k_ok)) (kFin_ok p3T_k_ok))
noncomputable def ce_kk : CtD := kOrD (fun _ H => nilP 5 H) (kAsk e1_ask1_ex (kFin e1W_k) (kFin e1M_k)) (kOrD (fun _ H => nilAt 6 H) (kAsk e2_ask1_ex (kFin e2W_k) (kFin e2M_k)) (kAsk e3_ask1_ex (kFin e3W_k) (kFin e3M_k)))
theorem ce_kk_ok : KForD E 16 ce_kk := kOrD_ok (kAsk_ok (kFin_ok e1W_k_ok) (kFin_ok e1M_k_ok)) (kOrD_ok (kAsk_ok (kFin_ok e2W_k_ok) (kFin_ok e2M_k_ok)) (kAsk_ok (kFin_ok e3W_k_ok) (kFin_ok e3M_k_ok)))
noncomputable def KC0 : Ctr := ctrOf E [(10, anyA, wakes_k), (22, anyA, valid_k), (23, anyA, next_k)]
theorem KC0_ok : KOk E KC0 := ctr_cons wakes_k_ok (ctr_cons valid_k_ok (ctr_cons next_k_ok ctr_nil))
noncomputable def KC : Ctr := ctrD E [(12, ptrA, cb_kk), (14, ptrA, cp_kk), (16, ptrA, ce_kk)] KC0
theorem KC_ok : KOk E KC := ctrD_cons cb_kk_ok (ctrD_cons cp_kk_ok (ctrD_cons ce_kk_ok (ctrD_nil KC0_ok)))

end Go.Proofs.Ytgaedhpeiamdfaa
