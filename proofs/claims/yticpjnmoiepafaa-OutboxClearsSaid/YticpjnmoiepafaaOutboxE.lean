/-
  The statement OutboxFull, as plain functions.
-/
import Derived.Test.YticpjnmoiepafaaOutboxC
import Derived.Test.YticpjnmoiepafaaOutboxD
set_option linter.unusedVariables false
set_option linter.unusedSimpArgs false
open Go Go.Am
namespace Go.Proofs.Yticpjnmoiepafaa

noncomputable def KR : Ctr := ctrOf E [(35, ptrA, kOr (nilAt 3) kNone spushc_k), (32, ptrA, kOr (nilAt 3) kNone spop_k), (36, ptrA, kOr (nilAt 3) kNone slen_k), (31, ptrA, kOr (nilAt 3) kNone mpushc_k), (33, ptrA, kOr (nilAt 3) kNone mpop_k), (34, ptrA, kOr (nilAt 3) kNone mlen_k)]
theorem KR_ok : KOk E KR := ctr_cons (kOr_ok kNone_ok spushc_k_ok) (ctr_cons (kOr_ok kNone_ok spop_k_ok) (ctr_cons (kOr_ok kNone_ok slen_k_ok) (ctr_cons (kOr_ok kNone_ok mpushc_k_ok) (ctr_cons (kOr_ok kNone_ok mpop_k_ok) (ctr_cons (kOr_ok kNone_ok mlen_k_ok) ctr_nil)))))

abbrev wakes_R : Type := Unit
def wakes_V (r : Unit) : Value := Value.bool true
def wakes_H (r : Unit) : Heap := []
noncomputable def wakes_Q (C : Cfg) (r : wakes_R) : Prop :=
  let p := r
  AEnds E 9 0 C (wakes_V p) (wakes_H p)
theorem wakes_p0_0 : goFinB E noK 2000 1087 (some [false, false, false, false, false, false, false, false, false, false, false, false, false, true, false, false, false, false, true, false, false, false, false, false, false, false, true, false, false, false, false, false, true, false, false, false, false, false, true, true, true, false, false, false, false, true, false, false, true, true, true, true, true, true, true, false, false, false, false, false, false, true, true, true, false, false, false, true, false, false]) [] [0] [] (startC E 9 ([]) ([])) = some (true, Value.bool true, []) := by kernel_rfl
noncomputable def wakes_t0 : wakes_R :=
  ()
def wakes_S0 : Prop :=
  True
theorem wakes_ok0 (hS : wakes_S0) : wakes_Q (startC E 9 ([]) ([])) (wakes_t0) := by
  unfold wakes_S0 at hS
  unfold wakes_t0
  exact ends_ofB noK_ok (wakes_p0_0) (rfl) (by kernel_rfl) (Nat.le_of_ble_eq_true (by kernel_rfl)) (fun i hi => absurd hi (Nat.not_lt_zero _)) (fun i hi => absurd hi (Nat.not_lt_zero _))
theorem wakes_call (hS : wakes_S0) : CallOk E 9 ([]) ([]) (wakes_V (wakes_t0)) (wakes_H (wakes_t0)) := callOk_of_ends (wakes_ok0 hS) (by kernel_rfl) (Nat.le_of_ble_eq_true (by kernel_rfl))
def wakes_ex (a : List Value) (h : Heap) : Unit := ()
noncomputable def wakes_k : Ct := kP wakes_ex (fun x => []) (fun x => []) (fun x => wakes_S0 ) (fun x => wakes_V  (wakes_t0 )) (fun x => wakes_H  (wakes_t0 ))
theorem wakes_k_ok : KFor E 9 wakes_k := kP_ok (fun x hx => wakes_call  hx)


end Go.Proofs.Yticpjnmoiepafaa
