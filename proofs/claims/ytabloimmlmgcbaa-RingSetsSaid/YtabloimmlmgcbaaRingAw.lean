/-
  The chapter's first ring.
-/
import Derived.Test.YtabloimmlmgcbaaEnv
import Derived.Test.YtabloimmlmgcbaaAmDt
set_option linter.unusedVariables false
set_option linter.unusedSimpArgs false
open Go Go.Am
namespace Go.Proofs.Ytabloimmlmgcbaa

abbrev awake_R : Type := Unit
def awake_V (r : Unit) : Value := Value.bool true
def awake_H (r : Unit) : Heap := []
noncomputable def awake_Q (C : Cfg) (r : awake_R) : Prop :=
  let p := r
  AEnds E 8 0 C (awake_V p) (awake_H p)
theorem awake_p0_0 : goFinB E noK 2000 397 (some [false, false, false, false, true, false, false, false, false, false, false, false, true, false, false, false, false, false, false, true, true, true, true, true, true, true, true, true, false]) [] [0] [] (startC E 8 ([]) ([])) = some (true, Value.bool true, []) := by kernel_rfl
def awake_t0 : awake_R :=
  ()
def awake_S0 : Prop :=
  True
theorem awake_ok0 (hS : awake_S0) : awake_Q (startC E 8 ([]) ([])) (awake_t0) := by
  unfold awake_S0 at hS
  unfold awake_t0
  exact ends_ofB noK_ok (awake_p0_0) (rfl) (by kernel_rfl) (Nat.le_of_ble_eq_true (by kernel_rfl)) (fun i hi => absurd hi (Nat.not_lt_zero _)) (fun i hi => absurd hi (Nat.not_lt_zero _))
theorem awake_call (hS : awake_S0) : CallOk E 8 ([]) ([]) (awake_V (awake_t0)) (awake_H (awake_t0)) := callOk_of_ends (awake_ok0 hS) (by kernel_rfl) (Nat.le_of_ble_eq_true (by kernel_rfl))
def awake_ex (a : List Value) (h : Heap) : Unit := ()
noncomputable def awake_k : Ct := kP awake_ex (fun x => []) (fun x => []) (fun x => awake_S0 ) (fun x => awake_V  (awake_t0 )) (fun x => awake_H  (awake_t0 ))
theorem awake_k_ok : KFor E 8 awake_k := kP_ok (fun x hx => awake_call  hx)


end Go.Proofs.Ytabloimmlmgcbaa
