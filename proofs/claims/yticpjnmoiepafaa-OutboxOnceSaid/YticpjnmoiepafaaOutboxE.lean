/-
  The statement OutboxFull, as plain functions.
-/
import Derived.Test.YticpjnmoiepafaaAmSlim
import Derived.Test.YticpjnmoiepafaaOutboxC
import Derived.Test.YticpjnmoiepafaaOutboxD
set_option linter.unusedVariables false
set_option linter.unusedSimpArgs false
open Go Go.Am
namespace Go.Proofs.Yticpjnmoiepafaa

abbrev wakes_R : Type := Unit
def wakes_V (r : Unit) : Value := .bool true
def wakes_H (r : Unit) : Heap := []
noncomputable def wakes_Q (C : Cfg) (r : wakes_R) : Prop :=
 let p := r
 AEnds E 9 0 C (wakes_V p) (wakes_H p)
noncomputable def wakes_t0 : wakes_R :=
 ()
def wakes_S0 : Prop :=
 True
theorem wakes_ok0 (hS : wakes_S0) : wakes_Q (startC E 9 ([]) ([])) (wakes_t0) := by
 unfold wakes_S0 at hS
 unfold wakes_t0
 exact ends_q noK_ok 2000 1087 (bs 70 163750638089094307840) [] [0] [] (rfl)
theorem wakes_call (hS : wakes_S0) : CallOk E 9 ([]) ([]) (wakes_V (wakes_t0)) (wakes_H (wakes_t0)) := callOk_of_ends (wakes_ok0 hS) (by kernel_rfl) (Nat.le_of_ble_eq_true (by kernel_rfl))
def wakes_ex (a : List Value) (h : Heap) : Unit := ()
noncomputable def wakes_k : Ct := kS wakes_ex [] [] (fun x => wakes_S0 ) (fun x => wakes_V  (wakes_t0 )) (fun x => wakes_H  (wakes_t0 ))
theorem wakes_k_ok : KFor E 9 wakes_k := kS_ok (fun x hx => wakes_call  hx) (fun _ _ => rfl) (fun _ _ => rfl)


end Go.Proofs.Yticpjnmoiepafaa
