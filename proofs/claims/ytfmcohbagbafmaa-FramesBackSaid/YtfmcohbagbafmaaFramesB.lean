/-
  The statement FramesLeft as plain functions.
-/
import Derived.Test.YtfmcohbagbafmaaAmSlim
import Derived.Test.YtfmcohbagbafmaaFramesA
set_option linter.unusedVariables false
set_option linter.unusedSimpArgs false
open Go Go.Am
namespace Go.Proofs.Ytfmcohbagbafmaa

noncomputable def KB0 : Ctr := ctrOf E [(22, ptrA, rstep_k)]
theorem KB0_ok : KOk E KB0 := ctr_cons rstep_k_ok ctr_nil

abbrev awake_R : Type := Unit
def awake_V (r : Unit) : Value := .bool true
def awake_H (r : Unit) : Heap := []
noncomputable def awake_Q (C : Cfg) (r : awake_R) : Prop :=
 let p := r
 AEnds E 10 0 C (awake_V p) (awake_H p)
def awake_t0 : awake_R :=
 ()
def awake_S0 : Prop :=
 (rstep_S0 true 1 (sub (cat (sub (sub (cat { data := #[] } { data := #[129, 130, 0, 0, 0, 0, 104] }) 6 7) 1 1) { data := #[105] }) 1 1) true 0 1 true 0 0 0 0 2 true 2) ∧ (rstep_S0 true 1 (cat (sub (sub (cat { data := #[] } { data := #[129, 130, 0, 0, 0, 0, 104] }) 6 7) 1 1) { data := #[105] }) true 0 1 true 0 0 0 0 2 true 1) ∧ (rstep_S0 true 1 (sub (sub (cat { data := #[] } { data := #[129, 130, 0, 0, 0, 0, 104] }) 6 7) 1 1) true 0 1 true 0 0 0 0 2 true 1) ∧ (rstep_S0 true 1 (sub (cat { data := #[] } { data := #[129, 130, 0, 0, 0, 0, 104] }) 6 7) true 0 1 true 0 0 0 0 2 true 0) ∧ (rstep_S0 true 0 (cat { data := #[] } { data := #[129, 130, 0, 0, 0, 0, 104] }) false 0 0 false 0 0 0 0 0 false 0)
theorem awake_ok0 (hS : awake_S0) : awake_Q (startC E 10 ([]) ([])) (awake_t0) := by
 unfold awake_S0 at hS
 unfold awake_t0
 exact ends_q KB0_ok 2000 522 (bs 25 33543959) [] [0] [] (and8 (eqA_self [.pointer (some ⟨0, 0, none⟩)]) (eqH_self [some (.cells [.bool true, .int .i64 1, .string (sub (cat (sub (sub (cat { data := #[] } { data := #[129, 130, 0, 0, 0, 0, 104] }) 6 7) 1 1) { data := #[105] }) 1 1), .bool true, .int .i64 0, .int .i64 1, .bool true, .int .u8 0, .int .u8 0, .int .u8 0, .int .u8 0, .int .u64 2, .bool true, .int .i64 2] 48 none)]) (pdec_iff.2 hS.1) (eqA_self [.pointer (some ⟨0, 0, none⟩)]) (eqH_self [some (.cells [.bool true, .int .i64 1, .string (cat (sub (sub (cat { data := #[] } { data := #[129, 130, 0, 0, 0, 0, 104] }) 6 7) 1 1) { data := #[105] }), .bool true, .int .i64 0, .int .i64 1, .bool true, .int .u8 0, .int .u8 0, .int .u8 0, .int .u8 0, .int .u64 2, .bool true, .int .i64 1] 48 none)]) (pdec_iff.2 hS.2.1) (eqA_self [.pointer (some ⟨0, 0, none⟩)]) (eqH_self [some (.cells [.bool true, .int .i64 1, .string (sub (sub (cat { data := #[] } { data := #[129, 130, 0, 0, 0, 0, 104] }) 6 7) 1 1), .bool true, .int .i64 0, .int .i64 1, .bool true, .int .u8 0, .int .u8 0, .int .u8 0, .int .u8 0, .int .u64 2, .bool true, .int .i64 1] 48 none)]) (andI (pdec_iff.2 hS.2.2.1) (andI (eqA_self [.pointer (some ⟨0, 0, none⟩)]) (andI (eqH_self [some (.cells [.bool true, .int .i64 1, .string (sub (cat { data := #[] } { data := #[129, 130, 0, 0, 0, 0, 104] }) 6 7), .bool true, .int .i64 0, .int .i64 1, .bool true, .int .u8 0, .int .u8 0, .int .u8 0, .int .u8 0, .int .u64 2, .bool true, .int .i64 0] 48 none)]) (and4 (pdec_iff.2 hS.2.2.2.1) (eqA_self [.pointer (some ⟨0, 0, none⟩)]) (eqH_self [some (.cells [.bool true, .int .i64 0, .string (cat { data := #[] } { data := #[129, 130, 0, 0, 0, 0, 104] }), .bool false, .int .i64 0, .int .i64 0, .bool false, .int .u8 0, .int .u8 0, .int .u8 0, .int .u8 0, .int .u64 0, .bool false, .int .i64 0] 48 none)]) (pdec_iff.2 hS.2.2.2.2) rfl)))))
theorem awake_call (hS : awake_S0) : CallOk E 10 ([]) ([]) (awake_V (awake_t0)) (awake_H (awake_t0)) := callOk_of_ends (awake_ok0 hS) (by kernel_rfl) (Nat.le_of_ble_eq_true (by kernel_rfl))
def awake_ex (a : List Value) (h : Heap) : Unit := ()
noncomputable def awake_k : Ct := kP awake_ex (fun x => []) (fun x => []) (fun x => awake_S0 ) (fun x => awake_V  (awake_t0 )) (fun x => awake_H  (awake_t0 ))
theorem awake_k_ok : KFor E 10 awake_k := kP_ok (fun x hx => awake_call  hx)


end Go.Proofs.Ytfmcohbagbafmaa
