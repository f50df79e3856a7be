/-
  What the statements wake with.
-/
import Derived.Test.YtkpkompmfijgkaaFrameG
set_option linter.unusedVariables false
set_option linter.unusedSimpArgs false
open Go Go.Am
namespace Go.Proofs.Ytkpkompmfijgkaa

noncomputable def KH : Ctr := ctrOf E [(12, anyA, fbytesc_k), (16, anyA, freadc_k), (18, anyA, mask_k)]
theorem KH_ok : KOk E KH := ctr_cons fbytesc_k_ok (ctr_cons freadc_k_ok (ctr_cons mask_k_ok ctr_nil))

abbrev awake_R : Type := Unit
def awake_V (r : Unit) : Value := Value.bool true
def awake_H (r : Unit) : Heap := []
noncomputable def awake_Q (C : Cfg) (r : awake_R) : Prop :=
  let p := r
  AEnds E 11 0 C (awake_V p) (awake_H p)
theorem awake_p0_0 : goFinB E KH 2000 74 (some [true, true, true, true, true, true, true]) [] [0] [] (startC E 11 ([]) ([])) = some (and (eqA [Value.agg #[Value.int IntKind.u8 1, Value.int IntKind.u8 0, Value.int IntKind.u8 0, Value.int IntKind.u8 0], Value.int IntKind.i64 0, Value.string { data := #[97] }] [Value.agg #[Value.int IntKind.u8 1, Value.int IntKind.u8 0, Value.int IntKind.u8 0, Value.int IntKind.u8 0], Value.int IntKind.i64 0, Value.string { data := #[97] }]) (and (eqH [] []) (and (pdec (mask_pre 1 0 0 0 0 { data := #[97] })) (and (eqA [Value.string (cat (bytesOf [Value.int IntKind.u8 129, Value.int IntKind.u8 133, Value.int IntKind.u8 55, Value.int IntKind.u8 250, Value.int IntKind.u8 33, Value.int IntKind.u8 61]) (maskD [55, 250, 33, 61] 0 { data := #[72, 101, 108, 108, 111] }))] [Value.string (cat (bytesOf [Value.int IntKind.u8 129, Value.int IntKind.u8 133, Value.int IntKind.u8 55, Value.int IntKind.u8 250, Value.int IntKind.u8 33, Value.int IntKind.u8 61]) (maskD [55, 250, 33, 61] 0 { data := #[72, 101, 108, 108, 111] }))]) (and (eqH [] []) (and (pdec (freadc_pre (cat (bytesOf [Value.int IntKind.u8 129, Value.int IntKind.u8 133, Value.int IntKind.u8 55, Value.int IntKind.u8 250, Value.int IntKind.u8 33, Value.int IntKind.u8 61]) (maskD [55, 250, 33, 61] 0 { data := #[72, 101, 108, 108, 111] })))) (and (eqA [Value.agg #[Value.bool true, Value.int IntKind.i64 0, Value.int IntKind.i64 1, Value.bool true, Value.int IntKind.u8 55, Value.int IntKind.u8 250, Value.int IntKind.u8 33, Value.int IntKind.u8 61, Value.string { data := #[72, 101, 108, 108, 111] }]] [Value.agg #[Value.bool true, Value.int IntKind.i64 0, Value.int IntKind.i64 1, Value.bool true, Value.int IntKind.u8 55, Value.int IntKind.u8 250, Value.int IntKind.u8 33, Value.int IntKind.u8 61, Value.string { data := #[72, 101, 108, 108, 111] }]]) (and (eqH [] []) (and (pdec (fbytesc_pre true 0 1 true 55 250 33 61 { data := #[72, 101, 108, 108, 111] })) (and (eqA [Value.agg #[Value.bool true, Value.int IntKind.i64 0, Value.int IntKind.i64 1, Value.bool false, Value.int IntKind.u8 0, Value.int IntKind.u8 0, Value.int IntKind.u8 0, Value.int IntKind.u8 0, Value.string { data := #[72, 101, 108, 108, 111] }]] [Value.agg #[Value.bool true, Value.int IntKind.i64 0, Value.int IntKind.i64 1, Value.bool false, Value.int IntKind.u8 0, Value.int IntKind.u8 0, Value.int IntKind.u8 0, Value.int IntKind.u8 0, Value.string { data := #[72, 101, 108, 108, 111] }]]) (and (eqH [] []) (and (pdec (fbytesc_pre true 0 1 false 0 0 0 0 { data := #[72, 101, 108, 108, 111] })) (true)))))))))))), Value.bool true, []) := by kernel_rfl
def awake_t0 : awake_R :=
  ()
def awake_S0 : Prop :=
  (mask_pre 1 0 0 0 0 { data := #[97] }) ∧ (freadc_pre (cat (bytesOf [Value.int IntKind.u8 129, Value.int IntKind.u8 133, Value.int IntKind.u8 55, Value.int IntKind.u8 250, Value.int IntKind.u8 33, Value.int IntKind.u8 61]) (maskD [55, 250, 33, 61] 0 { data := #[72, 101, 108, 108, 111] }))) ∧ (fbytesc_pre true 0 1 true 55 250 33 61 { data := #[72, 101, 108, 108, 111] }) ∧ (fbytesc_pre true 0 1 false 0 0 0 0 { data := #[72, 101, 108, 108, 111] })
theorem awake_ok0 (hS : awake_S0) : awake_Q (startC E 11 ([]) ([])) (awake_t0) := by
  unfold awake_S0 at hS
  unfold awake_t0
  exact ends_ofB KH_ok (awake_p0_0) (andI (eqA_self _) (andI (eqH_self _) (andI (pdec_iff.2 hS.1) (andI (eqA_self _) (andI (eqH_self _) (andI (pdec_iff.2 hS.2.1) (andI (eqA_self _) (andI (eqH_self _) (andI (pdec_iff.2 hS.2.2.1) (andI (eqA_self _) (andI (eqH_self _) (andI (pdec_iff.2 hS.2.2.2) (rfl))))))))))))) (by kernel_rfl) (Nat.le_of_ble_eq_true (by kernel_rfl)) (fun i hi => absurd hi (Nat.not_lt_zero _)) (fun i hi => absurd hi (Nat.not_lt_zero _))
theorem awake_call (hS : awake_S0) : CallOk E 11 ([]) ([]) (awake_V (awake_t0)) (awake_H (awake_t0)) := callOk_of_ends (awake_ok0 hS) (by kernel_rfl) (Nat.le_of_ble_eq_true (by kernel_rfl))
def awake_ex (a : List Value) (h : Heap) : Unit := ()
noncomputable def awake_k : Ct := kP awake_ex (fun x => []) (fun x => []) (fun x => awake_S0 ) (fun x => awake_V  (awake_t0 )) (fun x => awake_H  (awake_t0 ))
theorem awake_k_ok : KFor E 11 awake_k := kP_ok (fun x hx => awake_call  hx)


end Go.Proofs.Ytkpkompmfijgkaa
