/-
  The program's sum of a text: the contract; the chapter's first sum.
-/
import Derived.Test.YtncldppnmkbklaaShaO
import Derived.Test.YtncldppnmkbklaaAmSlim
set_option linter.unusedVariables false
set_option linter.unusedSimpArgs false
open Go Go.Am
namespace Go.Proofs.Ytncldppnmkbklaa
noncomputable section

/-- The words of a text's sum. -/
def sumP (s : ByteArray) : S5 := (z3 true (wF false (0, 0, 0, 0, 0) { data := #[] } s).1 (wF false (0, 0, 0, 0, 0) { data := #[] } s).2 (IntKind.i64.wrap (0 + slen s))).1
theorem pO_ex : ∃ f : ByteArray → Nat → Int, ∀ s k, f s k = (outI (sumP s)).getD k 0 := ⟨_, fun _ _ => rfl⟩
def pO : ByteArray → Nat → Int := Classical.choose pO_ex
theorem pO_eq (s : ByteArray) (k : Nat) : pO s k = (outI (sumP s)).getD k 0 := Classical.choose_spec pO_ex s k

def psumc_pre (s : ByteArray) : Prop := slen s ≤ 9223372036854775807
def psumc_v (s : ByteArray) : Value := .agg ((List.range 20).map fun k => Value.int .u8 (pO s k)).toArray
def psumc_h (s : ByteArray) : Heap := []
theorem psumc_call (s : ByteArray) (h : psumc_pre s) : CallOk E 5 [.string s] [] (psumc_v s) (psumc_h s) := by
  unfold psumc_pre at h
  have k := psum_call s ⟨wF_small _ _ _ _, by unfold writec_pre; rw [show slen { data := #[] } = 0 from rfl]; omega⟩
  have hv : psumc_v s = psum_V s (psum_t0 s) := by
    unfold psumc_v psum_V
    simp only [pO_eq, hsO_eq]
    rfl
  rw [hv]
  exact k

def psumc_ex (a : List Value) (h : Heap) : ByteArray := (toStr (a.getD 0 undef))
noncomputable def psumc_k : Ct := kS psumc_ex [.str] [] (fun x => psumc_pre x) (fun x => psumc_v x) (fun x => psumc_h x)
theorem psumc_k_ok : KFor E 5 psumc_k := kS_ok (fun x hx => psumc_call x hx) (fun _ _ => rfl) (fun _ _ => rfl)


noncomputable def KP : Ctr := ctrOf E [(5, anyA, psumc_k)]
theorem KP_ok : KOk E KP := ctr_cons psumc_k_ok ctr_nil

abbrev awake_R : Type := Unit
def awake_V (r : Unit) : Value := Value.bool ([UInt8.ofNat (pO { data := #[97, 98, 99] } 0).toNat, UInt8.ofNat (pO { data := #[97, 98, 99] } 1).toNat, UInt8.ofNat (pO { data := #[97, 98, 99] } 2).toNat, UInt8.ofNat (pO { data := #[97, 98, 99] } 3).toNat, UInt8.ofNat (pO { data := #[97, 98, 99] } 4).toNat, UInt8.ofNat (pO { data := #[97, 98, 99] } 5).toNat, UInt8.ofNat (pO { data := #[97, 98, 99] } 6).toNat, UInt8.ofNat (pO { data := #[97, 98, 99] } 7).toNat, UInt8.ofNat (pO { data := #[97, 98, 99] } 8).toNat, UInt8.ofNat (pO { data := #[97, 98, 99] } 9).toNat, UInt8.ofNat (pO { data := #[97, 98, 99] } 10).toNat, UInt8.ofNat (pO { data := #[97, 98, 99] } 11).toNat, UInt8.ofNat (pO { data := #[97, 98, 99] } 12).toNat, UInt8.ofNat (pO { data := #[97, 98, 99] } 13).toNat, UInt8.ofNat (pO { data := #[97, 98, 99] } 14).toNat, UInt8.ofNat (pO { data := #[97, 98, 99] } 15).toNat, UInt8.ofNat (pO { data := #[97, 98, 99] } 16).toNat, UInt8.ofNat (pO { data := #[97, 98, 99] } 17).toNat, UInt8.ofNat (pO { data := #[97, 98, 99] } 18).toNat, UInt8.ofNat (pO { data := #[97, 98, 99] } 19).toNat] == [169, 153, 62, 54, 71, 6, 129, 106, 186, 62, 37, 113, 120, 80, 194, 108, 156, 208, 216, 157])
def awake_H (r : Unit) : Heap := []
noncomputable def awake_Q (C : Cfg) (r : awake_R) : Prop :=
  let p := r
  AEnds E 6 0 C (awake_V p) (awake_H p)
theorem awake_p0_0 : goFinB E KP 2000 17 (some []) [] [0] [] (startC E 6 ([]) ([])) = some (and (pdec (psumc_pre { data := #[97, 98, 99] })) (true), Value.bool ([UInt8.ofNat (pO { data := #[97, 98, 99] } 0).toNat, UInt8.ofNat (pO { data := #[97, 98, 99] } 1).toNat, UInt8.ofNat (pO { data := #[97, 98, 99] } 2).toNat, UInt8.ofNat (pO { data := #[97, 98, 99] } 3).toNat, UInt8.ofNat (pO { data := #[97, 98, 99] } 4).toNat, UInt8.ofNat (pO { data := #[97, 98, 99] } 5).toNat, UInt8.ofNat (pO { data := #[97, 98, 99] } 6).toNat, UInt8.ofNat (pO { data := #[97, 98, 99] } 7).toNat, UInt8.ofNat (pO { data := #[97, 98, 99] } 8).toNat, UInt8.ofNat (pO { data := #[97, 98, 99] } 9).toNat, UInt8.ofNat (pO { data := #[97, 98, 99] } 10).toNat, UInt8.ofNat (pO { data := #[97, 98, 99] } 11).toNat, UInt8.ofNat (pO { data := #[97, 98, 99] } 12).toNat, UInt8.ofNat (pO { data := #[97, 98, 99] } 13).toNat, UInt8.ofNat (pO { data := #[97, 98, 99] } 14).toNat, UInt8.ofNat (pO { data := #[97, 98, 99] } 15).toNat, UInt8.ofNat (pO { data := #[97, 98, 99] } 16).toNat, UInt8.ofNat (pO { data := #[97, 98, 99] } 17).toNat, UInt8.ofNat (pO { data := #[97, 98, 99] } 18).toNat, UInt8.ofNat (pO { data := #[97, 98, 99] } 19).toNat] == [169, 153, 62, 54, 71, 6, 129, 106, 186, 62, 37, 113, 120, 80, 194, 108, 156, 208, 216, 157]), []) := by kernel_rfl
noncomputable def awake_t0 : awake_R :=
  ()
def awake_S0 : Prop :=
  psumc_pre { data := #[97, 98, 99] }
theorem awake_ok0 (hS : awake_S0) : awake_Q (startC E 6 ([]) ([])) (awake_t0) := by
  unfold awake_S0 at hS
  unfold awake_t0
  exact ends_ofB KP_ok (awake_p0_0) (andI (pdec_iff.2 hS) (rfl)) (by kernel_rfl) (Nat.le_of_ble_eq_true (by kernel_rfl)) (fun i hi => absurd hi (Nat.not_lt_zero _)) (fun i hi => absurd hi (Nat.not_lt_zero _))
theorem awake_call (hS : awake_S0) : CallOk E 6 ([]) ([]) (awake_V (awake_t0)) (awake_H (awake_t0)) := callOk_of_ends (awake_ok0 hS) (by kernel_rfl) (Nat.le_of_ble_eq_true (by kernel_rfl))
def awake_ex (a : List Value) (h : Heap) : Unit := ()
noncomputable def awake_k : Ct := kS awake_ex [] [] (fun x => awake_S0 ) (fun x => awake_V  (awake_t0 )) (fun x => awake_H  (awake_t0 ))
theorem awake_k_ok : KFor E 6 awake_k := kS_ok (fun x hx => awake_call  hx) (fun _ _ => rfl) (fun _ _ => rfl)


end
end Go.Proofs.Ytncldppnmkbklaa
