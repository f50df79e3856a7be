/-
  A text's sum: the law's ways.
-/
import Derived.Test.YtncldppnmkbklaaShaV
import Derived.Test.YtncldppnmkbklaaAmSlim
set_option linter.unusedVariables false
set_option linter.unusedSimpArgs false
open Go Go.Am
namespace Go.Proofs.Ytncldppnmkbklaa

def rsumc_pre (s : ByteArray) : Prop := slen s ≤ 20000
noncomputable def rsumc_v (s : ByteArray) : Value := .agg ((List.range 20).map fun k => Value.int .u8 (pO s k)).toArray
def rsumc_h (s : ByteArray) : Heap := []
theorem rsumc_call (s : ByteArray) (h : rsumc_pre s) : CallOk E 7 [.string s] [] (rsumc_v s) (rsumc_h s) := by
  have e : rsumc_v s = .agg ((outI (sumP s)).map fun x => Value.int .u8 x).toArray := by
    unfold rsumc_v
    simp only [pO_eq]
    rfl
  rw [e]
  have k : CallOk E2 7 [.string s] [] (.agg ((outI (sumP s)).map fun x => Value.int .u8 x).toArray) [] := callOk_of_ends (rsum_all s h) (by kernel_rfl) (Nat.le_of_ble_eq_true (by kernel_rfl))
  exact k

def rsumc_ex (a : List Value) (h : Heap) : ByteArray := (toStr (a.getD 0 undef))
noncomputable def rsumc_k : Ct := kS rsumc_ex [.str] [] (fun x => rsumc_pre x) (fun x => rsumc_v x) (fun x => rsumc_h x)
theorem rsumc_k_ok : KFor E 7 rsumc_k := kS_ok (fun x hx => rsumc_call x hx) (fun _ _ => rfl) (fun _ _ => rfl)


noncomputable def KW : Ctr := ctrOf E [(5, anyA, psumc_k), (6, anyA, awake_k), (7, anyA, rsumc_k)]
theorem KW_ok : KOk E KW := ctr_cons psumc_k_ok (ctr_cons awake_k_ok (ctr_cons rsumc_k_ok ctr_nil))

theorem sums_p0_0 (s : ByteArray) : goFinB E KW 2000 24 (some [false, true]) [] [2] [] (startC E 4 ([Value.string s]) ([])) = some (and ((decide (20000 < (↑(slen s) : Int))) == true) (and ((![UInt8.ofNat (pO { data := #[97, 98, 99] } 0).toNat, UInt8.ofNat (pO { data := #[97, 98, 99] } 1).toNat, UInt8.ofNat (pO { data := #[97, 98, 99] } 2).toNat, UInt8.ofNat (pO { data := #[97, 98, 99] } 3).toNat, UInt8.ofNat (pO { data := #[97, 98, 99] } 4).toNat, UInt8.ofNat (pO { data := #[97, 98, 99] } 5).toNat, UInt8.ofNat (pO { data := #[97, 98, 99] } 6).toNat, UInt8.ofNat (pO { data := #[97, 98, 99] } 7).toNat, UInt8.ofNat (pO { data := #[97, 98, 99] } 8).toNat, UInt8.ofNat (pO { data := #[97, 98, 99] } 9).toNat, UInt8.ofNat (pO { data := #[97, 98, 99] } 10).toNat, UInt8.ofNat (pO { data := #[97, 98, 99] } 11).toNat, UInt8.ofNat (pO { data := #[97, 98, 99] } 12).toNat, UInt8.ofNat (pO { data := #[97, 98, 99] } 13).toNat, UInt8.ofNat (pO { data := #[97, 98, 99] } 14).toNat, UInt8.ofNat (pO { data := #[97, 98, 99] } 15).toNat, UInt8.ofNat (pO { data := #[97, 98, 99] } 16).toNat, UInt8.ofNat (pO { data := #[97, 98, 99] } 17).toNat, UInt8.ofNat (pO { data := #[97, 98, 99] } 18).toNat, UInt8.ofNat (pO { data := #[97, 98, 99] } 19).toNat] == [169, 153, 62, 54, 71, 6, 129, 106, 186, 62, 37, 113, 120, 80, 194, 108, 156, 208, 216, 157]) == false) (and (pdec awake_S0) (true))), Value.bool true, []) := by kernel_rfl
theorem sums_w0_0 (s : ByteArray) (h0 : (decide (20000 < (↑(slen s) : Int))) = true) (h1 : (![UInt8.ofNat (pO { data := #[97, 98, 99] } 0).toNat, UInt8.ofNat (pO { data := #[97, 98, 99] } 1).toNat, UInt8.ofNat (pO { data := #[97, 98, 99] } 2).toNat, UInt8.ofNat (pO { data := #[97, 98, 99] } 3).toNat, UInt8.ofNat (pO { data := #[97, 98, 99] } 4).toNat, UInt8.ofNat (pO { data := #[97, 98, 99] } 5).toNat, UInt8.ofNat (pO { data := #[97, 98, 99] } 6).toNat, UInt8.ofNat (pO { data := #[97, 98, 99] } 7).toNat, UInt8.ofNat (pO { data := #[97, 98, 99] } 8).toNat, UInt8.ofNat (pO { data := #[97, 98, 99] } 9).toNat, UInt8.ofNat (pO { data := #[97, 98, 99] } 10).toNat, UInt8.ofNat (pO { data := #[97, 98, 99] } 11).toNat, UInt8.ofNat (pO { data := #[97, 98, 99] } 12).toNat, UInt8.ofNat (pO { data := #[97, 98, 99] } 13).toNat, UInt8.ofNat (pO { data := #[97, 98, 99] } 14).toNat, UInt8.ofNat (pO { data := #[97, 98, 99] } 15).toNat, UInt8.ofNat (pO { data := #[97, 98, 99] } 16).toNat, UInt8.ofNat (pO { data := #[97, 98, 99] } 17).toNat, UInt8.ofNat (pO { data := #[97, 98, 99] } 18).toNat, UInt8.ofNat (pO { data := #[97, 98, 99] } 19).toNat] == [169, 153, 62, 54, 71, 6, 129, 106, 186, 62, 37, 113, 120, 80, 194, 108, 156, 208, 216, 157]) = false) (h2 : awake_S0) : AEnds E 4 0 (startC E 4 ([Value.string s]) ([])) (Value.bool true) ([]) := by
  exact ends_ofB KW_ok (sums_p0_0 s) (andI (dT h0) (andI (dF h1) (andI (pdec_iff.2 h2) (rfl)))) (by kernel_rfl) (Nat.le_of_ble_eq_true (by kernel_rfl)) (fun i hi => absurd hi (Nat.not_lt_zero _)) (fun i hi => absurd hi (Nat.not_lt_zero _))
theorem sums_p0_1 (s : ByteArray) : goFinB E KW 2000 30 (some [false, false]) [] [2] [] (startC E 4 ([Value.string s]) ([])) = some (and (pdec (rsumc_pre s)) (and (pdec (psumc_pre s)) (and ((decide (20000 < (↑(slen s) : Int))) == false) (and ((![UInt8.ofNat (pO { data := #[97, 98, 99] } 0).toNat, UInt8.ofNat (pO { data := #[97, 98, 99] } 1).toNat, UInt8.ofNat (pO { data := #[97, 98, 99] } 2).toNat, UInt8.ofNat (pO { data := #[97, 98, 99] } 3).toNat, UInt8.ofNat (pO { data := #[97, 98, 99] } 4).toNat, UInt8.ofNat (pO { data := #[97, 98, 99] } 5).toNat, UInt8.ofNat (pO { data := #[97, 98, 99] } 6).toNat, UInt8.ofNat (pO { data := #[97, 98, 99] } 7).toNat, UInt8.ofNat (pO { data := #[97, 98, 99] } 8).toNat, UInt8.ofNat (pO { data := #[97, 98, 99] } 9).toNat, UInt8.ofNat (pO { data := #[97, 98, 99] } 10).toNat, UInt8.ofNat (pO { data := #[97, 98, 99] } 11).toNat, UInt8.ofNat (pO { data := #[97, 98, 99] } 12).toNat, UInt8.ofNat (pO { data := #[97, 98, 99] } 13).toNat, UInt8.ofNat (pO { data := #[97, 98, 99] } 14).toNat, UInt8.ofNat (pO { data := #[97, 98, 99] } 15).toNat, UInt8.ofNat (pO { data := #[97, 98, 99] } 16).toNat, UInt8.ofNat (pO { data := #[97, 98, 99] } 17).toNat, UInt8.ofNat (pO { data := #[97, 98, 99] } 18).toNat, UInt8.ofNat (pO { data := #[97, 98, 99] } 19).toNat] == [169, 153, 62, 54, 71, 6, 129, 106, 186, 62, 37, 113, 120, 80, 194, 108, 156, 208, 216, 157]) == false) (and (pdec awake_S0) (true))))), Value.bool (pO s 0 == pO s 0 && (pO s 1 == pO s 1 && (pO s 2 == pO s 2 && (pO s 3 == pO s 3 && (pO s 4 == pO s 4 && (pO s 5 == pO s 5 && (pO s 6 == pO s 6 && (pO s 7 == pO s 7 && (pO s 8 == pO s 8 && (pO s 9 == pO s 9 && (pO s 10 == pO s 10 && (pO s 11 == pO s 11 && (pO s 12 == pO s 12 && (pO s 13 == pO s 13 && (pO s 14 == pO s 14 && (pO s 15 == pO s 15 && (pO s 16 == pO s 16 && (pO s 17 == pO s 17 && (pO s 18 == pO s 18 && (pO s 19 == pO s 19 && true)))))))))))))))))))), []) := by kernel_rfl
theorem sums_w0_1 (s : ByteArray) (h0 : rsumc_pre s) (h1 : psumc_pre s) (h2 : (decide (20000 < (↑(slen s) : Int))) = false) (h3 : (![UInt8.ofNat (pO { data := #[97, 98, 99] } 0).toNat, UInt8.ofNat (pO { data := #[97, 98, 99] } 1).toNat, UInt8.ofNat (pO { data := #[97, 98, 99] } 2).toNat, UInt8.ofNat (pO { data := #[97, 98, 99] } 3).toNat, UInt8.ofNat (pO { data := #[97, 98, 99] } 4).toNat, UInt8.ofNat (pO { data := #[97, 98, 99] } 5).toNat, UInt8.ofNat (pO { data := #[97, 98, 99] } 6).toNat, UInt8.ofNat (pO { data := #[97, 98, 99] } 7).toNat, UInt8.ofNat (pO { data := #[97, 98, 99] } 8).toNat, UInt8.ofNat (pO { data := #[97, 98, 99] } 9).toNat, UInt8.ofNat (pO { data := #[97, 98, 99] } 10).toNat, UInt8.ofNat (pO { data := #[97, 98, 99] } 11).toNat, UInt8.ofNat (pO { data := #[97, 98, 99] } 12).toNat, UInt8.ofNat (pO { data := #[97, 98, 99] } 13).toNat, UInt8.ofNat (pO { data := #[97, 98, 99] } 14).toNat, UInt8.ofNat (pO { data := #[97, 98, 99] } 15).toNat, UInt8.ofNat (pO { data := #[97, 98, 99] } 16).toNat, UInt8.ofNat (pO { data := #[97, 98, 99] } 17).toNat, UInt8.ofNat (pO { data := #[97, 98, 99] } 18).toNat, UInt8.ofNat (pO { data := #[97, 98, 99] } 19).toNat] == [169, 153, 62, 54, 71, 6, 129, 106, 186, 62, 37, 113, 120, 80, 194, 108, 156, 208, 216, 157]) = false) (h4 : awake_S0) : AEnds E 4 0 (startC E 4 ([Value.string s]) ([])) (Value.bool (pO s 0 == pO s 0 && (pO s 1 == pO s 1 && (pO s 2 == pO s 2 && (pO s 3 == pO s 3 && (pO s 4 == pO s 4 && (pO s 5 == pO s 5 && (pO s 6 == pO s 6 && (pO s 7 == pO s 7 && (pO s 8 == pO s 8 && (pO s 9 == pO s 9 && (pO s 10 == pO s 10 && (pO s 11 == pO s 11 && (pO s 12 == pO s 12 && (pO s 13 == pO s 13 && (pO s 14 == pO s 14 && (pO s 15 == pO s 15 && (pO s 16 == pO s 16 && (pO s 17 == pO s 17 && (pO s 18 == pO s 18 && (pO s 19 == pO s 19 && true))))))))))))))))))))) ([]) := by
  exact ends_ofB KW_ok (sums_p0_1 s) (andI (pdec_iff.2 h0) (andI (pdec_iff.2 h1) (andI (dF h2) (andI (dF h3) (andI (pdec_iff.2 h4) (rfl)))))) (by kernel_rfl) (Nat.le_of_ble_eq_true (by kernel_rfl)) (fun i hi => absurd hi (Nat.not_lt_zero _)) (fun i hi => absurd hi (Nat.not_lt_zero _))


theorem sums_all (s : ByteArray) : AEnds E 4 0 (startC E 4 [.string s] []) (.bool true) [] := by
  by_cases h : (20000 : Int) < (slen s : Int)
  · have w := sums_w0_0 s (decide_eq_true h)
    simp only [pO_eq, sumP_C, abc] at w
    exact w (by decide +kernel) awake_safe
  · have w := sums_w0_1 s (by unfold rsumc_pre; omega) (by unfold psumc_pre; omega) (decide_eq_false h)
    have w := w (by simp only [pO_eq, sumP_C, abc]; decide +kernel) awake_safe
    simp only [beq_self_eq_true, Bool.and_self] at w
    exact w

end Go.Proofs.Ytncldppnmkbklaa
