/-
  Acts on rings; what is called, as contracts.
-/
import Derived.Test.YtabloimmlmgcbaaRingUc
import Derived.Test.YtabloimmlmgcbaaRingUd
set_option linter.unusedVariables false
set_option linter.unusedSimpArgs false
open Go Go.Am
namespace Go.Proofs.Ytabloimmlmgcbaa

/-- do, n, s -/
abbrev AcR : Type := Int × Int × ByteArray
def arC (a : AcR) : List Value := [.int .i64 a.1, .int .i64 a.2.1, .string a.2.2]
def arQ (l : List AcR) : List Value := (l.map arC).flatten
theorem arQ_len : ∀ l : List AcR, (arQ l).length = l.length * 3
  | [] => rfl
  | a :: l => by
    show (arC a ++ arQ l).length = _
    rw [List.length_append, arQ_len l]
    show 3 + l.length * 3 = (l.length + 1) * 3
    omega
theorem arQ_at : ∀ (l : List AcR) (i : Nat) (a : AcR) (j : Nat), l[i]? = some a → j < 3 → (arQ l).getD (i * 3 + j) undef = (arC a).getD j undef
  | [], i, a, j, h, _ => by simp at h
  | x :: l, 0, a, j, h, hj => by
    simp at h
    subst h
    show (arC x ++ arQ l).getD (0 * 3 + j) undef = _
    rw [show 0 * 3 + j = j by omega, List.getD_eq_getElem?_getD, List.getElem?_append_left (by show j < 3; exact hj), ← List.getD_eq_getElem?_getD]
  | x :: l, i + 1, a, j, h, hj => by
    show (arC x ++ arQ l).getD ((i + 1) * 3 + j) undef = _
    have h2 : (arC x).length = 3 := rfl
    rw [List.getD_eq_getElem?_getD, List.getElem?_append_right (by rw [h2]; omega), h2, show (i + 1) * 3 + j - 3 = i * 3 + j by omega, ← List.getD_eq_getElem?_getD]
    exact arQ_at l i a j (by simpa using h) hj
noncomputable def arD : List Value → List ByteArray
  | _ :: _ :: c :: r => toStr c :: arD r
  | _ => []
theorem arD_arQ : ∀ l : List AcR, arD (arQ l) = l.map (·.2.2)
  | [] => rfl
  | a :: l => by
    show arD (.int .i64 a.1 :: .int .i64 a.2.1 :: .string a.2.2 :: arQ l) = _
    rw [arD, arD_arQ l]
    rfl
noncomputable def sumG : Int → List ByteArray → Int
  | n, [] => n
  | n, t :: r => sumG (n + bif decide (20001 < (slen t : Int)) then 20001 else (slen t : Int)) r
noncomputable def greatB (n : Nat) (A : List Value) : Bool := if 400 < (n : Int) then true else decide (20000 < sumG 0 (arD A))
theorem great_run (l : List AcR) : ∀ (k i : Nat) (s : Int), i + k = l.length → i ≤ 401 → (0 ≤ s ∧ s ≤ 20001 * i) → AEnds E 23 0 (great_h1 l.length (arQ l) s i) (.bool (if 400 < (l.length : Int) then true else decide (20000 < sumG s ((l.drop i).map (·.2.2))))) []
  | 0, i, s, hi, _, hs => by
    have d1 : decide ((i : Int) < (l.length : Int)) = false := decide_eq_false (by omega)
    rw [List.drop_eq_nil_of_le (by omega)]
    by_cases c : 400 < (l.length : Int)
    · rw [if_pos c]
      exact great_w1_3 l.length (arQ l) s i (decide_eq_true c) d1
    · rw [if_neg c]
      exact great_w1_4 l.length (arQ l) s i (decide_eq_false c) d1
  | k + 1, i, s, hi, h4, hs => by
    have d1 : decide ((i : Int) < (l.length : Int)) = true := decide_eq_true (by omega)
    by_cases c4 : (i : Int) ≤ 400
    · have hlt : i < l.length := by omega
      obtain ⟨a, ha⟩ : ∃ a, l[i]? = some a := ⟨_, List.getElem?_eq_getElem hlt⟩
      have e : l.drop i = a :: l.drop (i + 1) := by
        rw [List.drop_eq_getElem_cons hlt]
        rw [List.getElem?_eq_getElem hlt] at ha
        cases ha; rfl
      have g : (arQ l).getD (i * 3 + 2) undef = .string a.2.2 := arQ_at l i a 2 ha (by omega)
      have hlen := arQ_len l
      have w := great_w1_0 l.length (arQ l) s i
      simp only [Int.toNat_natCast, g, toStr, isStr] at w
      have hb : 0 ≤ (bif decide (20001 < (slen a.2.2 : Int)) then 20001 else (slen a.2.2 : Int)) ∧ (bif decide (20001 < (slen a.2.2 : Int)) then 20001 else (slen a.2.2 : Int)) ≤ 20001 := by
        by_cases c : 20001 < (slen a.2.2 : Int)
        · rw [decide_eq_true c, cond_true]; omega
        · rw [decide_eq_false c, cond_false]; omega
      rw [wrap64_in (x := s + _) (by omega) (by omega), wrap64_in (x := (i : Int) + 1) (by omega) (by omega)] at w
      rw [e, List.map_cons, sumG]
      exact (w (by omega) trivial (by omega) (by omega) (by omega) (decide_eq_true c4) d1).ends (great_run l k (i + 1) _ (by omega) (by omega) ⟨by omega, by omega⟩)
    · rw [if_pos (by omega)]
      exact great_w1_1 l.length (arQ l) s i (decide_eq_true (by omega)) (decide_eq_false c4) d1
def great_pre (n : Nat) (A : List Value) : Prop := ∃ l : List AcR, n = l.length ∧ A = arQ l
noncomputable def great_v (n : Nat) (A : List Value) : Value := .bool (greatB n A)
noncomputable def great_h (n : Nat) (A : List Value) : Heap := []
theorem great_call (n : Nat) (A : List Value) (h : great_pre n A) : CallOk E 23 [.iface n (.agg A.toArray)] [] (great_v n A) (great_h n A) := by
  obtain ⟨l, rfl, rfl⟩ := h
  refine callOk_of_ends ?_ (by kernel_rfl) (Nat.le_of_ble_eq_true (by kernel_rfl))
  have w := (great_w0_0 l.length (arQ l)).ends (great_run l l.length 0 0 (Nat.zero_add _) (by omega) ⟨by omega, by omega⟩)
  unfold great_v greatB great_h
  rw [arD_arQ]
  exact w

def great_ex (a : List Value) (h : Heap) : Nat × List Value := ((sliceLen (a.getD 0 undef)), (aggOf (a.getD 0 undef)))
noncomputable def great_k : Ct := kS great_ex [.row] [] (fun x => great_pre (x.1) (x.2)) (fun x => great_v (x.1) (x.2)) (fun x => great_h (x.1) (x.2))
theorem great_k_ok : KFor E 23 great_k := kS_ok (fun x hx => great_call (x.1) (x.2) hx) (fun _ _ => rfl) (fun _ _ => rfl)


noncomputable def KP : Ctr := ctrOf E [(8, anyA, awake_k), (23, anyA, great_k), (26, ptrA, slen_k), (27, ptrA, sat_k), (35, ptrA, spushc_k), (36, ptrA, spop_k), (37, ptrA, sset_k), (38, ptrA, sclear_k)]
theorem KP_ok : KOk E KP := ctr_cons awake_k_ok (ctr_cons great_k_ok (ctr_cons slen_k_ok (ctr_cons sat_k_ok (ctr_cons spushc_k_ok (ctr_cons spop_k_ok (ctr_cons sset_k_ok (ctr_cons sclear_k_ok ctr_nil)))))))

end Go.Proofs.Ytabloimmlmgcbaa
