/-
  The statement FrameReads hands back true at every text; as a contract.
-/
import Derived.Test.YtkpkompmfijgkaaFrameI
import Derived.Test.YtkpkompmfijgkaaAmAgg
set_option linter.unusedVariables false
set_option linter.unusedSimpArgs false
open Go Go.Am
namespace Go.Proofs.Ytkpkompmfijgkaa

theorem slen_cat (a b : ByteArray) : slen (cat a b) = slen a + slen b := by simp [slen, cat, toL, ofL]
theorem awake_safe : awake_S0 := by
  unfold awake_S0 mask_pre freadc_pre fbytesc_pre
  refine ⟨⟨by decide, by decide⟩, by decide, by decide, by decide⟩
theorem reads_all (s : ByteArray) : AEnds E 4 0 (startC E 4 [.string s] []) (.bool true) [] := by
  have ha := awake_safe
  by_cases c1 : 70000 < (slen s : Int)
  · have h := reads_ok0 s (by unfold reads_S0; rw [decide_eq_true c1]; simp [ha])
    unfold reads_t0 at h
    rw [decide_eq_true c1] at h
    exact h
  · have p1 : headc_pre s := trivial
    have p2 : rheadc_pre s := trivial
    have p3 : freadc_pre s := by unfold freadc_pre; omega
    have p4 : rfreadc_pre s := by unfold rfreadc_pre; omega
    have hS : reads_S0 s := by
      unfold reads_S0
      simp only [p1, p2, p3, p4, ha, and_self, implies_true]
    have h := reads_ok0 s hS
    have ht : reads_t0 s = true := by
      unfold reads_t0 headT rheadT
      rw [decide_eq_false c1]
      generalize readT s = r
      cases hOk s <;> simp
    rw [ht] at h
    exact h
def readsc_pre (s : ByteArray) : Prop := True
def readsc_v (s : ByteArray) : Value := .bool true
def readsc_h (s : ByteArray) : Heap := []
theorem readsc_call (s : ByteArray) (h : readsc_pre s) : CallOk E 4 [.string s] [] (readsc_v s) (readsc_h s) :=
  callOk_of_ends (reads_all s) (by kernel_rfl) (Nat.le_of_ble_eq_true (by kernel_rfl))

def readsc_ex (a : List Value) (h : Heap) : ByteArray := (toStr (a.getD 0 undef))
noncomputable def readsc_k : Ct := kP readsc_ex (fun x => [Value.string x]) (fun x => []) (fun x => readsc_pre x) (fun x => readsc_v x) (fun x => readsc_h x)
theorem readsc_k_ok : KFor E 4 readsc_k := kP_ok (fun x hx => readsc_call x hx)


noncomputable def KK : Ctr := ctrOf E [(11, anyA, awake_k), (4, anyA, readsc_k)]
theorem KK_ok : KOk E KK := ctr_cons awake_k_ok (ctr_cons readsc_k_ok ctr_nil)

abbrev heads_R : Type := Unit
def heads_V (a : Int) (b : Int) (s : ByteArray) (r : Unit) : Value := Value.bool true
def heads_H (a : Int) (b : Int) (s : ByteArray) (r : Unit) : Heap := []
noncomputable def heads_Q (a : Int) (b : Int) (s : ByteArray) (C : Cfg) (r : heads_R) : Prop :=
  let p := r
  AEnds E 5 0 C (heads_V a b s p) (heads_H a b s p)
theorem heads_p0_0 (a : Int) (b : Int) (s : ByteArray) : goFinB E KK 2000 24 (some [false, true]) [] [6] [] (startC E 5 ([Value.int IntKind.u8 a, Value.int IntKind.u8 b, Value.string s]) ([])) = some (and ((decide (300 < (↑(slen s) : Int))) == true) (and (eqA [] []) (and (eqH [] []) (and (pdec awake_S0) (true)))), Value.bool true, []) := by kernel_rfl
theorem heads_p0_1 (a : Int) (b : Int) (s : ByteArray) : goFinB E KK 2000 74 (some [false, false, true, true, true, true, true, true]) [] [6] [] (startC E 5 ([Value.int IntKind.u8 a, Value.int IntKind.u8 b, Value.string s]) ([])) = some (and (eqA [Value.string (cat (cat (bytesOf [Value.int IntKind.u8 a, Value.int IntKind.u8 b]) { data := #[128, 0, 0, 0, 0, 1, 0, 0] }) s)] [Value.string (cat (cat (bytesOf [Value.int IntKind.u8 a, Value.int IntKind.u8 b]) { data := #[128, 0, 0, 0, 0, 1, 0, 0] }) s)]) (and (eqH [] []) (and (pdec (readsc_pre (cat (cat (bytesOf [Value.int IntKind.u8 a, Value.int IntKind.u8 b]) { data := #[128, 0, 0, 0, 0, 1, 0, 0] }) s))) (and (decide (slen (cat (bytesOf [Value.int IntKind.u8 a, Value.int IntKind.u8 b]) { data := #[128, 0, 0, 0, 0, 1, 0, 0] }) + slen s ≤ 9223372036854775807)) (and (eqA [Value.string (cat (cat (bytesOf [Value.int IntKind.u8 a, Value.int IntKind.u8 b]) { data := #[0, 0, 0, 0, 0, 0, 255, 255] }) s)] [Value.string (cat (cat (bytesOf [Value.int IntKind.u8 a, Value.int IntKind.u8 b]) { data := #[0, 0, 0, 0, 0, 0, 255, 255] }) s)]) (and (eqH [] []) (and (pdec (readsc_pre (cat (cat (bytesOf [Value.int IntKind.u8 a, Value.int IntKind.u8 b]) { data := #[0, 0, 0, 0, 0, 0, 255, 255] }) s))) (and (decide (slen (cat (bytesOf [Value.int IntKind.u8 a, Value.int IntKind.u8 b]) { data := #[0, 0, 0, 0, 0, 0, 255, 255] }) + slen s ≤ 9223372036854775807)) (and (eqA [Value.string (cat (cat (bytesOf [Value.int IntKind.u8 a, Value.int IntKind.u8 b]) { data := #[0, 126] }) s)] [Value.string (cat (cat (bytesOf [Value.int IntKind.u8 a, Value.int IntKind.u8 b]) { data := #[0, 126] }) s)]) (and (eqH [] []) (and (pdec (readsc_pre (cat (cat (bytesOf [Value.int IntKind.u8 a, Value.int IntKind.u8 b]) { data := #[0, 126] }) s))) (and (decide (slen (cat (bytesOf [Value.int IntKind.u8 a, Value.int IntKind.u8 b]) { data := #[0, 126] }) + slen s ≤ 9223372036854775807)) (and (eqA [Value.string (cat (cat (bytesOf [Value.int IntKind.u8 a, Value.int IntKind.u8 b]) { data := #[0, 125] }) s)] [Value.string (cat (cat (bytesOf [Value.int IntKind.u8 a, Value.int IntKind.u8 b]) { data := #[0, 125] }) s)]) (and (eqH [] []) (and (pdec (readsc_pre (cat (cat (bytesOf [Value.int IntKind.u8 a, Value.int IntKind.u8 b]) { data := #[0, 125] }) s))) (and (decide (slen (cat (bytesOf [Value.int IntKind.u8 a, Value.int IntKind.u8 b]) { data := #[0, 125] }) + slen s ≤ 9223372036854775807)) (and (eqA [Value.string (sub (bytesOf [Value.int IntKind.u8 a, Value.int IntKind.u8 b]) 0 1)] [Value.string (sub (bytesOf [Value.int IntKind.u8 a, Value.int IntKind.u8 b]) 0 1)]) (and (eqH [] []) (and (pdec (readsc_pre (sub (bytesOf [Value.int IntKind.u8 a, Value.int IntKind.u8 b]) 0 1))) (and (eqA [Value.string (bytesOf [Value.int IntKind.u8 a, Value.int IntKind.u8 b])] [Value.string (bytesOf [Value.int IntKind.u8 a, Value.int IntKind.u8 b])]) (and (eqH [] []) (and (pdec (readsc_pre (bytesOf [Value.int IntKind.u8 a, Value.int IntKind.u8 b]))) (and (eqA [Value.string (cat (bytesOf [Value.int IntKind.u8 a, Value.int IntKind.u8 b]) s)] [Value.string (cat (bytesOf [Value.int IntKind.u8 a, Value.int IntKind.u8 b]) s)]) (and (eqH [] []) (and (pdec (readsc_pre (cat (bytesOf [Value.int IntKind.u8 a, Value.int IntKind.u8 b]) s))) (and (decide (slen (bytesOf [Value.int IntKind.u8 a, Value.int IntKind.u8 b]) + slen s ≤ 9223372036854775807)) (and ((decide (300 < (↑(slen s) : Int))) == false) (and (eqA [] []) (and (eqH [] []) (and (pdec awake_S0) (true)))))))))))))))))))))))))))))), Value.bool true, []) := by kernel_rfl
def heads_t0 (a : Int) (b : Int) (s : ByteArray) : heads_R :=
  bif decide (300 < (↑(slen s) : Int)) then ()
  else ()
def heads_S0 (a : Int) (b : Int) (s : ByteArray) : Prop :=
  ((decide (300 < (↑(slen s) : Int))) = true → awake_S0) ∧
  ((decide (300 < (↑(slen s) : Int))) = false → (readsc_pre (cat (cat (bytesOf [Value.int IntKind.u8 a, Value.int IntKind.u8 b]) { data := #[128, 0, 0, 0, 0, 1, 0, 0] }) s)) ∧ (slen (cat (bytesOf [Value.int IntKind.u8 a, Value.int IntKind.u8 b]) { data := #[128, 0, 0, 0, 0, 1, 0, 0] }) + slen s ≤ 9223372036854775807) ∧ (readsc_pre (cat (cat (bytesOf [Value.int IntKind.u8 a, Value.int IntKind.u8 b]) { data := #[0, 0, 0, 0, 0, 0, 255, 255] }) s)) ∧ (slen (cat (bytesOf [Value.int IntKind.u8 a, Value.int IntKind.u8 b]) { data := #[0, 0, 0, 0, 0, 0, 255, 255] }) + slen s ≤ 9223372036854775807) ∧ (readsc_pre (cat (cat (bytesOf [Value.int IntKind.u8 a, Value.int IntKind.u8 b]) { data := #[0, 126] }) s)) ∧ (slen (cat (bytesOf [Value.int IntKind.u8 a, Value.int IntKind.u8 b]) { data := #[0, 126] }) + slen s ≤ 9223372036854775807) ∧ (readsc_pre (cat (cat (bytesOf [Value.int IntKind.u8 a, Value.int IntKind.u8 b]) { data := #[0, 125] }) s)) ∧ (slen (cat (bytesOf [Value.int IntKind.u8 a, Value.int IntKind.u8 b]) { data := #[0, 125] }) + slen s ≤ 9223372036854775807) ∧ (readsc_pre (sub (bytesOf [Value.int IntKind.u8 a, Value.int IntKind.u8 b]) 0 1)) ∧ (readsc_pre (bytesOf [Value.int IntKind.u8 a, Value.int IntKind.u8 b])) ∧ (readsc_pre (cat (bytesOf [Value.int IntKind.u8 a, Value.int IntKind.u8 b]) s)) ∧ (slen (bytesOf [Value.int IntKind.u8 a, Value.int IntKind.u8 b]) + slen s ≤ 9223372036854775807) ∧ (awake_S0))
theorem heads_ok0 (a : Int) (b : Int) (s : ByteArray) (hS : heads_S0 a b s) : heads_Q a b s (startC E 5 ([Value.int IntKind.u8 a, Value.int IntKind.u8 b, Value.string s]) ([])) (heads_t0 a b s) := by
  unfold heads_S0 at hS
  unfold heads_t0
  refine cond_intro (P := heads_Q a b s (startC E 5 ([Value.int IntKind.u8 a, Value.int IntKind.u8 b, Value.string s]) ([]))) _ (fun h1 => ?_) (fun h1 => ?_)
  · skip
    exact ends_ofB KK_ok (heads_p0_0 a b s) (andI (dT h1) (andI (eqA_self _) (andI (eqH_self _) (andI (pdec_iff.2 (hS.1 h1)) (rfl))))) (by kernel_rfl) (Nat.le_of_ble_eq_true (by kernel_rfl)) (fun i hi => absurd hi (Nat.not_lt_zero _)) (fun i hi => absurd hi (Nat.not_lt_zero _))
  · skip
    exact ends_ofB KK_ok (heads_p0_1 a b s) (andI (eqA_self _) (andI (eqH_self _) (andI (pdec_iff.2 (hS.2 h1).1) (andI (decide_eq_true (hS.2 h1).2.1) (andI (eqA_self _) (andI (eqH_self _) (andI (pdec_iff.2 (hS.2 h1).2.2.1) (andI (decide_eq_true (hS.2 h1).2.2.2.1) (andI (eqA_self _) (andI (eqH_self _) (andI (pdec_iff.2 (hS.2 h1).2.2.2.2.1) (andI (decide_eq_true (hS.2 h1).2.2.2.2.2.1) (andI (eqA_self _) (andI (eqH_self _) (andI (pdec_iff.2 (hS.2 h1).2.2.2.2.2.2.1) (andI (decide_eq_true (hS.2 h1).2.2.2.2.2.2.2.1) (andI (eqA_self _) (andI (eqH_self _) (andI (pdec_iff.2 (hS.2 h1).2.2.2.2.2.2.2.2.1) (andI (eqA_self _) (andI (eqH_self _) (andI (pdec_iff.2 (hS.2 h1).2.2.2.2.2.2.2.2.2.1) (andI (eqA_self _) (andI (eqH_self _) (andI (pdec_iff.2 (hS.2 h1).2.2.2.2.2.2.2.2.2.2.1) (andI (decide_eq_true (hS.2 h1).2.2.2.2.2.2.2.2.2.2.2.1) (andI (dF h1) (andI (eqA_self _) (andI (eqH_self _) (andI (pdec_iff.2 (hS.2 h1).2.2.2.2.2.2.2.2.2.2.2.2) (rfl))))))))))))))))))))))))))))))) (by kernel_rfl) (Nat.le_of_ble_eq_true (by kernel_rfl)) (fun i hi => absurd hi (Nat.not_lt_zero _)) (fun i hi => absurd hi (Nat.not_lt_zero _))
theorem heads_call (a : Int) (b : Int) (s : ByteArray) (hS : heads_S0 a b s) : CallOk E 5 ([Value.int IntKind.u8 a, Value.int IntKind.u8 b, Value.string s]) ([]) (heads_V a b s (heads_t0 a b s)) (heads_H a b s (heads_t0 a b s)) := callOk_of_ends (heads_ok0 a b s hS) (by kernel_rfl) (Nat.le_of_ble_eq_true (by kernel_rfl))
def heads_ex (a : List Value) (h : Heap) : Int × Int × ByteArray := ((toInt (a.getD 0 undef)), (toInt (a.getD 1 undef)), (toStr (a.getD 2 undef)))
noncomputable def heads_k : Ct := kP heads_ex (fun x => [Value.int IntKind.u8 x.1, Value.int IntKind.u8 x.2.1, Value.string x.2.2]) (fun x => []) (fun x => heads_S0 (x.1) (x.2.1) (x.2.2)) (fun x => heads_V (x.1) (x.2.1) (x.2.2) (heads_t0 (x.1) (x.2.1) (x.2.2))) (fun x => heads_H (x.1) (x.2.1) (x.2.2) (heads_t0 (x.1) (x.2.1) (x.2.2)))
theorem heads_k_ok : KFor E 5 heads_k := kP_ok (fun x hx => heads_call (x.1) (x.2.1) (x.2.2) hx)


end Go.Proofs.Ytkpkompmfijgkaa
