/-
  The statement FramesTell hands back true at every input; as a contract.
-/
import Derived.Test.YtfmcohbagbafmaaFramesM
set_option linter.unusedVariables false
set_option linter.unusedSimpArgs false
open Go Go.Am
namespace Go.Proofs.Ytfmcohbagbafmaa

theorem safeI (m : Bool) (st : Int) (inn : ByteArray) (hf : Bool) (hr ho : Int) (hm : Bool) (k0 k1 k2 k3 hl : Int) (hlst : Bool) (told : Int) (h : Inv (st, inn, hf, hr, ho, hm, k0, k1, k2, k3, hl, hlst, told)) :
    rstep_S0 m st inn hf hr ho hm k0 k1 k2 k3 hl hlst told := (step_val m _ h).1
theorem awake_safe : awake_S0 := by
  unfold awake_S0
  repeat' first | (apply safeI; exact ⟨by decide +kernel, by decide +kernel⟩) | apply And.intro
theorem stepT_no {m : Bool} {x : RX} (h : Inv x) (hn : rOk (stepT m x) = false) : stepT m x = mkR 0 0 false 0 ⟨#[]⟩ false x := by
  obtain ⟨h1, h2⟩ := h
  rcases h1 with h1 | h1 | ⟨h1, t0, t1, t2⟩
  · exact stepT_2 h1
  · rw [stepT_0 h1] at hn ⊢
    cases ho : hOk (xIn x) with
    | false => rfl
    | true =>
      rw [ho] at hn
      cases hmm : mayS m (xIn x) with
      | false => rw [hmm] at hn; cases hn
      | true => rw [hmm] at hn; cases hn
  · by_cases c1 : xHl x = xTold x
    · rw [stepT_e h1 c1] at hn; cases hn
    · by_cases c2 : slen (xIn x) = 0
      · exact stepT_n h1 c1 c2
      · rw [stepT_p h1 c1 c2] at hn; cases hn
theorem cat_nil (s : ByteArray) : cat ⟨#[]⟩ s = s := by
  have : toL (cat ⟨#[]⟩ s) = toL s := by simp [cat, toL, ofL]
  rw [← ofL_toL (cat ⟨#[]⟩ s), this, ofL_toL]
theorem tell_len (m : Bool) : ∀ (n : Nat) (x : RX) (l : List Ev), (tell m n x l).1.length ≤ l.length + n
  | 0, x, l => by simp [tell]
  | n + 1, x, l => by
    rw [tell]
    cases rOk (stepT m x) with
    | false => rw [cond_false]; show l.length ≤ _; omega
    | true =>
      rw [cond_true]
      have := tell_len m n (rx (stepT m x)) (addE l (rEv (stepT m x)))
      have hadd : (addE l (rEv (stepT m x))).length ≤ l.length + 1 := by
        unfold addE
        split
        · split
          · rw [List.length_append, List.length_dropLast]; simp
          · simp
        · simp
      omega
abbrev x0 (s : ByteArray) : RX := (0, s, false, 0, 0, false, 0, 0, 0, 0, 0, false, 0)
theorem ftell_all (s : ByteArray) (m : Bool) : AEnds E 5 0 (startC E 5 [.string s, .bool m] []) (.bool true) [] := by
  have ha := awake_safe
  by_cases c1 : 20000 < (slen s : Int)
  · have h := ftell_ok0 s m (by unfold ftell_S0; rw [decide_eq_true c1]; simp [ha])
    unfold ftell_t0 at h
    rw [decide_eq_true c1] at h
    exact h
  have hI : Inv (x0 s) := ⟨.inr (.inl rfl), by show slen s ≤ _; omega⟩
  have hmu : mu (x0 s) = 3 * slen s + 0 := by unfold mu; rfl
  have A := tell_all m (slen s + 1) s [] (mu (x0 s) + 1) (x0 s) rfl rfl (by omega) (by omega) (by omega)
  have hlen := tell_len m (mu (x0 s) + 1) (x0 s) []
  have hd : allD m (slen s + 1) s [] = allOf m s := rfl
  have ht : tell m (mu (x0 s) + 1) (x0 s) [] = tellOf m (x0 s) := rfl
  rw [hd, ht] at A
  rw [ht] at hlen
  obtain ⟨a1, a2, a3, a4, a5⟩ := A
  obtain ⟨hS, hT⟩ := step_val m (tellOf m (x0 s)).2 a5
  rw [stepT_no a5 a4] at hT
  have p1 : rall_pre s m := by unfold rall_pre; omega
  have p2 : toldn_pre m 0 s false 0 0 false 0 0 0 0 0 false 0 := hI
  have p3 : same_pre (tellOf m (x0 s)).1.length (allOf m s).1.length (evsV (tellOf m (x0 s)).1) (evsV (allOf m s).1) :=
    ⟨(allOf m s).1, by rw [← a1]; simp at hlen; omega, by rw [a1], rfl, by rw [a1], rfl⟩
  have p4 : slen s ≤ 9223372036854775807 := by omega
  unfold stS at hS
  unfold stp at hT
  have hS0 : ftell_S0 s m := by
    unfold ftell_S0
    simp only [cat_nil]
    rw [decide_eq_false c1]
    generalize tellOf m (x0 s) = T at *
    have k1 (a : Option Addr) (n c : Nat) : sliceLen (.slice a n c) = n := rfl
    have k2 (x y : List Value) (a b : Option Nat) (c d : TypeId) : cellsOf [some (.cells x c a), some (.cells y d b)] 0 = x := rfl
    have k3 (x y : List Value) (a b : Option Nat) (c d : TypeId) : cellsOf [some (.cells x c a), some (.cells y d b)] 1 = y := rfl
    simp only [hT, evs_flat, k1, k2, k3, eqA_self, eqH_self]
    simp [ha, p1, p2, p3, hS]
    try omega
  have h := ftell_ok0 s m hS0
  have htt : ftell_t0 s m = true := by
    unfold ftell_t0
    simp only [cat_nil]
    rw [decide_eq_false c1]
    generalize tellOf m (x0 s) = T at *
    simp only [hT]
    rw [a2, a3]
    simp only [mkR, cond_false]
    unfold xSt xIn
    cases (T.2.1 == 2) <;> cases (T.2.1 == 0) <;> simp
  rw [htt] at h
  exact h
def ftellc_pre (s : ByteArray) (m : Bool) : Prop := True
def ftellc_v (s : ByteArray) (m : Bool) : Value := .bool true
def ftellc_h (s : ByteArray) (m : Bool) : Heap := []
theorem ftellc_call (s : ByteArray) (m : Bool) (h : ftellc_pre s m) : CallOk E 5 [.string s, .bool m] [] (ftellc_v s m) (ftellc_h s m) :=
  callOk_of_ends (ftell_all s m) (by kernel_rfl) (Nat.le_of_ble_eq_true (by kernel_rfl))

def ftellc_ex (a : List Value) (h : Heap) : ByteArray × Bool := ((toStr (a.getD 0 undef)), (toBool (a.getD 1 undef)))
noncomputable def ftellc_k : Ct := kP ftellc_ex (fun x => [Value.string x.1, Value.bool x.2]) (fun x => []) (fun x => ftellc_pre (x.1) (x.2)) (fun x => ftellc_v (x.1) (x.2)) (fun x => ftellc_h (x.1) (x.2))
theorem ftellc_k_ok : KFor E 5 ftellc_k := kP_ok (fun x hx => ftellc_call (x.1) (x.2) hx)


noncomputable def KN : Ctr := ctrOf E [(10, anyA, awake_k), (5, anyA, ftellc_k)]
theorem KN_ok : KOk E KN := ctr_cons awake_k_ok (ctr_cons ftellc_k_ok ctr_nil)

abbrev fheads_R : Type := Unit
def fheads_V (a : Int) (b : Int) (s : ByteArray) (m : Bool) (r : Unit) : Value := Value.bool true
def fheads_H (a : Int) (b : Int) (s : ByteArray) (m : Bool) (r : Unit) : Heap := []
noncomputable def fheads_Q (a : Int) (b : Int) (s : ByteArray) (m : Bool) (C : Cfg) (r : fheads_R) : Prop :=
  let p := r
  AEnds E 6 0 C (fheads_V a b s m p) (fheads_H a b s m p)
theorem fheads_p0_0 (a : Int) (b : Int) (s : ByteArray) (m : Bool) : goFinB E KN 2000 24 (some [false, true]) [] [8] [] (startC E 6 ([Value.int IntKind.u8 a, Value.int IntKind.u8 b, Value.string s, Value.bool m]) ([])) = some (and ((decide (300 < (↑(slen s) : Int))) == true) (and (eqA [] []) (and (eqH [] []) (and (pdec awake_S0) (true)))), Value.bool true, []) := by kernel_rfl
theorem fheads_p0_1 (a : Int) (b : Int) (s : ByteArray) (m : Bool) : goFinB E KN 2000 67 (some [false, false, true, true, true, true]) [] [8] [] (startC E 6 ([Value.int IntKind.u8 a, Value.int IntKind.u8 b, Value.string s, Value.bool m]) ([])) = some (and (eqA [Value.string (bytesOf [Value.int IntKind.u8 a, Value.int IntKind.u8 b]), Value.bool m] [Value.string (bytesOf [Value.int IntKind.u8 a, Value.int IntKind.u8 b]), Value.bool m]) (and (eqH [] []) (and (pdec (ftellc_pre (bytesOf [Value.int IntKind.u8 a, Value.int IntKind.u8 b]) m)) (and (eqA [Value.string (cat (cat (bytesOf [Value.int IntKind.u8 a, Value.int IntKind.u8 b]) { data := #[127, 255, 255, 255, 255, 255, 255, 255] }) s), Value.bool m] [Value.string (cat (cat (bytesOf [Value.int IntKind.u8 a, Value.int IntKind.u8 b]) { data := #[127, 255, 255, 255, 255, 255, 255, 255] }) s), Value.bool m]) (and (eqH [] []) (and (pdec (ftellc_pre (cat (cat (bytesOf [Value.int IntKind.u8 a, Value.int IntKind.u8 b]) { data := #[127, 255, 255, 255, 255, 255, 255, 255] }) s) m)) (and (decide (slen (cat (bytesOf [Value.int IntKind.u8 a, Value.int IntKind.u8 b]) { data := #[127, 255, 255, 255, 255, 255, 255, 255] }) + slen s ≤ 9223372036854775807)) (and (eqA [Value.string (cat (cat (bytesOf [Value.int IntKind.u8 a, Value.int IntKind.u8 b]) { data := #[128, 0, 0, 0, 0, 0, 0, 0] }) s), Value.bool m] [Value.string (cat (cat (bytesOf [Value.int IntKind.u8 a, Value.int IntKind.u8 b]) { data := #[128, 0, 0, 0, 0, 0, 0, 0] }) s), Value.bool m]) (and (eqH [] []) (and (pdec (ftellc_pre (cat (cat (bytesOf [Value.int IntKind.u8 a, Value.int IntKind.u8 b]) { data := #[128, 0, 0, 0, 0, 0, 0, 0] }) s) m)) (and (decide (slen (cat (bytesOf [Value.int IntKind.u8 a, Value.int IntKind.u8 b]) { data := #[128, 0, 0, 0, 0, 0, 0, 0] }) + slen s ≤ 9223372036854775807)) (and (eqA [Value.string (cat (cat (bytesOf [Value.int IntKind.u8 a, Value.int IntKind.u8 b]) { data := #[0, 126] }) s), Value.bool m] [Value.string (cat (cat (bytesOf [Value.int IntKind.u8 a, Value.int IntKind.u8 b]) { data := #[0, 126] }) s), Value.bool m]) (and (eqH [] []) (and (pdec (ftellc_pre (cat (cat (bytesOf [Value.int IntKind.u8 a, Value.int IntKind.u8 b]) { data := #[0, 126] }) s) m)) (and (decide (slen (cat (bytesOf [Value.int IntKind.u8 a, Value.int IntKind.u8 b]) { data := #[0, 126] }) + slen s ≤ 9223372036854775807)) (and (eqA [Value.string (cat (bytesOf [Value.int IntKind.u8 a, Value.int IntKind.u8 b]) s), Value.bool m] [Value.string (cat (bytesOf [Value.int IntKind.u8 a, Value.int IntKind.u8 b]) s), Value.bool m]) (and (eqH [] []) (and (pdec (ftellc_pre (cat (bytesOf [Value.int IntKind.u8 a, Value.int IntKind.u8 b]) s) m)) (and (decide (slen (bytesOf [Value.int IntKind.u8 a, Value.int IntKind.u8 b]) + slen s ≤ 9223372036854775807)) (and ((decide (300 < (↑(slen s) : Int))) == false) (and (eqA [] []) (and (eqH [] []) (and (pdec awake_S0) (true))))))))))))))))))))))), Value.bool true, []) := by kernel_rfl
def fheads_t0 (a : Int) (b : Int) (s : ByteArray) (m : Bool) : fheads_R :=
  bif decide (300 < (↑(slen s) : Int)) then ()
  else ()
def fheads_S0 (a : Int) (b : Int) (s : ByteArray) (m : Bool) : Prop :=
  ((decide (300 < (↑(slen s) : Int))) = true → awake_S0) ∧
  ((decide (300 < (↑(slen s) : Int))) = false → (ftellc_pre (bytesOf [Value.int IntKind.u8 a, Value.int IntKind.u8 b]) m) ∧ (ftellc_pre (cat (cat (bytesOf [Value.int IntKind.u8 a, Value.int IntKind.u8 b]) { data := #[127, 255, 255, 255, 255, 255, 255, 255] }) s) m) ∧ (slen (cat (bytesOf [Value.int IntKind.u8 a, Value.int IntKind.u8 b]) { data := #[127, 255, 255, 255, 255, 255, 255, 255] }) + slen s ≤ 9223372036854775807) ∧ (ftellc_pre (cat (cat (bytesOf [Value.int IntKind.u8 a, Value.int IntKind.u8 b]) { data := #[128, 0, 0, 0, 0, 0, 0, 0] }) s) m) ∧ (slen (cat (bytesOf [Value.int IntKind.u8 a, Value.int IntKind.u8 b]) { data := #[128, 0, 0, 0, 0, 0, 0, 0] }) + slen s ≤ 9223372036854775807) ∧ (ftellc_pre (cat (cat (bytesOf [Value.int IntKind.u8 a, Value.int IntKind.u8 b]) { data := #[0, 126] }) s) m) ∧ (slen (cat (bytesOf [Value.int IntKind.u8 a, Value.int IntKind.u8 b]) { data := #[0, 126] }) + slen s ≤ 9223372036854775807) ∧ (ftellc_pre (cat (bytesOf [Value.int IntKind.u8 a, Value.int IntKind.u8 b]) s) m) ∧ (slen (bytesOf [Value.int IntKind.u8 a, Value.int IntKind.u8 b]) + slen s ≤ 9223372036854775807) ∧ (awake_S0))
theorem fheads_ok0 (a : Int) (b : Int) (s : ByteArray) (m : Bool) (hS : fheads_S0 a b s m) : fheads_Q a b s m (startC E 6 ([Value.int IntKind.u8 a, Value.int IntKind.u8 b, Value.string s, Value.bool m]) ([])) (fheads_t0 a b s m) := by
  unfold fheads_S0 at hS
  unfold fheads_t0
  refine cond_intro (P := fheads_Q a b s m (startC E 6 ([Value.int IntKind.u8 a, Value.int IntKind.u8 b, Value.string s, Value.bool m]) ([]))) _ (fun h1 => ?_) (fun h1 => ?_)
  · skip
    exact ends_ofB KN_ok (fheads_p0_0 a b s m) (andI (dT h1) (andI (eqA_self _) (andI (eqH_self _) (andI (pdec_iff.2 (hS.1 h1)) (rfl))))) (by kernel_rfl) (Nat.le_of_ble_eq_true (by kernel_rfl)) (fun i hi => absurd hi (Nat.not_lt_zero _)) (fun i hi => absurd hi (Nat.not_lt_zero _))
  · skip
    exact ends_ofB KN_ok (fheads_p0_1 a b s m) (andI (eqA_self _) (andI (eqH_self _) (andI (pdec_iff.2 (hS.2 h1).1) (andI (eqA_self _) (andI (eqH_self _) (andI (pdec_iff.2 (hS.2 h1).2.1) (andI (decide_eq_true (hS.2 h1).2.2.1) (andI (eqA_self _) (andI (eqH_self _) (andI (pdec_iff.2 (hS.2 h1).2.2.2.1) (andI (decide_eq_true (hS.2 h1).2.2.2.2.1) (andI (eqA_self _) (andI (eqH_self _) (andI (pdec_iff.2 (hS.2 h1).2.2.2.2.2.1) (andI (decide_eq_true (hS.2 h1).2.2.2.2.2.2.1) (andI (eqA_self _) (andI (eqH_self _) (andI (pdec_iff.2 (hS.2 h1).2.2.2.2.2.2.2.1) (andI (decide_eq_true (hS.2 h1).2.2.2.2.2.2.2.2.1) (andI (dF h1) (andI (eqA_self _) (andI (eqH_self _) (andI (pdec_iff.2 (hS.2 h1).2.2.2.2.2.2.2.2.2) (rfl)))))))))))))))))))))))) (by kernel_rfl) (Nat.le_of_ble_eq_true (by kernel_rfl)) (fun i hi => absurd hi (Nat.not_lt_zero _)) (fun i hi => absurd hi (Nat.not_lt_zero _))
theorem fheads_call (a : Int) (b : Int) (s : ByteArray) (m : Bool) (hS : fheads_S0 a b s m) : CallOk E 6 ([Value.int IntKind.u8 a, Value.int IntKind.u8 b, Value.string s, Value.bool m]) ([]) (fheads_V a b s m (fheads_t0 a b s m)) (fheads_H a b s m (fheads_t0 a b s m)) := callOk_of_ends (fheads_ok0 a b s m hS) (by kernel_rfl) (Nat.le_of_ble_eq_true (by kernel_rfl))
def fheads_ex (a : List Value) (h : Heap) : Int × Int × ByteArray × Bool := ((toInt (a.getD 0 undef)), (toInt (a.getD 1 undef)), (toStr (a.getD 2 undef)), (toBool (a.getD 3 undef)))
noncomputable def fheads_k : Ct := kP fheads_ex (fun x => [Value.int IntKind.u8 x.1, Value.int IntKind.u8 x.2.1, Value.string x.2.2.1, Value.bool x.2.2.2]) (fun x => []) (fun x => fheads_S0 (x.1) (x.2.1) (x.2.2.1) (x.2.2.2)) (fun x => fheads_V (x.1) (x.2.1) (x.2.2.1) (x.2.2.2) (fheads_t0 (x.1) (x.2.1) (x.2.2.1) (x.2.2.2))) (fun x => fheads_H (x.1) (x.2.1) (x.2.2.1) (x.2.2.2) (fheads_t0 (x.1) (x.2.1) (x.2.2.1) (x.2.2.2)))
theorem fheads_k_ok : KFor E 6 fheads_k := kP_ok (fun x hx => fheads_call (x.1) (x.2.1) (x.2.2.1) (x.2.2.2) hx)


end Go.Proofs.Ytfmcohbagbafmaa
