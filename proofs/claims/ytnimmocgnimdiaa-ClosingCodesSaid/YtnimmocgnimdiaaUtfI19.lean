/-
  The document's own answer, as contracts: how many bytes may be; a character's number.
-/
import Derived.Test.YtnimmocgnimdiaaUtfF19
import Derived.Test.YtnimmocgnimdiaaUtfH19
set_option linter.unusedVariables false
set_option linter.unusedSimpArgs false
open Go Go.Am
namespace Go.Proofs.Ytnimmocgnimdiaa

theorem runC_cut : ∀ (l : List UInt8) (q : Q), (runC q l).2.1 = 1 → (runC q l).1 = l.length ∧ (l ≠ [] → (runC q l).2.2.1 ≠ 0)
  | [], q, h => by simp [runC]
  | b :: r, q, h => by
    unfold runC at h ⊢
    split at h
    · split at h
      · simp at h
      · rename_i h1 h2
        simp only [h1, h2, if_false] at h ⊢
        obtain ⟨g1, g2⟩ := runC_cut r _ h
        refine ⟨by simp [g1], fun _ => ?_⟩
        cases r with
        | nil => simpa [runC] using h2
        | cons c r => exact g2 (by simp)
    · simp at h
theorem sst_fresh {q : Q} (h : q.1 = 0) (b : Int) : (sst q b).1 = (sst (0, 0, 0, 0) b).1 ∧ ((sst q b).1 = true → (sst q b).2 = (sst (0, 0, 0, 0) b).2) := by
  obtain ⟨l, lo, hi, x⟩ := q
  dsimp only at h
  subst h
  rw [sst_start, sst_start]
  split <;> simp
theorem runC_fresh {q : Q} (h : q.1 = 0) (b : UInt8) (r : List UInt8) :
    (runC q (b :: r)).1 = (runC (0, 0, 0, 0) (b :: r)).1 ∧ (runC q (b :: r)).2.1 = (runC (0, 0, 0, 0) (b :: r)).2.1 ∧ ((runC q (b :: r)).2.1 ≠ 2 → (runC q (b :: r)).2.2 = (runC (0, 0, 0, 0) (b :: r)).2.2) := by
  obtain ⟨e1, e2⟩ := sst_fresh h b.toNat
  unfold runC
  cases h1 : (sst q b.toNat).1 with
  | false =>
    rw [h1] at e1
    rw [← e1]
    simp
  | true =>
    rw [h1] at e1
    rw [← e1, ← e2 h1]
    simp
theorem oneV_fresh {q : Q} (h : q.1 = 0) {l : List UInt8} (hl : l ≠ []) : oneV l = if (runC q l).2.1 = 0 then ((runC q l).1 : Int) else if (runC q l).2.1 = 1 then 0 else -1 - ((runC q l).1 : Int) := by
  cases l with
  | nil => exact absurd rfl hl
  | cons b r =>
    obtain ⟨e1, e2, _⟩ := runC_fresh h b r
    unfold oneV
    rw [e1, e2]

theorem reads_run (s : ByteArray) (hs : slen s ≤ 1000000) : ∀ (n i : Nat) (q : Q), slen s - i ≤ n → i ≤ slen s → q.1 = 0 →
    AEnds E 26 0 (reads_h1 s i) (.tuple #[.int .i64 (feedL q i false ((toL s).drop i)).2.1, .bool (feedL q i false ((toL s).drop i)).2.2, .bool (!(feedL q i false ((toL s).drop i)).2.2 && (feedL q i false ((toL s).drop i)).1.1 == 0)]) [] := by
  intro n
  induction n with
  | zero =>
    intro i q hn hi hq
    have hi2 : i = slen s := by omega
    have h := reads_ok1 s i (by unfold reads_S1; simp [show ¬ ((i : Int) < slen s) by omega])
    rw [show reads_t1 s i = .inr ((i : Int), false, true) by unfold reads_t1; simp [show ¬ ((i : Int) < slen s) by omega]] at h
    rw [show (toL s).drop i = [] from List.drop_eq_nil_of_le (by unfold slen at hi2; omega)]
    have e : ((q.1 == 0) : Bool) = true := by simp [hq]
    simp only [feedL, e, Bool.not_false, Bool.true_and]
    exact reads_end h
  | succ n ih =>
    intro i q hn hi hq
    rcases Nat.lt_or_ge i (slen s) with hlt | hge
    case inr =>
      have hi2 : i = slen s := by omega
      have h := reads_ok1 s i (by unfold reads_S1; simp [show ¬ ((i : Int) < slen s) by omega])
      rw [show reads_t1 s i = .inr ((i : Int), false, true) by unfold reads_t1; simp [show ¬ ((i : Int) < slen s) by omega]] at h
      rw [show (toL s).drop i = [] from List.drop_eq_nil_of_le (by unfold slen at hi2; omega)]
      have e : ((q.1 == 0) : Bool) = true := by simp [hq]
      simp only [feedL, e, Bool.not_false, Bool.true_and]
      exact reads_end h
    have hpre : one_pre s i := ⟨by omega, by omega, hs⟩
    have h := reads_ok1 s i (by unfold reads_S1; simp [hpre])
    have hne : (toL s).drop i ≠ [] := by
      intro h0
      have := congrArg List.length h0
      simp [slen] at this hlt
      omega
    unfold reads_t1 at h
    rw [show (i : Int).toNat = i by simp, oneV_fresh hq hne] at h
    have hle := runC_le ((toL s).drop i) q
    have hlen : ((toL s).drop i).length = slen s - i := by simp [slen]
    rw [feedL_run]
    simp only [show decide ((i : Int) < slen s) = true by simp; omega, cond_true] at h
    by_cases h0 : (runC q ((toL s).drop i)).2.1 = 0
    · obtain ⟨g1, g2⟩ := runC_pos _ _ h0
      simp only [h0, if_true] at h ⊢
      rw [show (((runC q ((toL s).drop i)).1 : Int) == 0) = false by simp; omega, show decide (((runC q ((toL s).drop i)).1 : Int) < 0) = false by simp] at h
      simp only [cond_false] at h
      rw [wrap64_in (by omega) (by omega), show (i : Int) + ((runC q ((toL s).drop i)).1 : Int) = ((i + (runC q ((toL s).drop i)).1 : Nat) : Int) by omega] at h
      have := ih (i + (runC q ((toL s).drop i)).1) (runC q ((toL s).drop i)).2.2 (by omega) (by omega) g2
      rw [← List.drop_drop] at this
      rw [show (i : Int) + ((runC q ((toL s).drop i)).1 : Int) = ((i + (runC q ((toL s).drop i)).1 : Nat) : Int) by omega]
      exact (reads_go1 h).ends this
    · by_cases h1 : (runC q ((toL s).drop i)).2.1 = 1
      · obtain ⟨g1, g2⟩ := runC_cut _ _ h1
        have g2 := g2 hne
        simp only [h1, if_true, if_false, beq_self_eq_true, cond_true, show ((1 : Nat) = 0) = False by simp] at h ⊢
        have e : (((runC q ((toL s).drop i)).2.2.1 == 0) : Bool) = false := by simpa using g2
        have e3 : (i : Int) + ((runC q ((toL s).drop i)).1 : Int) = (slen s : Int) := by rw [g1, hlen]; omega
        have e4 : ((1 : Nat) == 2) = false := rfl
        simp only [e, e3, e4, Bool.and_false, Bool.not_false]
        exact reads_end h
      · have h2 : (runC q ((toL s).drop i)).2.1 = 2 := by have := runC_st ((toL s).drop i) q; omega
        simp only [h2, if_false, show ((2 : Nat) = 0) = False by simp, show ((2 : Nat) = 1) = False by simp] at h ⊢
        rw [show ((-1 - ((runC q ((toL s).drop i)).1 : Int)) == 0) = false by simp; omega, show decide (-1 - ((runC q ((toL s).drop i)).1 : Int) < 0) = true by simp; omega] at h
        simp only [cond_false, cond_true] at h
        rw [wrap64_in (x := (i : Int) - 1) (by omega) (by omega), wrap64_in (by omega) (by omega)] at h
        have e4 : ((2 : Nat) == 2) = true := rfl
        have e3 : (i : Int) - 1 - (-1 - ((runC q ((toL s).drop i)).1 : Int)) = (i : Int) + ((runC q ((toL s).drop i)).1 : Int) := by omega
        rw [e3] at h
        simp only [e4, Bool.not_true, Bool.false_and]
        exact reads_end h

def reads_pre (s : ByteArray) : Prop := slen s ≤ 1000000
def reads_v (s : ByteArray) : Value := .tuple #[.int .i64 (feedL (0, 0, 0, 0) 0 false (toL s)).2.1, .bool (feedL (0, 0, 0, 0) 0 false (toL s)).2.2, .bool (!(feedL (0, 0, 0, 0) 0 false (toL s)).2.2 && (feedL (0, 0, 0, 0) 0 false (toL s)).1.1 == 0)]
def reads_h (s : ByteArray) : Heap := []
theorem reads_call (s : ByteArray) (h : reads_pre s) : CallOk E 26 [.string s] [] (reads_v s) (reads_h s) :=
  callOk_of_ends ((reads_go1 (reads_ok0 s trivial)).ends (reads_run s h (slen s) 0 (0, 0, 0, 0) (by omega) (by omega) rfl)) (by kernel_rfl) (Nat.le_of_ble_eq_true (by kernel_rfl))

def reads_ex (a : List Value) (h : Heap) : ByteArray := (toStr (a.getD 0 undef))
noncomputable def reads_k : Ct := kP reads_ex (fun x => [Value.string x]) (fun x => []) (fun x => reads_pre x) (fun x => reads_v x) (fun x => reads_h x)
theorem reads_k_ok : KFor E 26 reads_k := kP_ok (fun x hx => reads_call x hx)


end Go.Proofs.Ytnimmocgnimdiaa
