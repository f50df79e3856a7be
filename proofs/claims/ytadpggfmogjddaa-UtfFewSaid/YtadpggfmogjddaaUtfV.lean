/-
  The statement UtfReads hands back true at every text; as a contract.
-/
import Derived.Test.YtadpggfmogjddaaUtfM
set_option linter.unusedVariables false
set_option linter.unusedSimpArgs false
open Go Go.Am
namespace Go.Proofs.Ytadpggfmogjddaa

theorem ureads_all (s : ByteArray) : AEnds E 4 0 (startC E 4 [.string s] []) (.bool true) [] := by
  by_cases c1 : 5000 < (slen s : Int)
  · have h := ureads_ok0 s (by unfold ureads_S0; rw [decide_eq_true c1]; simp [awake_S0])
    unfold ureads_t0 at h
    rw [decide_eq_true c1] at h
    exact ureads_end h
  · have p1 : feed_pre 0 0 0 0 0 false s := ⟨by omega, by omega, by omega⟩
    have p2 : reads_pre s := by unfold reads_pre; omega
    have p3 : valid_pre s := by unfold valid_pre; omega
    have p4 : refrunes_pre s := by unfold refrunes_pre; omega
    have h := ureads_ok0 s (by unfold ureads_S0; simp [p1, p2, p3, p4, plV_flat, rnV_flat, awake_S0])
    unfold ureads_t0 at h
    rw [decide_eq_false c1] at h
    have hw := wholeD_feed (toL s) (0, 0, 0, 0) 0
    rw [hw] at h
    generalize hf : feedL (0, 0, 0, 0) 0 false (toL s) = f at h
    have hr := ureads_run s (by omega) (slen s) 0 0 (0, 0, 0, 0) [] (by omega) (.inl rfl) (Nat.le_refl _) rfl (Nat.le_refl _)
    cases hb : f.2.2
    · simp [hb] at h
      exact (ureads_go1 h).ends hr
    · simp [hb] at h
      exact (ureads_go1 h).ends hr
def ureads_pre (s : ByteArray) : Prop := True
def ureads_v (s : ByteArray) : Value := .bool true
def ureads_h (s : ByteArray) : Heap := []
theorem ureads_call (s : ByteArray) (h : ureads_pre s) : CallOk E 4 [.string s] [] (ureads_v s) (ureads_h s) :=
  callOk_of_ends (ureads_all s) (by kernel_rfl) (Nat.le_of_ble_eq_true (by kernel_rfl))

def ureads_ex (a : List Value) (h : Heap) : ByteArray := (toStr (a.getD 0 undef))
noncomputable def ureads_k : Ct := kP ureads_ex (fun x => [Value.string x]) (fun x => []) (fun x => ureads_pre x) (fun x => ureads_v x) (fun x => ureads_h x)
theorem ureads_k_ok : KFor E 4 ureads_k := kP_ok (fun x hx => ureads_call x hx)


end Go.Proofs.Ytadpggfmogjddaa
