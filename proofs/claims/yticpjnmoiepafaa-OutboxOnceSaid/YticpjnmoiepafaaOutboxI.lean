/-
  Acts as a list; whether they are more than statements go through.
-/
import Derived.Test.YticpjnmoiepafaaOutboxH
import Derived.Test.YticpjnmoiepafaaOutboxP
set_option linter.unusedVariables false
set_option linter.unusedSimpArgs false
open Go Go.Am
namespace Go.Proofs.Yticpjnmoiepafaa

abbrev Act : Type := Int × Int × ByteArray
def aC (a : Act) : List Value := [.int .u8 a.1, .int .u8 a.2.1, .string a.2.2]
def aQ (l : List Act) : List Value := (l.map aC).flatten
theorem aQ_w (l : List Act) : ∀ e ∈ l.map aC, e.length = 3 := by
 intro e he
 obtain ⟨x, _, rfl⟩ := List.mem_map.1 he
 rfl
theorem aQ_len (l : List Act) : (aQ l).length = l.length * 3 := by unfold aQ; rw [flat_len (aQ_w l)]; simp
theorem aQ_get {l : List Act} {i : Nat} {a : Act} (h : l[i]? = some a) : (aQ l).getD (i * 3) undef = .int .u8 a.1 ∧ (aQ l).getD (i * 3 + 0) undef = .int .u8 a.1 ∧ (aQ l).getD (i * 3 + 1) undef = .int .u8 a.2.1 ∧ (aQ l).getD (i * 3 + 2) undef = .string a.2.2 := by
 have hi : (l.map aC)[i]? = some (aC a) := by rw [List.getElem?_map, h]; rfl
 have g := fun (k : Nat) (hk : k < 3) => getD_flat (w := 3) (aQ_w l) hi (k := k) hk
 exact ⟨g 0 (by omega), g 0 (by omega), g 1 (by omega), g 2 (by omega)⟩
def greatB (n : Nat) (A : List Value) : Bool := decide (200 < n) || (List.range n).any fun i => decide (60 < slen (toStr (A.getD (i * 3 + 2) undef)))
theorem greatB_false {l : List Act} (h : greatB l.length (aQ l) = false) : l.length ≤ 200 ∧ ∀ a ∈ l, slen a.2.2 ≤ 60 := by
 unfold greatB at h
 simp only [Bool.or_eq_false_iff, decide_eq_false_iff_not, List.any_eq_false, List.mem_range, decide_eq_true_eq] at h
 refine ⟨by omega, fun a ha => ?_⟩
 obtain ⟨i, hi⟩ := List.getElem?_of_mem ha
 have hlt := (List.getElem?_eq_some_iff.1 hi).1
 have := h.2 i hlt
 rw [(aQ_get hi).2.2.2] at this
 simpa [toStr] using this
theorem great_run (l : List Act) (hl : l.length ≤ 200) : ∀ (k i : Nat), i + k = l.length → (∀ j, j < i → ¬ 60 < slen (toStr ((aQ l).getD (j * 3 + 2) undef))) → AEnds E 14 0 (great_h1 l.length (aQ l) i) (.bool (greatB l.length (aQ l))) []
 | 0, i, hi, hj => by
  have w := great_w1_2 l.length (aQ l) i (by simp; omega)
  have e : greatB l.length (aQ l) = false := by
   unfold greatB
   simp only [Bool.or_eq_false_iff, decide_eq_false_iff_not, List.any_eq_false, List.mem_range, decide_eq_true_eq]
   exact ⟨by omega, fun j hj' => hj j (by omega)⟩
  rw [e]
  exact w
 | k + 1, i, hi, hj => by
  obtain ⟨a, ha⟩ : ∃ a, l[i]? = some a := ⟨_, List.getElem?_eq_getElem (by omega)⟩
  have hg := aQ_get ha
  have hl3 := aQ_len l
  by_cases c : 60 < (slen a.2.2 : Int)
  ·have w := great_w1_0 l.length (aQ l) i
   simp only [Int.toNat_natCast, hg, toStr, isStr] at w
   have e : greatB l.length (aQ l) = true := by
    unfold greatB
    simp only [Bool.or_eq_true, List.any_eq_true, List.mem_range, decide_eq_true_eq]
    refine .inr ⟨i, by omega, ?_⟩
    rw [hg.2.2.2]
    show 60 < slen a.2.2
    omega
   rw [e]
   exact w (decide_eq_true c) (by omega) trivial (by omega) (by omega) (by omega) (by simp; omega)
  ·have w := great_w1_1 l.length (aQ l) i
   simp only [Int.toNat_natCast, hg, toStr, isStr] at w
   rw [wrap64_in (x := (i : Int) + 1) (by omega) (by omega)] at w
   refine Gets.ends ?_ (great_run l hl k (i + 1) (by omega) (fun j hj' => ?_))
   ·exact w (decide_eq_false c) (by omega) trivial (by omega) (by omega) (by omega) (by simp; omega)
   ·rcases Nat.lt_or_ge j i with h | h
    ·exact hj j h
    ·obtain rfl : j = i := by omega
     rw [hg.2.2.2]
     show ¬ 60 < slen a.2.2
     omega
def great_pre (n : Nat) (A : List Value) : Prop := ∃ l : List Act, n = l.length ∧ A = aQ l
def great_v (n : Nat) (A : List Value) : Value := .bool (greatB n A)
def great_h (n : Nat) (A : List Value) : Heap := []
theorem great_call (n : Nat) (A : List Value) (h : great_pre n A) : CallOk E 14 [.iface n (.agg A.toArray)] [] (great_v n A) (great_h n A) := by
 obtain ⟨l, rfl, rfl⟩ := h
 refine callOk_of_ends ?_ (by kernel_rfl) (Nat.le_of_ble_eq_true (by kernel_rfl))
 by_cases c : 200 < l.length
 ·have e : greatB l.length (aQ l) = true := by unfold greatB; simp [c]
  unfold great_v
  rw [e]
  exact great_w0_0 l.length (aQ l) (by simp; omega)
 ·exact (great_w0_1 l.length (aQ l) (by simp; omega)).ends (great_run l (by omega) l.length 0 (Nat.zero_add _) (fun j hj => absurd hj (Nat.not_lt_zero _)))

def great_ex (a : List Value) (h : Heap) : Nat × List Value := ((sliceLen (a.getD 0 undef)), (aggOf (a.getD 0 undef)))
noncomputable def great_k : Ct := kS great_ex [.row] [] (fun (a0, a1) => great_pre a0 a1) (fun (a0, a1) => great_v a0 a1) (fun (a0, a1) => great_h a0 a1)
theorem great_k_ok : KFor E 14 great_k := kS_ok (fun x hx => great_call (x.1) (x.2) hx) (fun _ _ => rfl) (fun _ _ => rfl)


end Go.Proofs.Yticpjnmoiepafaa
