/-
  The words of a block's rounds: the walk.
-/
import Derived.Test.YtncldppnmkbklaaShaC
set_option linter.unusedVariables false
set_option linter.unusedSimpArgs false
open Go Go.Am
namespace Go.Proofs.Ytncldppnmkbklaa

theorem toL_sub (s : ByteArray) (l h : Nat) : toL (sub s l h) = ((toL s).drop l).take (h - l) := by
  simp [sub, toL, ofL]
theorem slen_sub (s : ByteArray) (l h : Nat) : slen (sub s l h) = min (h - l) (slen s - l) := by
  unfold slen
  rw [toL_sub, List.length_take, List.length_drop]

def wnext (s : ByteArray) (l : List Int) : Int :=
  bif decide (l.length < 16) then IntKind.u32.wrap (g4 (sub s (4 * l.length) (slen s)))
  else rot (ixor .u32 (ixor .u32 (ixor .u32 (l.getD (l.length - 3) 0) (l.getD (l.length - 8) 0)) (l.getD (l.length - 14) 0)) (l.getD (l.length - 16) 0)) 1
def wl (s : ByteArray) : Nat → List Int
  | 0 => []
  | n + 1 => wl s n ++ [wnext s (wl s n)]
theorem wl_len (s : ByteArray) : ∀ n, (wl s n).length = n
  | 0 => rfl
  | n + 1 => by simp [wl, wl_len s n]
theorem set_mid {α : Type} (A : List α) (x v : α) (R : List α) : (A ++ x :: R).set A.length v = A ++ v :: R := by
  simp [List.set_append]
theorem wl_set (s : ByteArray) (t n : Nat) (v : Int) (h : v = wnext s (wl s t)) : (wl s t ++ List.replicate (n + 1) 0).set t v = wl s (t + 1) ++ List.replicate n 0 := by
  have := set_mid (wl s t) 0 v (List.replicate n 0)
  rw [wl_len] at this
  rw [List.replicate_succ, this, wl, h]
  simp
theorem wl_get (s : ByteArray) (t n k : Nat) (h : k < t) : (wl s t ++ List.replicate n (0 : Int)).getD k 0 = (wl s t).getD k 0 := by
  simp [List.getD_eq_getElem?_getD, List.getElem?_append, wl_len, h]
theorem isInt_self (k : IntKind) (x : Int) : isInt k (.int k x) = true := by simp [isInt]
theorem ext_range (l : List Int) (n : Nat) (h : l.length = n) : l = (List.range n).map fun i => l.getD i 0 := by
  apply List.ext_getElem
  · simp [h]
  · intro i h1 h2
    simp [List.getD_eq_getElem?_getD, h1]

theorem sched_run (s : ByteArray) (hs : slen s = 64) : ∀ (n t : Nat), t + n = 80 →
    AEnds E 16 0 (sched_h1 s t (vw (wl s t ++ List.replicate n 0))) (.agg (vw (wl s 80)).toArray) []
  | 0, t, ht => by
    obtain rfl : t = 80 := by omega
    rw [List.replicate_zero, List.append_nil, ext_range (wl s 80) 80 (wl_len s 80)]
    exact ends_ofB KB_ok (sched_fin s _) rfl (by kernel_rfl) (Nat.le_of_ble_eq_true (by kernel_rfl)) (fun i hi => absurd hi (Nat.not_lt_zero _)) (fun i hi => absurd hi (Nat.not_lt_zero _))
  | n + 1, t, ht => by
    have hl : (vw (wl s t ++ List.replicate (n + 1) 0)).length = 80 := by rw [vw_len, List.length_append, wl_len, List.length_replicate]; exact ht
    have nx := sched_run s hs n (t + 1) (by omega)
    have hw : IntKind.i64.wrap ((t : Int) + 1) = ((t + 1 : Nat) : Int) := by rw [wrap64_in (by omega) (by omega)]; omega
    by_cases hc : t < 16
    · have h4 : IntKind.i64.wrap (4 * (t : Int)) = ((4 * t : Nat) : Int) := by rw [wrap64_in (by omega) (by omega)]; omega
      have hv : IntKind.u32.wrap (g4 (sub s (4 * t) (slen s))) = wnext s (wl s t) := by
        unfold wnext; rw [wl_len, show decide (t < 16) = true by simpa using hc]; rfl
      refine Gets.ends (C1 := sched_h1 s ((t + 1 : Nat) : Int) (vw (wl s (t + 1) ++ List.replicate n 0))) ?_ nx
      rw [← hw, ← wl_set s t n _ hv, ← vw_set]
      have p := sched_p1_0 s t (vw (wl s t ++ List.replicate (n + 1) 0))
      rw [h4, Int.toNat_natCast, Int.toNat_natCast, Nat.zero_add, Nat.mul_one] at p
      refine reach_gb KB_ok p ?_ (Nat.le_of_ble_eq_true (by kernel_rfl)) (fun i hi => absurd hi (Nat.not_lt_zero _)) (fun i hi => absurd hi (Nat.not_lt_zero _)) (Nat.le_of_ble_eq_true (by kernel_rfl))
      rw [vw_set, vw_flat, hl]
      simp only [Bool.true_and, Bool.and_true, eqA_self, eqH_self]
      rw [pdec_iff.2 (show bigc_pre (sub s (4 * t) (slen s)) by unfold bigc_pre; rw [slen_sub, hs]; omega), hs]
      simp
      omega
    · have hv : rot (ixor .u32 (ixor .u32 (ixor .u32 ((wl s t).getD (t - 3) 0) ((wl s t).getD (t - 8) 0)) ((wl s t).getD (t - 14) 0)) ((wl s t).getD (t - 16) 0)) 1 = wnext s (wl s t) := by
        unfold wnext; rw [wl_len, show decide (t < 16) = false by simpa using hc]; rfl
      refine Gets.ends (C1 := sched_h1 s ((t + 1 : Nat) : Int) (vw (wl s (t + 1) ++ List.replicate n 0))) ?_ nx
      rw [← hw, ← wl_set s t n _ hv, ← vw_set]
      have hk : ∀ k : Nat, 0 < k → k ≤ 16 → IntKind.i64.wrap ((t : Int) - (k : Int)) = ((t - k : Nat) : Int) := fun k h0 h1 => by rw [wrap64_in (by omega) (by omega)]; omega
      have hg : ∀ k : Nat, 0 < k → k ≤ 16 → (vw (wl s t ++ List.replicate (n + 1) 0)).getD (t - k) undef = V32 ((wl s t).getD (t - k) 0) := fun k h0 h1 => by
        rw [vw_get _ _ (by rw [vw_len] at hl; omega), wl_get _ _ _ _ (by omega)]
      have k3 := hk 3 (by omega) (by omega)
      have k8 := hk 8 (by omega) (by omega)
      have k14 := hk 14 (by omega) (by omega)
      have k16 := hk 16 (by omega) (by omega)
      have g3 := hg 3 (by omega) (by omega)
      have g8 := hg 8 (by omega) (by omega)
      have g14 := hg 14 (by omega) (by omega)
      have g16 := hg 16 (by omega) (by omega)
      simp only [Int.cast_ofNat_Int] at k3 k8 k14 k16
      have p := sched_p1_2 s t (vw (wl s t ++ List.replicate (n + 1) 0))
      rw [k3, k8, k14, k16] at p
      simp only [Int.toNat_natCast, Nat.zero_add, Nat.mul_one, g3, g8, g14, g16, toInt] at p
      refine reach_gb KB_ok p ?_ (Nat.le_of_ble_eq_true (by kernel_rfl)) (fun i hi => absurd hi (Nat.not_lt_zero _)) (fun i hi => absurd hi (Nat.not_lt_zero _)) (Nat.le_of_ble_eq_true (by kernel_rfl))
      rw [vw_set, vw_flat, hl]
      simp only [Bool.true_and, Bool.and_true, eqA_self, eqH_self, isInt_self]
      rw [pdec_iff.2 (show rotc_pre _ 1 from ⟨by omega, by omega⟩)]
      simp
      omega

/-- The words of a block: names that nothing unfolds. -/
theorem wv_ex : ∃ f : ByteArray → Nat → Int, ∀ s i, f s i = (wl s 80).getD i 0 := ⟨_, fun _ _ => rfl⟩
noncomputable def wv : ByteArray → Nat → Int := Classical.choose wv_ex
theorem wv_eq (s : ByteArray) (i : Nat) : wv s i = (wl s 80).getD i 0 := Classical.choose_spec wv_ex s i
theorem wv_list (s : ByteArray) : wl s 80 = (List.range 80).map (wv s) := by
  rw [show wv s = fun i => (wl s 80).getD i 0 from funext (wv_eq s), ← ext_range _ _ (wl_len s 80)]
/-- A text that is none of 64 bytes never comes here. -/
def schedc_pre (s : ByteArray) : Prop := slen s = 64
noncomputable def schedc_v (s : ByteArray) : Value := .agg (vw ((List.range 80).map (wv s))).toArray
def schedc_h (s : ByteArray) : Heap := []
theorem schedc_call (s : ByteArray) (h : schedc_pre s) : CallOk E 16 [.string s] [] (schedc_v s) (schedc_h s) := by
  refine callOk_of_ends ?_ (by kernel_rfl) (Nat.le_of_ble_eq_true (by kernel_rfl))
  have p := sched_run s h 80 0 rfl
  rw [wv_list] at p
  exact Gets.ends (C1 := sched_h1 s 0 (vw (List.replicate 80 0))) (reach_gb KB_ok (sched_p0_0 s) rfl (Nat.le_of_ble_eq_true (by kernel_rfl)) (fun i hi => absurd hi (Nat.not_lt_zero _)) (fun i hi => absurd hi (Nat.not_lt_zero _)) (Nat.le_of_ble_eq_true (by kernel_rfl))) p

def schedc_ex (a : List Value) (h : Heap) : ByteArray := (toStr (a.getD 0 undef))
noncomputable def schedc_k : Ct := kP schedc_ex (fun x => [.string x]) (fun x => []) (fun x => schedc_pre x) (fun x => schedc_v x) (fun x => schedc_h x)
theorem schedc_k_ok : KFor E 16 schedc_k := kP_ok (fun x hx => schedc_call x hx)


noncomputable def KD : Ctr := ctrOf E [(16, anyA, schedc_k), (18, anyA, rotc_k), (17, anyA, mixc_k)]
theorem KD_ok : KOk E KD := ctr_cons schedc_k_ok (ctr_cons rotc_k_ok (ctr_cons mixc_k_ok ctr_nil))

end Go.Proofs.Ytncldppnmkbklaa
