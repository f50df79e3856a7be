/-
  The words behind a block: the walk, the contract.
-/
import Derived.Test.YtncldppnmkbklaaShaE
set_option linter.unusedVariables false
set_option linter.unusedSimpArgs false
open Go Go.Am
namespace Go.Proofs.Ytncldppnmkbklaa

abbrev S5 : Type := Int × Int × Int × Int × Int
/-- A round. -/
def step (w : Int) (t : Nat) (x : S5) : S5 :=
  (IntKind.u32.wrap (IntKind.u32.wrap (IntKind.u32.wrap (IntKind.u32.wrap (rot x.1 5 + mf t x.2.1 x.2.2.1 x.2.2.2.1) + x.2.2.2.2) + mk t x.2.1 x.2.2.1 x.2.2.2.1) + w), x.1, rot x.2.1 30, x.2.2.1, x.2.2.2.1)
def rounds (w : List Int) : Nat → S5 → S5
  | 0, x => x
  | n + 1, x => step (w.getD n 0) n (rounds w n x)
def sum5 (a x : S5) : S5 := (IntKind.u32.wrap (a.1 + x.1), IntKind.u32.wrap (a.2.1 + x.2.1), IntKind.u32.wrap (a.2.2.1 + x.2.2.1), IntKind.u32.wrap (a.2.2.2.1 + x.2.2.2.1), IntKind.u32.wrap (a.2.2.2.2 + x.2.2.2.2))
/-- The words behind a block. -/
def afterF (a : S5) (s : ByteArray) : S5 := sum5 a (rounds (wl s 80) 80 a)
abbrev vS (x : S5) : List Value := [.int .u32 x.1, .int .u32 x.2.1, .int .u32 x.2.2.1, .int .u32 x.2.2.2.1, .int .u32 x.2.2.2.2]

theorem after_run (a : S5) (s : ByteArray) : ∀ (n t : Nat) (x : S5), t + n = 80 → x = rounds (wl s 80) t a →
    AEnds E 13 0 (after_h1 a.1 a.2.1 a.2.2.1 a.2.2.2.1 a.2.2.2.2 s t x.1 x.2.1 x.2.2.1 x.2.2.2.1 x.2.2.2.2) (.agg (vS (afterF a s)).toArray) []
  | 0, t, x, ht, hx => by
    obtain rfl : t = 80 := by omega
    have h := after_ok1 a.1 a.2.1 a.2.2.1 a.2.2.2.1 a.2.2.2.2 s (80 : Nat) x.1 x.2.1 x.2.2.1 x.2.2.2.1 x.2.2.2.2 ⟨fun h => by simp at h, fun _ => trivial⟩
    unfold after_t1 at h
    rw [show decide (((80 : Nat) : Int) < 80) = false by decide] at h
    have e := after_end h
    subst hx
    exact e
  | n + 1, t, x, ht, hx => by
    have hv : (vw ((List.range 80).map (wv s))).getD (t * 1) undef = V32 ((wl s 80).getD t 0) := by
      rw [← wv_list, Nat.mul_one, vw_get _ _ (by rw [wl_len]; omega)]
    have h := after_ok1 a.1 a.2.1 a.2.2.1 a.2.2.2.1 a.2.2.2.2 s t x.1 x.2.1 x.2.2.1 x.2.2.2.1 x.2.2.2.2 ⟨fun _ => ⟨⟨by omega, by omega⟩, ⟨by omega, by omega⟩, trivial, by omega, by omega, by omega, by rw [Int.toNat_natCast, hv]; rfl⟩, fun h => by simp at h; omega⟩
    unfold after_t1 at h
    rw [Int.toNat_natCast, hv, show decide ((t : Int) < 80) = true by simp; omega, wrap64_in (x := (t : Int) + 1) (by omega) (by omega), show (t : Int) + 1 = ((t + 1 : Nat) : Int) by omega] at h
    exact (after_go1 h).ends (after_run a s n (t + 1) (step ((wl s 80).getD t 0) t x) (by omega) (by rw [rounds, ← hx]))

theorem rounds_zero (w : List Int) (x : S5) : x = rounds w 0 x := rfl
/-- A name that nothing unfolds. -/
theorem aF_ex : ∃ f : S5 → ByteArray → S5, ∀ a s, f a s = afterF a s := ⟨_, fun _ _ => rfl⟩
noncomputable def aF : S5 → ByteArray → S5 := Classical.choose aF_ex
theorem aF_eq (a : S5) (s : ByteArray) : aF a s = afterF a s := Classical.choose_spec aF_ex a s
def afterc_pre (a0 a1 a2 a3 a4 : Int) (s : ByteArray) : Prop := slen s = 64
noncomputable def afterc_v (a0 a1 a2 a3 a4 : Int) (s : ByteArray) : Value := .agg (vS (aF (a0, a1, a2, a3, a4) s)).toArray
def afterc_h (a0 a1 a2 a3 a4 : Int) (s : ByteArray) : Heap := []
theorem afterc_call (a0 a1 a2 a3 a4 : Int) (s : ByteArray) (h : afterc_pre a0 a1 a2 a3 a4 s) :
    CallOk E 13 [.agg #[.int .u32 a0, .int .u32 a1, .int .u32 a2, .int .u32 a3, .int .u32 a4], .string s] [] (afterc_v a0 a1 a2 a3 a4 s) (afterc_h a0 a1 a2 a3 a4 s) := by
  refine callOk_of_ends ?_ (by kernel_rfl) (Nat.le_of_ble_eq_true (by kernel_rfl))
  have e := after_run (a0, a1, a2, a3, a4) s 80 0 (a0, a1, a2, a3, a4) (by omega) (rounds_zero _ _)
  rw [← aF_eq] at e
  exact (after_go1 (after_ok0 a0 a1 a2 a3 a4 s h)).ends e

def afterc_ex (a : List Value) (h : Heap) : Int × Int × Int × Int × Int × ByteArray := ((toInt ((aggOf (a.getD 0 undef)).getD 0 undef)), (toInt ((aggOf (a.getD 0 undef)).getD 1 undef)), (toInt ((aggOf (a.getD 0 undef)).getD 2 undef)), (toInt ((aggOf (a.getD 0 undef)).getD 3 undef)), (toInt ((aggOf (a.getD 0 undef)).getD 4 undef)), (toStr (a.getD 1 undef)))
noncomputable def afterc_k : Ct := kP afterc_ex (fun (a0, a1, a2, a3, a4, a5) => [.agg #[.int .u32 a0, .int .u32 a1, .int .u32 a2, .int .u32 a3, .int .u32 a4], .string a5]) (fun (a0, a1, a2, a3, a4, a5) => []) (fun (a0, a1, a2, a3, a4, a5) => afterc_pre a0 a1 a2 a3 a4 a5) (fun (a0, a1, a2, a3, a4, a5) => afterc_v a0 a1 a2 a3 a4 a5) (fun (a0, a1, a2, a3, a4, a5) => afterc_h a0 a1 a2 a3 a4 a5)
theorem afterc_k_ok : KFor E 13 afterc_k := kP_ok (fun (a0, a1, a2, a3, a4, a5) hx => afterc_call a0 a1 a2 a3 a4 a5 hx)


end Go.Proofs.Ytncldppnmkbklaa
