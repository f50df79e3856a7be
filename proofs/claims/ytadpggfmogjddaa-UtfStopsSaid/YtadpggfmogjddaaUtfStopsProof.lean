/-
  PROVED: the law UtfStops hands back true at every input, and its arguments read behind the call as they read before.
-/
import Derived.Test.YtadpggfmogjddaaRows
import Derived.Test.YtadpggfmogjddaaUtfS
set_option linter.unusedVariables false
set_option linter.unusedSimpArgs false
open Go Go.Am Go.ChangeShapes Go.WideShapes Go.ChangeAt Go.RowKit
namespace Go.Proofs.Ytadpggfmogjddaa.utfStops
theorem all (s : ByteArray) (N : Int) (hN : 0 ≤ N ∧ N ≤ 255) : AEnds E 9 0 (startC E 9 [.string s, .int .u8 N] []) (.bool true) [] := by
  obtain ⟨N, rfl⟩ : ∃ n : Nat, N = n := ⟨N.toNat, by omega⟩
  have h := stops_ok0 s N (by unfold stops_S0; simp [awakeN_S0])
  unfold stops_t0 at h
  by_cases c1 : 2000 < (slen s : Int)
  · rw [decide_eq_true c1] at h
    exact stops_end h
  rw [decide_eq_false c1] at h
  have h1 := stops_loop1 s N (nums (0, 0, 0, 0) (toL s)) (by omega) (slen s) 0 (0, 0, 0, 0) [] 0 (by omega) rfl (Nat.le_refl _)
  have h2 := stops_loop2 s N (nums (0, 0, 0, 0) (toL s)) (by omega) (by omega) (slen s) 0 (0, 0, 0, 0) [] 0 (by omega) rfl (Nat.zero_le _)
  exact (stops_go1 h).ends (h1.ends h2)

theorem walk (a0 : ByteArray) (w0 : a0.size ≤ maxLen) (a1 : Int) (w1 : (Lit.int .u8 a1).wf = true) (W : World) (args' : Array Value)
    (ha : ∀ ρ, VL (prOf W) (AN []) ρ [.string a0, .int .u8 a1] args'.toList) :
    Calls Try.prog 9 args' W fun e w' => e = .returned (.bool true) ∧ Stays W w' :=
  calls_of_ends (all a0 a1 (by simp [Lit.wf, IntKind.min, IntKind.max, IntKind.bits, IntKind.signed] at w1; omega)) (by kernel_rfl) rfl ha

theorem own : ownKnob Try.prog.godebug = none := by kernel_rfl
theorem laid : laidOutB Try.prog = true := by kernel_rfl

set_option maxRecDepth 100000 in
theorem lifted (os : Os) (started : os.Started) (H : Type) (enc : TypeId × Value → H) :
    ReturnsInHanded {} Try.checked os 9 .any (Rows.utfStopsSpec.pre6 enc Try.prog Try.f9 Rows.utfStopsRow.domain false) (Rows.utfStopsSpec.post enc Try.prog Try.f9 false true false false) := by
  refine returnsInHanded_of_change (C := Try.checked) own started (by kernel_rfl) Try.func9
    (ChangeSpec.witness6 (enc := enc) (C := Try.checked) false ⟨#[], #[.string ⟨#[]⟩, .int .u8 0], []⟩ 8 (by kernel_rfl) (by kernel_rfl) (by kernel_rfl) (by kernel_rfl)) ?_
  intro W base args ds gs before hval0 hW hcnd _
  have hval : ∀ (j : Nat) t v, Try.f9.params[j]? = some t → args[j]? = some v → Value.okWide Try.prog W .any base t v := hval0
  have hW' := hW
  obtain ⟨p, q, hA0, hV, rfl, hfz, hnd⟩ := hW
  have hA : DataW.TrodAll enc Try.prog W 0 (fun _ => true) true Try.f9.params.toList args.toList ds p := hA0
  rw [Try.params9] at hA hval
  obtain ⟨v0, vs0, d0, ds0, p0, q0, hargs, rfl, rfl, h0, r0⟩ := trodAll_cons hA
  obtain ⟨v1, vs1, d1, ds1, p1, q1, rfl, rfl, rfl, h1, r1⟩ := trodAll_cons r0
  obtain ⟨rfl, rfl, rfl⟩ := trodAll_nil r1
  obtain rfl : args = #[v0, v1] := by cases args; simp_all
  obtain ⟨a0, x0, w0⟩ := read_string Try.underlying9 (hval 0 9 v0 rfl rfl) h0
  obtain ⟨a1, x1, w1⟩ := read_int Try.underlying5 (hval 1 5 v1 rfl rfl) h1
  refine (walk a0 w0 a1 w1 W _ (fun ρ => .cons (x0 _ _) (.cons (x1 _ _) (.nil)))).mono fun e W' ⟨he, hg⟩ => ?_
  subst he
  exact ⟨_, rfl, post_law (tb := 4) laid (by rw [Try.params9]; intro t ht; simp only [List.mem_cons, List.not_mem_nil, or_false] at ht; rcases ht with rfl | rfl <;> exact ⟨by kernel_rfl, by decide +kernel⟩) rfl (by kernel_rfl) Try.underlying4 (by rintro _ rfl; rfl) hW' hg⟩

theorem over : Rows.utfStopsRow.holds Try.pinned (OpenSpec.ofChange Rows.utfStopsSpec) :=
  OpenClaim.holds_of_wide 9 Try.f9 rfl rfl rfl rfl rfl rfl rfl ⟨rfl, rfl, rfl, rfl, rfl⟩ rfl rfl rfl rfl rfl (by kernel_rfl) Try.func9 (by kernel_rfl)
    (of_decide_eq_true (by kernel_rfl)) (by unfold Func.isWrapper; first | (rw [if_pos (by decide +kernel)]; kernel_rfl) | (rw [if_neg (by decide +kernel)]; exact ⟨rfl, rfl⟩))
    (fun os started H enc _ => lifted os started H enc)

theorem proved : Rows.UtfStopsSaid :=
  over


end Go.Proofs.Ytadpggfmogjddaa.utfStops
