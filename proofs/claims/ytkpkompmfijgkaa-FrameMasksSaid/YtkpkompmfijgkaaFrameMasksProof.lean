/-
  PROVED: the law FrameMasks hands back true at every input, and its arguments read behind the call as they read before.
-/
import Derived.Test.YtkpkompmfijgkaaRows
import Derived.Test.YtkpkompmfijgkaaFrameK
set_option linter.unusedVariables false
set_option linter.unusedSimpArgs false
open Go Go.Am Go.ChangeShapes Go.WideShapes Go.ChangeAt Go.RowKit
namespace Go.Proofs.Ytkpkompmfijgkaa.frameMasks
theorem all (k0 : Int) (_ : 0 ≤ k0 ∧ k0 ≤ 255) (k1 : Int) (_ : 0 ≤ k1 ∧ k1 ≤ 255) (k2 : Int) (_ : 0 ≤ k2 ∧ k2 ≤ 255) (k3 : Int) (_ : 0 ≤ k3 ∧ k3 ≤ 255) (at' : Int) (hat : -9223372036854775808 ≤ at' ∧ at' ≤ 9223372036854775807) (s : ByteArray) :
    AEnds E 6 0 (startC E 6 [.agg #[.int .u8 k0, .int .u8 k1, .int .u8 k2, .int .u8 k3], .int .i64 at', .string s] []) (.bool true) [] := by
  have ha := awake_safe
  by_cases c1 : 5000 < (slen s : Int)
  · have h := masks_ok0 k0 k1 k2 k3 at' s (by unfold masks_S0; rw [decide_eq_true c1]; simp [ha])
    unfold masks_t0 at h
    rw [decide_eq_true c1] at h
    exact h
  · have p1 : mask_pre k0 k1 k2 k3 at' s := ⟨by omega, by omega⟩
    have p2 : rmask_pre k0 k1 k2 k3 at' s := ⟨by omega, by omega⟩
    have h := masks_ok0 k0 k1 k2 k3 at' s (by unfold masks_S0; simp [ha, p1, p2])
    unfold masks_t0 at h
    rw [decide_eq_false c1] at h
    simp at h
    exact h

theorem walk (a0_0 : Int) (w0_0 : (Lit.int .u8 a0_0).wf = true) (a0_1 : Int) (w0_1 : (Lit.int .u8 a0_1).wf = true) (a0_2 : Int) (w0_2 : (Lit.int .u8 a0_2).wf = true) (a0_3 : Int) (w0_3 : (Lit.int .u8 a0_3).wf = true) (a1 : Int) (w1 : (Lit.int .i64 a1).wf = true) (a2 : ByteArray) (w2 : a2.size ≤ maxLen) (W : World) (args' : Array Value)
    (ha : ∀ ρ, VL (prOf W) (AN []) ρ [.agg #[.int .u8 a0_0, .int .u8 a0_1, .int .u8 a0_2, .int .u8 a0_3], .int .i64 a1, .string a2] args'.toList) :
    Calls Try.prog 6 args' W fun e w' => e = .returned (.bool true) ∧ Stays W w' :=
  calls_of_ends (all a0_0 (by simp [Lit.wf, IntKind.min, IntKind.max, IntKind.bits, IntKind.signed] at w0_0; omega) a0_1 (by simp [Lit.wf, IntKind.min, IntKind.max, IntKind.bits, IntKind.signed] at w0_1; omega) a0_2 (by simp [Lit.wf, IntKind.min, IntKind.max, IntKind.bits, IntKind.signed] at w0_2; omega) a0_3 (by simp [Lit.wf, IntKind.min, IntKind.max, IntKind.bits, IntKind.signed] at w0_3; omega) a1 (by simp [Lit.wf, IntKind.min, IntKind.max, IntKind.bits, IntKind.signed] at w1; omega) a2) (by kernel_rfl) rfl ha

theorem own : ownKnob Try.prog.godebug = none := by kernel_rfl
theorem laid : laidOutB Try.prog = true := by kernel_rfl

set_option maxRecDepth 100000 in
theorem lifted (os : Os) (started : os.Started) (H : Type) (enc : TypeId × Value → H) :
    ReturnsInHanded {} Try.checked os 6 .any (Rows.frameMasksSpec.pre6 enc Try.prog Try.f6 Rows.frameMasksRow.domain false) (Rows.frameMasksSpec.post enc Try.prog Try.f6 false true false false) := by
  refine returnsInHanded_of_change (C := Try.checked) own started (by kernel_rfl) Try.func6
    (ChangeSpec.witness6 (enc := enc) (C := Try.checked) false ⟨#[], #[.agg #[.int .u8 0, .int .u8 0, .int .u8 0, .int .u8 0], .int .i64 0, .string ⟨#[]⟩], []⟩ 8 (by kernel_rfl) (by kernel_rfl) (by kernel_rfl) (by kernel_rfl)) ?_
  intro W base args ds gs before hval0 hW hcnd _
  have hval : ∀ (j : Nat) t v, Try.f6.params[j]? = some t → args[j]? = some v → Value.okWide Try.prog W .any base t v := hval0
  have hW' := hW
  obtain ⟨p, q, hA0, hV, rfl, hfz, hnd⟩ := hW
  have hA : DataW.TrodAll enc Try.prog W 0 (fun _ => true) true Try.f6.params.toList args.toList ds p := hA0
  rw [Try.params6] at hA hval
  obtain ⟨v0, vs0, d0, ds0, p0, q0, hargs, rfl, rfl, h0, r0⟩ := trodAll_cons hA
  obtain ⟨v1, vs1, d1, ds1, p1, q1, rfl, rfl, rfl, h1, r1⟩ := trodAll_cons r0
  obtain ⟨v2, vs2, d2, ds2, p2, q2, rfl, rfl, rfl, h2, r2⟩ := trodAll_cons r1
  obtain ⟨rfl, rfl, rfl⟩ := trodAll_nil r2
  obtain rfl : args = #[v0, v1, v2] := by cases args; simp_all
  obtain ⟨vs0_, hl0, rfl, x0⟩ := read_agg (ls := [.int .u8, .int .u8, .int .u8, .int .u8]) (ts := [5, 5, 5, 5]) (.inr ⟨_, _, Try.underlying22⟩) (by kernel_rfl) (by kernel_rfl) ⟨Try.underlying5, Try.underlying5, Try.underlying5, Try.underlying5, rfl⟩ (hval 0 22 v0 rfl rfl)
  obtain ⟨_, _, rfl, ⟨a0_0, rfl, w0_0⟩, _, _, rfl, ⟨a0_1, rfl, w0_1⟩, _, _, rfl, ⟨a0_2, rfl, w0_2⟩, _, _, rfl, ⟨a0_3, rfl, w0_3⟩, rfl⟩ := hl0
  obtain ⟨a1, x1, w1⟩ := read_int Try.underlying3 (hval 1 3 v1 rfl rfl) h1
  obtain ⟨a2, x2, w2⟩ := read_string Try.underlying9 (hval 2 9 v2 rfl rfl) h2
  refine (walk a0_0 w0_0 a0_1 w0_1 a0_2 w0_2 a0_3 w0_3 a1 w1 a2 w2 W _ (fun ρ => .cons (x0 _ _) (.cons (x1 _ _) (.cons (x2 _ _) (.nil))))).mono fun e W' ⟨he, hg⟩ => ?_
  subst he
  exact ⟨_, rfl, post_law (tb := 4) laid (by rw [Try.params6]; intro t ht; simp only [List.mem_cons, List.not_mem_nil, or_false] at ht; rcases ht with rfl | rfl | rfl <;> exact ⟨by kernel_rfl, by decide +kernel⟩) rfl (by kernel_rfl) Try.underlying4 (by rintro _ rfl; rfl) hW' hg⟩

theorem over : Rows.frameMasksRow.holds Try.pinned (OpenSpec.ofChange Rows.frameMasksSpec) :=
  OpenClaim.holds_of_wide 6 Try.f6 rfl rfl rfl rfl rfl rfl rfl ⟨rfl, rfl, rfl, rfl, rfl⟩ rfl rfl rfl rfl rfl (by kernel_rfl) Try.func6 (by kernel_rfl)
    (of_decide_eq_true (by kernel_rfl)) (by unfold Func.isWrapper; first | (rw [if_pos (by decide +kernel)]; kernel_rfl) | (rw [if_neg (by decide +kernel)]; exact ⟨rfl, rfl⟩))
    (fun os started H enc _ => lifted os started H enc)

theorem proved : Rows.FrameMasksSaid :=
  over


end Go.Proofs.Ytkpkompmfijgkaa.frameMasks
