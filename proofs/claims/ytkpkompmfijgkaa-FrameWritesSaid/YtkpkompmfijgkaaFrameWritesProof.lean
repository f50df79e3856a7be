/-
  PROVED: the law FrameWrites hands back true at every input, and its arguments read behind the call as they read before.
-/
import Derived.Test.YtkpkompmfijgkaaRows
import Derived.Test.YtkpkompmfijgkaaFrameK
set_option linter.unusedVariables false
set_option linter.unusedSimpArgs false
open Go Go.Am Go.ChangeShapes Go.WideShapes Go.ChangeAt Go.RowKit
namespace Go.Proofs.Ytkpkompmfijgkaa.frameWrites
theorem all (fin : Bool) (rsv : Int) (_ : -9223372036854775808 ≤ rsv ∧ rsv ≤ 9223372036854775807) (op : Int) (_ : -9223372036854775808 ≤ op ∧ op ≤ 9223372036854775807) (masked : Bool) (k0 : Int) (_ : 0 ≤ k0 ∧ k0 ≤ 255) (k1 : Int) (_ : 0 ≤ k1 ∧ k1 ≤ 255) (k2 : Int) (_ : 0 ≤ k2 ∧ k2 ≤ 255) (k3 : Int) (_ : 0 ≤ k3 ∧ k3 ≤ 255) (d : ByteArray) :
    AEnds E 3 0 (startC E 3 [.agg #[.bool fin, .int .i64 rsv, .int .i64 op, .bool masked, .int .u8 k0, .int .u8 k1, .int .u8 k2, .int .u8 k3, .string d]] []) (.bool true) [] := by
  have ha := awake_safe
  by_cases c1 : 70000 < (slen d : Int)
  · have h := writes_ok0 fin rsv op masked k0 k1 k2 k3 d (by unfold writes_S0; rw [decide_eq_true c1]; simp [ha])
    unfold writes_t0 at h
    rw [decide_eq_true c1] at h
    exact h
  · have p1 : fbytesc_pre fin rsv op masked k0 k1 k2 k3 d := by unfold fbytesc_pre; omega
    have p2 : rfbytesc_pre fin rsv op masked k0 k1 k2 k3 d := by unfold rfbytesc_pre; omega
    have h := writes_ok0 fin rsv op masked k0 k1 k2 k3 d (by unfold writes_S0; simp [ha, p1, p2])
    unfold writes_t0 at h
    rw [decide_eq_false c1] at h
    simp at h
    exact h

theorem walk (a0_0 : Bool) (a0_1 : Int) (w0_1 : (Lit.int .i64 a0_1).wf = true) (a0_2 : Int) (w0_2 : (Lit.int .i64 a0_2).wf = true) (a0_3 : Bool) (a0_4 : Int) (w0_4 : (Lit.int .u8 a0_4).wf = true) (a0_5 : Int) (w0_5 : (Lit.int .u8 a0_5).wf = true) (a0_6 : Int) (w0_6 : (Lit.int .u8 a0_6).wf = true) (a0_7 : Int) (w0_7 : (Lit.int .u8 a0_7).wf = true) (a0_8 : ByteArray) (w0_8 : a0_8.size ≤ maxLen) (W : World) (args' : Array Value)
    (ha : ∀ ρ, VL (prOf W) (AN []) ρ [.agg #[.bool a0_0, .int .i64 a0_1, .int .i64 a0_2, .bool a0_3, .int .u8 a0_4, .int .u8 a0_5, .int .u8 a0_6, .int .u8 a0_7, .string a0_8]] args'.toList) :
    Calls Try.prog 3 args' W fun e w' => e = .returned (.bool true) ∧ Stays W w' :=
  calls_of_ends (all a0_0 a0_1 (by simp [Lit.wf, IntKind.min, IntKind.max, IntKind.bits, IntKind.signed] at w0_1; omega) a0_2 (by simp [Lit.wf, IntKind.min, IntKind.max, IntKind.bits, IntKind.signed] at w0_2; omega) a0_3 a0_4 (by simp [Lit.wf, IntKind.min, IntKind.max, IntKind.bits, IntKind.signed] at w0_4; omega) a0_5 (by simp [Lit.wf, IntKind.min, IntKind.max, IntKind.bits, IntKind.signed] at w0_5; omega) a0_6 (by simp [Lit.wf, IntKind.min, IntKind.max, IntKind.bits, IntKind.signed] at w0_6; omega) a0_7 (by simp [Lit.wf, IntKind.min, IntKind.max, IntKind.bits, IntKind.signed] at w0_7; omega) a0_8) (by kernel_rfl) rfl ha

theorem own : ownKnob Try.prog.godebug = none := by kernel_rfl
theorem laid : laidOutB Try.prog = true := by kernel_rfl

set_option maxRecDepth 100000 in
theorem lifted (os : Os) (started : os.Started) (H : Type) (enc : TypeId × Value → H) :
    ReturnsInHanded {} Try.checked os 3 .any (Rows.frameWritesSpec.pre6 enc Try.prog Try.f3 Rows.frameWritesRow.domain false) (Rows.frameWritesSpec.post enc Try.prog Try.f3 false true false false) := by
  refine returnsInHanded_of_change (C := Try.checked) own started (by kernel_rfl) Try.func3
    (ChangeSpec.witness6 (enc := enc) (C := Try.checked) false ⟨#[], #[.agg #[.bool false, .int .i64 0, .int .i64 0, .bool false, .int .u8 0, .int .u8 0, .int .u8 0, .int .u8 0, .string ⟨#[]⟩]], []⟩ 8 (by kernel_rfl) (by kernel_rfl) (by kernel_rfl) (by kernel_rfl)) ?_
  intro W base args ds gs before hval0 hW hcnd _
  have hval : ∀ (j : Nat) t v, Try.f3.params[j]? = some t → args[j]? = some v → Value.okWide Try.prog W .any base t v := hval0
  have hW' := hW
  obtain ⟨p, q, hA0, hV, rfl, hfz, hnd⟩ := hW
  have hA : DataW.TrodAll enc Try.prog W 0 (fun _ => true) true Try.f3.params.toList args.toList ds p := hA0
  rw [Try.params3] at hA hval
  obtain ⟨v0, vs0, d0, ds0, p0, q0, hargs, rfl, rfl, h0, r0⟩ := trodAll_cons hA
  obtain ⟨rfl, rfl, rfl⟩ := trodAll_nil r0
  obtain rfl : args = #[v0] := by cases args; simp_all
  obtain ⟨vs0_, hl0, rfl, x0⟩ := read_agg (ls := [.bool, .int .i64, .int .i64, .bool, .int .u8, .int .u8, .int .u8, .int .u8, .str]) (ts := [4, 3, 3, 4, 5, 5, 5, 5, 9]) (.inl ⟨_, Try.underlying24⟩) (by kernel_rfl) (by kernel_rfl) ⟨Try.underlying4, Try.underlying3, Try.underlying3, Try.underlying4, Try.underlying5, Try.underlying5, Try.underlying5, Try.underlying5, Try.underlying9, rfl⟩ (hval 0 24 v0 rfl rfl)
  obtain ⟨_, _, rfl, ⟨a0_0, rfl⟩, _, _, rfl, ⟨a0_1, rfl, w0_1⟩, _, _, rfl, ⟨a0_2, rfl, w0_2⟩, _, _, rfl, ⟨a0_3, rfl⟩, _, _, rfl, ⟨a0_4, rfl, w0_4⟩, _, _, rfl, ⟨a0_5, rfl, w0_5⟩, _, _, rfl, ⟨a0_6, rfl, w0_6⟩, _, _, rfl, ⟨a0_7, rfl, w0_7⟩, _, _, rfl, ⟨a0_8, rfl, w0_8⟩, rfl⟩ := hl0
  refine (walk a0_0 a0_1 w0_1 a0_2 w0_2 a0_3 a0_4 w0_4 a0_5 w0_5 a0_6 w0_6 a0_7 w0_7 a0_8 w0_8 W _ (fun ρ => .cons (x0 _ _) (.nil))).mono fun e W' ⟨he, hg⟩ => ?_
  subst he
  exact ⟨_, rfl, post_law (tb := 4) laid (by rw [Try.params3]; intro t ht; simp only [List.mem_cons, List.not_mem_nil, or_false] at ht; subst ht; exact ⟨by kernel_rfl, by decide +kernel⟩) rfl (by kernel_rfl) Try.underlying4 (by rintro _ rfl; rfl) hW' hg⟩

theorem over : Rows.frameWritesRow.holds Try.pinned (OpenSpec.ofChange Rows.frameWritesSpec) :=
  OpenClaim.holds_of_wide 3 Try.f3 rfl rfl rfl rfl rfl rfl rfl ⟨rfl, rfl, rfl, rfl, rfl⟩ rfl rfl rfl rfl rfl (by kernel_rfl) Try.func3 (by kernel_rfl)
    (of_decide_eq_true (by kernel_rfl)) (by unfold Func.isWrapper; first | (rw [if_pos (by decide +kernel)]; kernel_rfl) | (rw [if_neg (by decide +kernel)]; exact ⟨rfl, rfl⟩))
    (fun os started H enc _ => lifted os started H enc)

theorem proved : Rows.FrameWritesSaid :=
  over


end Go.Proofs.Ytkpkompmfijgkaa.frameWrites
