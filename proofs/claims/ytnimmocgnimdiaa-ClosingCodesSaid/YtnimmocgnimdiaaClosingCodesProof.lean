/-
  PROVED: the law ClosingCodes hands back true at every input, and its arguments read behind the call as they read before.
-/
import Derived.Test.YtnimmocgnimdiaaRows
import Derived.Test.YtnimmocgnimdiaaClosingD
set_option linter.unusedVariables false
set_option linter.unusedSimpArgs false
open Go Go.Am Go.ChangeShapes Go.WideShapes Go.ChangeAt Go.RowKit
namespace Go.Proofs.Ytnimmocgnimdiaa.closingCodes
theorem run (a : Int) (s : ByteArray) (hs : slen s ≤ 200) : ∀ (n : Nat) (i : Int), i + n = 256 → 0 ≤ i → AEnds E 4 0 (ccodes_h1 a s i) (.bool true) []
  | 0, i, hi, h0 => by
    have hS : ccodes_S1 a s i := by unfold ccodes_S1; rw [decide_eq_false (show ¬ (i < 256) by omega)]; exact ⟨(fun h => by cases h), fun _ => trivial⟩
    have h := ccodes_ok1 a s i hS
    unfold ccodes_t1 at h
    rw [decide_eq_false (show ¬ (i < 256) by omega), cond_false] at h
    exact ccodes_end h
  | n + 1, i, hi, h0 => by
    have hS : ccodes_S1 a s i := by
      unfold ccodes_S1
      rw [bytesOf_len]
      refine ⟨fun _ => ⟨trivial, ?_⟩, fun _ => trivial⟩
      show 2 + slen s ≤ 9223372036854775807
      omega
    have h := ccodes_ok1 a s i hS
    unfold ccodes_t1 at h
    rw [decide_eq_true (show (i < 256) by omega), wrap64_in (x := i + 1) (by omega) (by omega), cond_true] at h
    exact (ccodes_go1 h).ends (run a s hs n (i + 1) (by omega) (by omega))
theorem all (a : Int) (_ : 0 ≤ a ∧ a ≤ 255) (s : ByteArray) : AEnds E 4 0 (startC E 4 [.int .u8 a, .string s] []) (.bool true) [] := by
  have ha := awake_safe
  have h := ccodes_ok0 a s (by unfold ccodes_S0; simp [ha])
  unfold ccodes_t0 at h
  by_cases c1 : 200 < (slen s : Int)
  · rw [decide_eq_true c1] at h
    exact ccodes_end h
  · rw [decide_eq_false c1] at h
    exact (ccodes_go1 h).ends (run a s (by omega) 256 0 (by omega) (by omega))

theorem walk (a0 : Int) (w0 : (Lit.int .u8 a0).wf = true) (a1 : ByteArray) (w1 : a1.size ≤ maxLen) (W : World) (args' : Array Value)
    (ha : ∀ ρ, VL (prOf W) (AN []) ρ [.int .u8 a0, .string a1] args'.toList) :
    Calls Try.prog 4 args' W fun e w' => e = .returned (.bool true) ∧ Stays W w' :=
  calls_of_ends (all a0 (by simp [Lit.wf, IntKind.min, IntKind.max, IntKind.bits, IntKind.signed] at w0; omega) a1) (by kernel_rfl) rfl ha

theorem own : ownKnob Try.prog.godebug = none := by kernel_rfl
theorem laid : laidOutB Try.prog = true := by kernel_rfl

set_option maxRecDepth 100000 in
theorem lifted (os : Os) (started : os.Started) (H : Type) (enc : TypeId × Value → H) :
    ReturnsInHanded {} Try.checked os 4 .any (Rows.closingCodesSpec.pre6 enc Try.prog Try.f4 Rows.closingCodesRow.domain false) (Rows.closingCodesSpec.post enc Try.prog Try.f4 false true false false) := by
  refine returnsInHanded_of_change (C := Try.checked) own started (by kernel_rfl) Try.func4
    (ChangeSpec.witness6 (enc := enc) (C := Try.checked) false ⟨#[], #[.int .u8 0, .string ⟨#[]⟩], []⟩ 8 (by kernel_rfl) (by kernel_rfl) (by kernel_rfl) (by kernel_rfl)) ?_
  intro W base args ds gs before hval0 hW hcnd _
  have hval : ∀ (j : Nat) t v, Try.f4.params[j]? = some t → args[j]? = some v → Value.okWide Try.prog W .any base t v := hval0
  have hW' := hW
  obtain ⟨p, q, hA0, hV, rfl, hfz, hnd⟩ := hW
  have hA : DataW.TrodAll enc Try.prog W 0 (fun _ => true) true Try.f4.params.toList args.toList ds p := hA0
  rw [Try.params4] at hA hval
  obtain ⟨v0, vs0, d0, ds0, p0, q0, hargs, rfl, rfl, h0, r0⟩ := trodAll_cons hA
  obtain ⟨v1, vs1, d1, ds1, p1, q1, rfl, rfl, rfl, h1, r1⟩ := trodAll_cons r0
  obtain ⟨rfl, rfl, rfl⟩ := trodAll_nil r1
  obtain rfl : args = #[v0, v1] := by cases args; simp_all
  obtain ⟨a0, x0, w0⟩ := read_int Try.underlying5 (hval 0 5 v0 rfl rfl) h0
  obtain ⟨a1, x1, w1⟩ := read_string Try.underlying9 (hval 1 9 v1 rfl rfl) h1
  refine (walk a0 w0 a1 w1 W _ (fun ρ => .cons (x0 _ _) (.cons (x1 _ _) (.nil)))).mono fun e W' ⟨he, hg⟩ => ?_
  subst he
  exact ⟨_, rfl, post_law (tb := 4) laid (by rw [Try.params4]; intro t ht; simp only [List.mem_cons, List.not_mem_nil, or_false] at ht; rcases ht with rfl | rfl <;> exact ⟨by kernel_rfl, by decide +kernel⟩) rfl (by kernel_rfl) Try.underlying4 (by rintro _ rfl; rfl) hW' hg⟩

theorem over : Rows.closingCodesRow.holds Try.pinned (OpenSpec.ofChange Rows.closingCodesSpec) :=
  OpenClaim.holds_of_wide 4 Try.f4 rfl rfl rfl rfl rfl rfl rfl ⟨rfl, rfl, rfl, rfl, rfl⟩ rfl rfl rfl rfl rfl (by kernel_rfl) Try.func4 (by kernel_rfl)
    (of_decide_eq_true (by kernel_rfl)) (by unfold Func.isWrapper; first | (rw [if_pos (by decide +kernel)]; kernel_rfl) | (rw [if_neg (by decide +kernel)]; exact ⟨rfl, rfl⟩))
    (fun os started H enc _ => lifted os started H enc)

theorem proved : Rows.ClosingCodesSaid :=
  over


end Go.Proofs.Ytnimmocgnimdiaa.closingCodes
