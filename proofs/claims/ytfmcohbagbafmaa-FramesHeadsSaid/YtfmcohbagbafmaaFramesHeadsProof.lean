/-
  PROVED: the law FramesHeads hands back true at every input, and its arguments read behind the call as they read before.
-/
import Derived.Test.YtfmcohbagbafmaaRows
import Derived.Test.YtfmcohbagbafmaaFramesN
set_option linter.unusedVariables false
set_option linter.unusedSimpArgs false
open Go Go.Am Go.ChangeShapes Go.WideShapes Go.ChangeAt Go.RowKit
namespace Go.Proofs.Ytfmcohbagbafmaa.framesHeads
theorem slen_cat (a b : ByteArray) : slen (cat a b) = slen a + slen b := by simp [slen, cat, toL, ofL]
theorem bytesOf_len (l : List Value) : slen (bytesOf l) = l.length := by simp [slen, bytesOf, toL, ofL]
theorem all (a : Int) (_ : 0 ≤ a ∧ a ≤ 255) (b : Int) (_ : 0 ≤ b ∧ b ≤ 255) (s : ByteArray) (m : Bool) : AEnds E 6 0 (startC E 6 [.int .u8 a, .int .u8 b, .string s, .bool m] []) (.bool true) [] := by
  have ha := awake_safe
  have p (s : ByteArray) (m : Bool) : ftellc_pre s m := trivial
  have h2 : slen (bytesOf [Value.int IntKind.u8 a, Value.int IntKind.u8 b]) = 2 := by rw [bytesOf_len]; rfl
  have h := fheads_ok0 a b s m (by
    unfold fheads_S0
    by_cases c1 : 300 < (slen s : Int)
    · rw [decide_eq_true c1]; simp [ha]
    · have e1 : slen ⟨#[127, 255, 255, 255, 255, 255, 255, 255]⟩ = 8 := rfl
      have e2 : slen ⟨#[128, 0, 0, 0, 0, 0, 0, 0]⟩ = 8 := rfl
      have e3 : slen ⟨#[0, 126]⟩ = 2 := rfl
      simp only [slen_cat, h2, e1, e2, e3]
      simp [ha, p]; omega)
  exact h

theorem walk (a0 : Int) (w0 : (Lit.int .u8 a0).wf = true) (a1 : Int) (w1 : (Lit.int .u8 a1).wf = true) (a2 : ByteArray) (w2 : a2.size ≤ maxLen) (a3 : Bool) (W : World) (args' : Array Value)
    (ha : ∀ ρ, VL (prOf W) (AN []) ρ [.int .u8 a0, .int .u8 a1, .string a2, .bool a3] args'.toList) :
    Calls Try.prog 6 args' W fun e w' => e = .returned (.bool true) ∧ Stays W w' :=
  calls_of_ends (all a0 (by simp [Lit.wf, IntKind.min, IntKind.max, IntKind.bits, IntKind.signed] at w0; omega) a1 (by simp [Lit.wf, IntKind.min, IntKind.max, IntKind.bits, IntKind.signed] at w1; omega) a2 a3) (by kernel_rfl) rfl ha

theorem own : ownKnob Try.prog.godebug = none := by kernel_rfl
theorem laid : laidOutB Try.prog = true := by kernel_rfl

set_option maxRecDepth 100000 in
theorem lifted (os : Os) (started : os.Started) (H : Type) (enc : TypeId × Value → H) :
    ReturnsInHanded {} Try.checked os 6 .any (Rows.framesHeadsSpec.pre6 enc Try.prog Try.f6 Rows.framesHeadsRow.domain false) (Rows.framesHeadsSpec.post enc Try.prog Try.f6 false true false false) := by
  refine returnsInHanded_of_change (C := Try.checked) own started (by kernel_rfl) Try.func6
    (ChangeSpec.witness6 (enc := enc) (C := Try.checked) false ⟨#[], #[.int .u8 0, .int .u8 0, .string ⟨#[]⟩, .bool false], []⟩ 8 (by kernel_rfl) (by kernel_rfl) (by kernel_rfl) (by kernel_rfl)) ?_
  intro W base args ds gs before hval0 hW hcnd _
  have hval : ∀ (j : Nat) t v, Try.f6.params[j]? = some t → args[j]? = some v → Value.okWide Try.prog W .any base t v := hval0
  have hW' := hW
  obtain ⟨p, q, hA0, hV, rfl, hfz, hnd⟩ := hW
  have hA : DataW.TrodAll enc Try.prog W 0 (fun _ => true) true Try.f6.params.toList args.toList ds p := hA0
  rw [Try.params6] at hA hval
  obtain ⟨v0, vs0, d0, ds0, p0, q0, hargs, rfl, rfl, h0, r0⟩ := trodAll_cons hA
  obtain ⟨v1, vs1, d1, ds1, p1, q1, rfl, rfl, rfl, h1, r1⟩ := trodAll_cons r0
  obtain ⟨v2, vs2, d2, ds2, p2, q2, rfl, rfl, rfl, h2, r2⟩ := trodAll_cons r1
  obtain ⟨v3, vs3, d3, ds3, p3, q3, rfl, rfl, rfl, h3, r3⟩ := trodAll_cons r2
  obtain ⟨rfl, rfl, rfl⟩ := trodAll_nil r3
  obtain rfl : args = #[v0, v1, v2, v3] := by cases args; simp_all
  obtain ⟨a0, x0, w0⟩ := read_int Try.underlying5 (hval 0 5 v0 rfl rfl) h0
  obtain ⟨a1, x1, w1⟩ := read_int Try.underlying5 (hval 1 5 v1 rfl rfl) h1
  obtain ⟨a2, x2, w2⟩ := read_string Try.underlying9 (hval 2 9 v2 rfl rfl) h2
  obtain ⟨a3, x3⟩ := read_bool (H := H) (d := d3) (p := p3) Try.underlying4 (hval 3 4 v3 rfl rfl)
  refine (walk a0 w0 a1 w1 a2 w2 a3 W _ (fun ρ => .cons (x0 _ _) (.cons (x1 _ _) (.cons (x2 _ _) (.cons (x3 _ _) (.nil)))))).mono fun e W' ⟨he, hg⟩ => ?_
  subst he
  exact ⟨_, rfl, post_law (tb := 4) laid (by rw [Try.params6]; intro t ht; simp only [List.mem_cons, List.not_mem_nil, or_false] at ht; rcases ht with rfl | rfl | rfl | rfl <;> exact ⟨by kernel_rfl, by decide +kernel⟩) rfl (by kernel_rfl) Try.underlying4 (by rintro _ rfl; rfl) hW' hg⟩

theorem over : Rows.framesHeadsRow.holds Try.pinned (OpenSpec.ofChange Rows.framesHeadsSpec) :=
  OpenClaim.holds_of_wide 6 Try.f6 rfl rfl rfl rfl rfl rfl rfl ⟨rfl, rfl, rfl, rfl, rfl⟩ rfl rfl rfl rfl rfl (by kernel_rfl) Try.func6 (by kernel_rfl)
    (of_decide_eq_true (by kernel_rfl)) (by unfold Func.isWrapper; first | (rw [if_pos (by decide +kernel)]; kernel_rfl) | (rw [if_neg (by decide +kernel)]; exact ⟨rfl, rfl⟩))
    (fun os started H enc _ => lifted os started H enc)

theorem proved : Rows.FramesHeadsSaid :=
  over


end Go.Proofs.Ytfmcohbagbafmaa.framesHeads
