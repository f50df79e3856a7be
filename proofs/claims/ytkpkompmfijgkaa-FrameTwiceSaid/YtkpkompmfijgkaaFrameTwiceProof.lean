/-
  PROVED: the law FrameTwice hands back true at every input, and its arguments read behind the call as they read before.
-/
import Derived.Test.YtkpkompmfijgkaaRows
import Derived.Test.YtkpkompmfijgkaaFrameJb
import Derived.Test.YtkpkompmfijgkaaFrameL
set_option linter.unusedVariables false
set_option linter.unusedSimpArgs false
open Go Go.Am Go.ChangeShapes Go.WideShapes Go.ChangeAt Go.RowKit
namespace Go.Proofs.Ytkpkompmfijgkaa.frameTwice
theorem all (k0 : Int) (h0 : 0 ≤ k0 ∧ k0 ≤ 255) (k1 : Int) (h1 : 0 ≤ k1 ∧ k1 ≤ 255) (k2 : Int) (h2 : 0 ≤ k2 ∧ k2 ≤ 255) (k3 : Int) (h3 : 0 ≤ k3 ∧ k3 ≤ 255) (at' : Int) (hat : 0 ≤ at' ∧ at' ≤ 65535) (s t : ByteArray) :
    AEnds E 8 0 (startC E 8 [.agg #[.int .u8 k0, .int .u8 k1, .int .u8 k2, .int .u8 k3], .int .u16 at', .string s, .string t] []) (.bool true) [] := by
  have ha := awake_safe
  by_cases c1 : 3000 < (slen s : Int)
  · have h := twice_ok0 k0 k1 k2 k3 at' s t (by unfold twice_S0; rw [decide_eq_true c1]; simp [ha])
    unfold twice_t0 at h
    rw [decide_eq_true c1] at h
    exact h
  by_cases c2 : 3000 < (slen t : Int)
  · have h := twice_ok0 k0 k1 k2 k3 at' s t (by unfold twice_S0; rw [decide_eq_false c1, decide_eq_true c2]; simp [ha])
    unfold twice_t0 at h
    rw [decide_eq_false c1, decide_eq_true c2] at h
    exact h
  have p (a b c d at' : Int) (s : ByteArray) (h1 : slen s ≤ 6000) (h2 : at' < 9223372036854775808) : mask_pre a b c d at' s := ⟨by omega, h2⟩
  have hk := keyOk4 h0 h1 h2 h3
  obtain ⟨n, rfl⟩ : ∃ n : Nat, at' = n := ⟨at'.toNat, by omega⟩
  have w1 : IntKind.i64.wrap (n : Int) = n := wrap64_in (by omega) (by omega)
  have w2 : IntKind.i64.wrap ((n : Int) + slen s) = ((n + slen s : Nat) : Int) := by rw [wrap64_in (by omega) (by omega)]; omega
  have w3 : IntKind.i64.wrap ((n : Int) + 4) = ((n + 4 : Nat) : Int) := by rw [wrap64_in (by omega) (by omega)]; omega
  have w4 : IntKind.i64.wrap (-1 - (n : Int)) = -1 - n := wrap64_in (by omega) (by omega)
  have hS : twice_S0 k0 k1 k2 k3 n s t := by
    unfold twice_S0
    simp only [w1, w2, w3, w4, slen_cat, maskD_len]
    have q1 := p k0 k1 k2 k3 n s (by omega) (by omega)
    have q2 := p k0 k1 k2 k3 n (maskD [k0, k1, k2, k3] n s) (by rw [maskD_len]; omega) (by omega)
    have q3 := p k0 k1 k2 k3 n (cat s t) (by rw [slen_cat]; omega) (by omega)
    have q4 := p k0 k1 k2 k3 ((n + slen s : Nat) : Int) t (by omega) (by omega)
    have q5 := p k0 k1 k2 k3 ((n + 4 : Nat) : Int) s (by omega) (by omega)
    have q6 := p 0 0 0 0 n s (by omega) (by omega)
    have q7 := p k0 k1 k2 k3 (-1 - n) s (by omega) (by omega)
    have q8 : slen s + slen t ≤ 9223372036854775807 := by omega
    simp only [beq_self_eq_true, q1, q2, q3, q4, q5, q6, q7, q8, ha, and_self, implies_true]
  have h := twice_ok0 k0 k1 k2 k3 n s t hS
  have ht : twice_t0 k0 k1 k2 k3 n s t = true := by
    unfold twice_t0
    rw [decide_eq_false c1, decide_eq_false c2]
    simp only [w1, w2, w3, w4]
    simp only [maskD_nat, toL_ofL, toL_cat, maskL_twice hk, maskL_four, maskL_zero, slen_ofL, maskL_len, maskL_append]
    have e : maskD [k0, k1, k2, k3] (-1 - n) s = s := by unfold maskD; rw [decide_eq_true (by omega)]; rfl
    rw [e]
    simp [slen]
  rw [ht] at h
  exact h

theorem walk (a0_0 : Int) (w0_0 : (Lit.int .u8 a0_0).wf = true) (a0_1 : Int) (w0_1 : (Lit.int .u8 a0_1).wf = true) (a0_2 : Int) (w0_2 : (Lit.int .u8 a0_2).wf = true) (a0_3 : Int) (w0_3 : (Lit.int .u8 a0_3).wf = true) (a1 : Int) (w1 : (Lit.int .u16 a1).wf = true) (a2 : ByteArray) (w2 : a2.size ≤ maxLen) (a3 : ByteArray) (w3 : a3.size ≤ maxLen) (W : World) (args' : Array Value)
    (ha : ∀ ρ, VL (prOf W) (AN []) ρ [.agg #[.int .u8 a0_0, .int .u8 a0_1, .int .u8 a0_2, .int .u8 a0_3], .int .u16 a1, .string a2, .string a3] args'.toList) :
    Calls Try.prog 8 args' W fun e w' => e = .returned (.bool true) ∧ Stays W w' :=
  calls_of_ends (all a0_0 (by simp [Lit.wf, IntKind.min, IntKind.max, IntKind.bits, IntKind.signed] at w0_0; omega) a0_1 (by simp [Lit.wf, IntKind.min, IntKind.max, IntKind.bits, IntKind.signed] at w0_1; omega) a0_2 (by simp [Lit.wf, IntKind.min, IntKind.max, IntKind.bits, IntKind.signed] at w0_2; omega) a0_3 (by simp [Lit.wf, IntKind.min, IntKind.max, IntKind.bits, IntKind.signed] at w0_3; omega) a1 (by simp [Lit.wf, IntKind.min, IntKind.max, IntKind.bits, IntKind.signed] at w1; omega) a2 a3) (by kernel_rfl) rfl ha

theorem own : ownKnob Try.prog.godebug = none := by kernel_rfl
theorem laid : laidOutB Try.prog = true := by kernel_rfl

set_option maxRecDepth 100000 in
theorem lifted (os : Os) (started : os.Started) (H : Type) (enc : TypeId × Value → H) :
    ReturnsInHanded {} Try.checked os 8 .any (Rows.frameTwiceSpec.pre6 enc Try.prog Try.f8 Rows.frameTwiceRow.domain false) (Rows.frameTwiceSpec.post enc Try.prog Try.f8 false true false false) := by
  refine returnsInHanded_of_change (C := Try.checked) own started (by kernel_rfl) Try.func8
    (ChangeSpec.witness6 (enc := enc) (C := Try.checked) false ⟨#[], #[.agg #[.int .u8 0, .int .u8 0, .int .u8 0, .int .u8 0], .int .u16 0, .string ⟨#[]⟩, .string ⟨#[]⟩], []⟩ 8 (by kernel_rfl) (by kernel_rfl) (by kernel_rfl) (by kernel_rfl)) ?_
  intro W base args ds gs before hval0 hW hcnd _
  have hval : ∀ (j : Nat) t v, Try.f8.params[j]? = some t → args[j]? = some v → Value.okWide Try.prog W .any base t v := hval0
  have hW' := hW
  obtain ⟨p, q, hA0, hV, rfl, hfz, hnd⟩ := hW
  have hA : DataW.TrodAll enc Try.prog W 0 (fun _ => true) true Try.f8.params.toList args.toList ds p := hA0
  rw [Try.params8] at hA hval
  obtain ⟨v0, vs0, d0, ds0, p0, q0, hargs, rfl, rfl, h0, r0⟩ := trodAll_cons hA
  obtain ⟨v1, vs1, d1, ds1, p1, q1, rfl, rfl, rfl, h1, r1⟩ := trodAll_cons r0
  obtain ⟨v2, vs2, d2, ds2, p2, q2, rfl, rfl, rfl, h2, r2⟩ := trodAll_cons r1
  obtain ⟨v3, vs3, d3, ds3, p3, q3, rfl, rfl, rfl, h3, r3⟩ := trodAll_cons r2
  obtain ⟨rfl, rfl, rfl⟩ := trodAll_nil r3
  obtain rfl : args = #[v0, v1, v2, v3] := by cases args; simp_all
  obtain ⟨vs0_, hl0, rfl, x0⟩ := read_agg (ls := [.int .u8, .int .u8, .int .u8, .int .u8]) (ts := [5, 5, 5, 5]) (.inr ⟨_, _, Try.underlying22⟩) (by kernel_rfl) (by kernel_rfl) ⟨Try.underlying5, Try.underlying5, Try.underlying5, Try.underlying5, rfl⟩ (hval 0 22 v0 rfl rfl)
  obtain ⟨_, _, rfl, ⟨a0_0, rfl, w0_0⟩, _, _, rfl, ⟨a0_1, rfl, w0_1⟩, _, _, rfl, ⟨a0_2, rfl, w0_2⟩, _, _, rfl, ⟨a0_3, rfl, w0_3⟩, rfl⟩ := hl0
  obtain ⟨a1, x1, w1⟩ := read_int Try.underlying52 (hval 1 52 v1 rfl rfl) h1
  obtain ⟨a2, x2, w2⟩ := read_string Try.underlying9 (hval 2 9 v2 rfl rfl) h2
  obtain ⟨a3, x3, w3⟩ := read_string Try.underlying9 (hval 3 9 v3 rfl rfl) h3
  refine (walk a0_0 w0_0 a0_1 w0_1 a0_2 w0_2 a0_3 w0_3 a1 w1 a2 w2 a3 w3 W _ (fun ρ => .cons (x0 _ _) (.cons (x1 _ _) (.cons (x2 _ _) (.cons (x3 _ _) (.nil)))))).mono fun e W' ⟨he, hg⟩ => ?_
  subst he
  exact ⟨_, rfl, post_law (tb := 4) laid (by rw [Try.params8]; intro t ht; simp only [List.mem_cons, List.not_mem_nil, or_false] at ht; rcases ht with rfl | rfl | rfl | rfl <;> exact ⟨by kernel_rfl, by decide +kernel⟩) rfl (by kernel_rfl) Try.underlying4 (by rintro _ rfl; rfl) hW' hg⟩

theorem over : Rows.frameTwiceRow.holds Try.pinned (OpenSpec.ofChange Rows.frameTwiceSpec) :=
  OpenClaim.holds_of_wide 8 Try.f8 rfl rfl rfl rfl rfl rfl rfl ⟨rfl, rfl, rfl, rfl, rfl⟩ rfl rfl rfl rfl rfl (by kernel_rfl) Try.func8 (by kernel_rfl)
    (of_decide_eq_true (by kernel_rfl)) (by unfold Func.isWrapper; first | (rw [if_pos (by decide +kernel)]; kernel_rfl) | (rw [if_neg (by decide +kernel)]; exact ⟨rfl, rfl⟩))
    (fun os started H enc _ => lifted os started H enc)

theorem proved : Rows.FrameTwiceSaid :=
  over


end Go.Proofs.Ytkpkompmfijgkaa.frameTwice
