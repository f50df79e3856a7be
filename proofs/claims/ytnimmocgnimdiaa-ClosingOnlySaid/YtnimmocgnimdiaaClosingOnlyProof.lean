/-
  PROVED: the law ClosingOnly hands back true at every input, and its arguments read behind the call as they read before.
-/
import Derived.Test.YtnimmocgnimdiaaRows
import Derived.Test.YtnimmocgnimdiaaClosingB
set_option linter.unusedVariables false
set_option linter.unusedSimpArgs false
open Go Go.Am Go.ChangeShapes Go.WideShapes Go.ChangeAt Go.RowKit
namespace Go.Proofs.Ytnimmocgnimdiaa.closingOnly

theorem awake_safe : awake_S0 := by
  unfold awake_S0 creadc_pre cbytesc_pre mayc_pre
  refine ⟨trivial, trivial, by decide, by decide, by decide⟩
theorem cb0 (code : Int) : (((cbT code ⟨#[]⟩).2 == 0) : Bool) = (mayP code || decide (code = 1005)) := by
  unfold cbT
  have h1 : toL ⟨#[]⟩ = [] := rfl
  have h2 : slen ⟨#[]⟩ = 0 := rfl
  have h3 : textD ⟨#[]⟩ = true := rfl
  by_cases c : code = 1005
  · rw [if_pos ⟨c, h1⟩]; simp [c]
  · rw [if_neg (fun h => c h.1), h2, h3]
    cases mayP code <;> simp [c]
theorem cb1 (code : Int) (s : ByteArray) : (((cbT code s).2 == 0) : Bool) = ((mayP code && (decide (slen s ≤ 123) && textD s)) || (decide (code = 1005) && decide (toL s = []))) := by
  unfold cbT
  by_cases c : code = 1005 ∧ toL s = []
  · rw [if_pos c]; simp [c.1, c.2]
  · rw [if_neg c]
    have : (decide (code = 1005) && decide (toL s = [])) = false := by
      by_cases c1 : code = 1005 <;> by_cases c2 : toL s = [] <;> simp [c1, c2]
      exact c ⟨c1, c2⟩
    rw [this]
    cases (mayP code && (decide (slen s ≤ 123) && textD s)) <;> rfl
theorem all (code : Int) (hc : -9223372036854775808 ≤ code ∧ code ≤ 9223372036854775807) (s : ByteArray) : AEnds E 6 0 (startC E 6 [.int .i64 code, .string s] []) (.bool true) [] := by
  have ha := awake_safe
  by_cases c1 : 1000 < (slen s : Int)
  · have h := conly_ok0 code s (by unfold conly_S0; rw [decide_eq_true c1]; simp [ha])
    unfold conly_t0 at h
    rw [decide_eq_true c1] at h
    exact h
  have p1 (s2 : ByteArray) (h : slen s2 ≤ 1000) : cbytesc_pre code s2 := by unfold cbytesc_pre; omega
  have q1 := p1 s (by omega)
  have q2 := p1 ⟨#[]⟩ (by decide)
  have q3 : mayc_pre code := trivial
  have q4 : valid_pre s := by unfold valid_pre; omega
  have h := conly_ok0 code s (by unfold conly_S0; simp only [q1, q2, q3, q4, ha, and_self, implies_true, beq_self_eq_true])
  have e6 : (code == 1005) = decide (code = 1005) := by by_cases h : code = 1005 <;> simp [h]
  have e5 : (toL s == ([] : List UInt8)) = decide (toL s = []) := by cases toL s <;> simp
  have e4 : decide ((slen s : Int) ≤ 123) = decide (slen s ≤ 123) := by by_cases h : slen s ≤ 123 <;> simp [h] <;> omega
  have ht : conly_t0 code s = true := by
    unfold conly_t0
    rw [decide_eq_false c1]
    simp only [cb0]
    simp only [cb1, e4, e5, e6]
    have hm : mayP code = true → decide (code = 1005) = false := by
      intro hm
      unfold mayP at hm
      simp at hm ⊢
      omega
    have hw : wholeD (0, 0, 0, 0) (toL s) = textD s := rfl
    have hn : decide (toL s = []) = true → textD s = true ∧ decide (slen s ≤ 123) = true := by
      intro hn
      have : toL s = [] := by simpa using hn
      unfold textD slen
      rw [this]
      exact ⟨rfl, rfl⟩
    rw [hw]
    generalize decide (code = 1005) = a at *
    generalize decide (toL s = []) = b at *
    generalize decide (slen s ≤ 123) = c at *
    generalize mayP code = d at *
    generalize textD s = e at *
    cases a <;> cases b <;> cases c <;> cases d <;> cases e <;> simp at hm hn ⊢
  rw [ht] at h
  exact h

theorem walk (a0 : Int) (w0 : (Lit.int .i64 a0).wf = true) (a1 : ByteArray) (w1 : a1.size ≤ maxLen) (W : World) (args' : Array Value)
    (ha : ∀ ρ, VL (prOf W) (AN []) ρ [.int .i64 a0, .string a1] args'.toList) :
    Calls Try.prog 6 args' W fun e w' => e = .returned (.bool true) ∧ Stays W w' :=
  calls_of_ends (all a0 (by simp [Lit.wf, IntKind.min, IntKind.max, IntKind.bits, IntKind.signed] at w0; omega) a1) (by kernel_rfl) rfl ha

theorem own : ownKnob Try.prog.godebug = none := by kernel_rfl
theorem laid : laidOutB Try.prog = true := by kernel_rfl

set_option maxRecDepth 100000 in
theorem lifted (os : Os) (started : os.Started) (H : Type) (enc : TypeId × Value → H) :
    ReturnsInHanded {} Try.checked os 6 .any (Rows.closingOnlySpec.pre6 enc Try.prog Try.f6 Rows.closingOnlyRow.domain false) (Rows.closingOnlySpec.post enc Try.prog Try.f6 false true false false) := by
  refine returnsInHanded_of_change (C := Try.checked) own started (by kernel_rfl) Try.func6
    (ChangeSpec.witness6 (enc := enc) (C := Try.checked) false ⟨#[], #[.int .i64 0, .string ⟨#[]⟩], []⟩ 8 (by kernel_rfl) (by kernel_rfl) (by kernel_rfl) (by kernel_rfl)) ?_
  intro W base args ds gs before hval0 hW hcnd _
  have hval : ∀ (j : Nat) t v, Try.f6.params[j]? = some t → args[j]? = some v → Value.okWide Try.prog W .any base t v := hval0
  have hW' := hW
  obtain ⟨p, q, hA0, hV, rfl, hfz, hnd⟩ := hW
  have hA : DataW.TrodAll enc Try.prog W 0 (fun _ => true) true Try.f6.params.toList args.toList ds p := hA0
  rw [Try.params6] at hA hval
  obtain ⟨v0, vs0, d0, ds0, p0, q0, hargs, rfl, rfl, h0, r0⟩ := trodAll_cons hA
  obtain ⟨v1, vs1, d1, ds1, p1, q1, rfl, rfl, rfl, h1, r1⟩ := trodAll_cons r0
  obtain ⟨rfl, rfl, rfl⟩ := trodAll_nil r1
  obtain rfl : args = #[v0, v1] := by cases args; simp_all
  obtain ⟨a0, x0, w0⟩ := read_int Try.underlying3 (hval 0 3 v0 rfl rfl) h0
  obtain ⟨a1, x1, w1⟩ := read_string Try.underlying9 (hval 1 9 v1 rfl rfl) h1
  refine (walk a0 w0 a1 w1 W _ (fun ρ => .cons (x0 _ _) (.cons (x1 _ _) (.nil)))).mono fun e W' ⟨he, hg⟩ => ?_
  subst he
  exact ⟨_, rfl, post_law (tb := 4) laid (by rw [Try.params6]; intro t ht; simp only [List.mem_cons, List.not_mem_nil, or_false] at ht; rcases ht with rfl | rfl <;> exact ⟨by kernel_rfl, by decide +kernel⟩) rfl (by kernel_rfl) Try.underlying4 (by rintro _ rfl; rfl) hW' hg⟩

theorem over : Rows.closingOnlyRow.holds Try.pinned (OpenSpec.ofChange Rows.closingOnlySpec) :=
  OpenClaim.holds_of_wide 6 Try.f6 rfl rfl rfl rfl rfl rfl rfl ⟨rfl, rfl, rfl, rfl, rfl⟩ rfl rfl rfl rfl rfl (by kernel_rfl) Try.func6 (by kernel_rfl)
    (of_decide_eq_true (by kernel_rfl)) (by unfold Func.isWrapper; first | (rw [if_pos (by decide +kernel)]; kernel_rfl) | (rw [if_neg (by decide +kernel)]; exact ⟨rfl, rfl⟩))
    (fun os started H enc _ => lifted os started H enc)

theorem proved : Rows.ClosingOnlySaid :=
  over


end Go.Proofs.Ytnimmocgnimdiaa.closingOnly
