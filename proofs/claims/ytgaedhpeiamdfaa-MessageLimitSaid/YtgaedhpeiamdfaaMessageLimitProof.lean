/-
  PROVED: the law MessageLimit hands back true at every input, and its arguments read behind the call as they read before.
-/
import Derived.Test.YtgaedhpeiamdfaaRows
import Derived.Test.YtgaedhpeiamdfaaMessageE
set_option linter.unusedVariables false
set_option linter.unusedSimpArgs false
open Go Go.Am Go.ChangeShapes Go.WideShapes Go.ChangeAt Go.RowKit
namespace Go.Proofs.Ytgaedhpeiamdfaa.messageLimit

theorem rep_len (k : Nat) : (rep [Value.int .u8 0] k).length = k := by
  induction k with
  | zero => rfl
  | succ k ih => simp [rep, ih]
theorem rep_int (k : Nat) : (rep [Value.int .u8 0] k).all (isInt .u8) = true := by
  induction k with
  | zero => rfl
  | succ k ih => rw [rep, List.all_append, ih]; rfl
theorem all (lim : Int) (_ : -9223372036854775808 ≤ lim ∧ lim ≤ 9223372036854775807) (first : Int) (_ : -9223372036854775808 ≤ first ∧ first ≤ 9223372036854775807) : AEnds E 5 0 (startC E 5 [.int .i64 lim, .int .i64 first] []) (.bool true) [] := by
  have hw : wakes_S0 := trivial
  by_cases c1 : lim < 0
  · exact limit_w0_0 lim first hw (decide_eq_true c1)
  by_cases c2 : 1099511627776 < lim
  · exact limit_w0_1 lim first hw (decide_eq_true c2) (decide_eq_false c1)
  by_cases c3 : first < 0
  · exact limit_w0_2 lim first hw (decide_eq_true c3) (decide_eq_false c2) (decide_eq_false c1)
  by_cases c4 : lim < first
  · exact limit_w0_3 lim first hw (decide_eq_true c4) (decide_eq_false c3) (decide_eq_false c2) (decide_eq_false c1)
  have w1 : IntKind.i64.wrap (lim + 1) = lim + 1 := wrap64_in (by omega) (by omega)
  have w2 : IntKind.i64.wrap (0 + lim) = lim := by rw [Int.zero_add]; exact wrap64_in (by omega) (by omega)
  have w3 : IntKind.i64.wrap (0 + first) = first := by rw [Int.zero_add]; exact wrap64_in (by omega) (by omega)
  have w4 : IntKind.i64.wrap (lim - first) = lim - first := wrap64_in (by omega) (by omega)
  have w5 : IntKind.i64.wrap (lim - first + 1) = lim - first + 1 := wrap64_in (by omega) (by omega)
  have w6 : IntKind.i64.wrap lim = lim := wrap64_in (by omega) (by omega)
  have hb0 : bcode lim 0 0 0 false 2 lim = 0 := by simp [bcode, bop, w6, c1]
  have hb1 : bcode lim 0 0 0 false 2 (lim + 1) = 1009 := by simp [bcode, bop, w6, show ¬ lim + 1 < 0 by omega, show lim < lim + 1 by omega]
  have hb2 : bcode lim 0 0 0 false 2 first = 0 := by simp [bcode, bop, w6, c3, c4]
  have hb3 : bcode lim 0 2 first false 0 (lim - first + 1) = 1009 := by simp [bcode, bop, w4, show ¬ lim - first + 1 < 0 by omega, show lim - first < lim - first + 1 by omega]
  have hl : jlacks1_t0 lim true 0 2 lim true true lim 0 0 0 0 0 false = lim := by simp [jlacks1_t0]
  have hlS : jlacks1_S0 lim true 0 2 lim true true lim 0 0 0 0 0 false := by simp [jlacks1_S0]
  have he : ecode 0 2 0 0 true false false = 0 := rfl
  by_cases c5 : 3000 < first
  · have w := limit_w0_4 lim first
    simp only [w1, w2, w3, w4, w5, hl, hb0, hb1, hb2, b0_ask0_f, b0F_pre, b0N_pre, b_pr0] at w
    exact w hw (decide_eq_true c5) (by decide) (by simp) hlS (decide_eq_false c2) (decide_eq_false c1) (by decide) (by decide) (by decide) (by decide) (decide_eq_false c4) (decide_eq_false c3)
  by_cases c6 : first = 0
  · subst c6
    have hz : bytesOf (List.take ((0 : Int).toNat * 1) (List.drop 0 (rep [Value.int .u8 0] (0 : Int).toNat))) = ⟨#[]⟩ := rfl
    have w := limit_w0_5 lim 0
    simp only [hz] at w
    have hp : pcode 0 0 true ⟨#[]⟩ = 0 := rfl
    have w7 : IntKind.i64.wrap ((0 : Int) - (slen ⟨#[]⟩ : Int)) = 0 := rfl
    simp only [w1, w2, w3, w4, w5, w7, hp, he, hl, hb0, hb1, hb2, hb3, b0_ask0_f, b0F_pre, b0N_pre, b_pr0, b2_ask0_f, b2F_pre, b_pr2, e2_ask0_f, e2M_pre, e_pr2, p1_ask0_f, p1_ask2_f, p1S_pre, p_pr1] at w
    apply w
    all_goals first | exact hw | exact hlS | rfl | decide | (simp; done) | (simp; omega)
  · have hzl : slen (bytesOf (List.take (first.toNat * 1) (List.drop 0 (rep [Value.int .u8 0] first.toNat)))) = first.toNat := by
      simp [slen, bytesOf, toL, ofL, rep_len]
    have hzi : ((List.take (first.toNat * 1) (List.drop 0 (rep [Value.int .u8 0] first.toNat))).all (isInt .u8)) = true := by
      rw [List.drop_zero, List.take_of_length_le (by rw [rep_len]; omega)]
      exact rep_int _
    have hrl := rep_len first.toNat
    have w := limit_w0_6 lim first
    revert w hzl
    generalize bytesOf (List.take (first.toNat * 1) (List.drop 0 (rep [Value.int .u8 0] first.toNat))) = Z
    intro hzl w
    have hzf : (slen Z : Int) = first := by omega
    have hp : pcode 0 first true Z = 0 := by simp [pcode, hzf]
    have w7 : IntKind.i64.wrap (first - (slen Z : Int)) = 0 := by
      rw [hzl, show first - (first.toNat : Int) = 0 by omega]; rfl
    have hZ : 0 < slen Z := by omega
    simp only [w1, w2, w3, w4, w5, w7, hp, he, hl, hb0, hb1, hb2, hb3, b0_ask0_f, b0F_pre, b0N_pre, b_pr0, b3_ask0_f, b3F_pre, b_pr3, e3_ask0_f, e3M_pre, e_pr3, p1_ask0_f, p1_ask2_f, p1T_pre, p_pr1] at w
    apply w
    all_goals first | exact hw | exact hlS | exact hzi | rfl | decide | omega | (simp; done) | (simp; omega) | exact ob_flat Z | (refine ⟨by simp, ⟨Z, rfl, rfl⟩, ?_⟩; omega) | exact ⟨by simp, ⟨Z, rfl, rfl⟩⟩ | exact ⟨by simp, ⟨Z, rfl, rfl⟩, by omega, by omega⟩

theorem walk (a0 : Int) (w0 : (Lit.int .i64 a0).wf = true) (a1 : Int) (w1 : (Lit.int .i64 a1).wf = true) (W : World) (args' : Array Value)
    (ha : ∀ ρ, VL (prOf W) (AN []) ρ [.int .i64 a0, .int .i64 a1] args'.toList) :
    Calls Try.prog 5 args' W fun e w' => e = .returned (.bool true) ∧ Stays W w' :=
  calls_of_ends (all a0 (by simp [Lit.wf, IntKind.min, IntKind.max, IntKind.bits, IntKind.signed] at w0; omega) a1 (by simp [Lit.wf, IntKind.min, IntKind.max, IntKind.bits, IntKind.signed] at w1; omega)) (by kernel_rfl) rfl ha

theorem own : ownKnob Try.prog.godebug = none := by kernel_rfl
theorem laid : laidOutB Try.prog = true := by kernel_rfl

set_option maxRecDepth 100000 in
theorem lifted (os : Os) (started : os.Started) (H : Type) (enc : TypeId × Value → H) :
    ReturnsInHanded {} Try.checked os 5 .any (Rows.messageLimitSpec.pre6 enc Try.prog Try.f5 Rows.messageLimitRow.domain false) (Rows.messageLimitSpec.post enc Try.prog Try.f5 false true false false) := by
  refine returnsInHanded_of_change (C := Try.checked) own started (by kernel_rfl) Try.func5
    (ChangeSpec.witness6 (enc := enc) (C := Try.checked) false ⟨#[], #[.int .i64 0, .int .i64 0], []⟩ 8 (by kernel_rfl) (by kernel_rfl) (by kernel_rfl) (by kernel_rfl)) ?_
  intro W base args ds gs before hval0 hW hcnd _
  have hval : ∀ (j : Nat) t v, Try.f5.params[j]? = some t → args[j]? = some v → Value.okWide Try.prog W .any base t v := hval0
  have hW' := hW
  obtain ⟨p, q, hA0, hV, rfl, hfz, hnd⟩ := hW
  have hA : DataW.TrodAll enc Try.prog W 0 (fun _ => true) true Try.f5.params.toList args.toList ds p := hA0
  rw [Try.params5] at hA hval
  obtain ⟨v0, vs0, d0, ds0, p0, q0, hargs, rfl, rfl, h0, r0⟩ := trodAll_cons hA
  obtain ⟨v1, vs1, d1, ds1, p1, q1, rfl, rfl, rfl, h1, r1⟩ := trodAll_cons r0
  obtain ⟨rfl, rfl, rfl⟩ := trodAll_nil r1
  obtain rfl : args = #[v0, v1] := by cases args; simp_all
  obtain ⟨a0, x0, w0⟩ := read_int Try.underlying3 (hval 0 3 v0 rfl rfl) h0
  obtain ⟨a1, x1, w1⟩ := read_int Try.underlying3 (hval 1 3 v1 rfl rfl) h1
  refine (walk a0 w0 a1 w1 W _ (fun ρ => .cons (x0 _ _) (.cons (x1 _ _) (.nil)))).mono fun e W' ⟨he, hg⟩ => ?_
  subst he
  exact ⟨_, rfl, post_law (tb := 4) laid (by rw [Try.params5]; intro t ht; simp only [List.mem_cons, List.not_mem_nil, or_false] at ht; rcases ht with rfl | rfl <;> exact ⟨by kernel_rfl, by decide +kernel⟩) rfl (by kernel_rfl) Try.underlying4 (by rintro _ rfl; rfl) hW' hg⟩

theorem over : Rows.messageLimitRow.holds Try.pinned (OpenSpec.ofChange Rows.messageLimitSpec) :=
  OpenClaim.holds_of_wide 5 Try.f5 rfl rfl rfl rfl rfl rfl rfl ⟨rfl, rfl, rfl, rfl, rfl⟩ rfl rfl rfl rfl rfl (by kernel_rfl) Try.func5 (by kernel_rfl)
    (of_decide_eq_true (by kernel_rfl)) (by unfold Func.isWrapper; first | (rw [if_pos (by decide +kernel)]; kernel_rfl) | (rw [if_neg (by decide +kernel)]; exact ⟨rfl, rfl⟩))
    (fun os started H enc _ => lifted os started H enc)

theorem proved : Rows.MessageLimitSaid :=
  over


end Go.Proofs.Ytgaedhpeiamdfaa.messageLimit
