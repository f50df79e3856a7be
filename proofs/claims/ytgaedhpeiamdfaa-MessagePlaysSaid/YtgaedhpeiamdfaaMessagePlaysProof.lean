/-
  PROVED: the law MessagePlays hands back true at every input, and its arguments read behind the call as they read before.
-/
import Derived.Test.YtgaedhpeiamdfaaRows
import Derived.Test.YtgaedhpeiamdfaaMessageU
import Derived.Test.YtgaedhpeiamdfaaMessageM
set_option linter.unusedVariables false
set_option linter.unusedSimpArgs false
open Go Go.Am Go.ChangeShapes Go.WideShapes Go.ChangeAt Go.RowKit
namespace Go.Proofs.Ytgaedhpeiamdfaa.messagePlays

theorem run (lim : Int) (hl : 0 ≤ lim ∧ lim ≤ 1099511627776) (l : List Act) (hl100 : l.length ≤ 100) (hb : ∀ a ∈ l, (-9223372036854775808 ≤ a.2.2.2.1 ∧ a.2.2.2.1 ≤ 9223372036854775807) ∧ slen a.2.2.2.2 ≤ 100) : ∀ (m i : Nat), i + m = l.length →
  (∀ bad op sum begun last lacks wbad wop wsum d wbeg wlast wleft, I0 (100 * i) lim bad op sum begun last lacks wbad wop wsum d wbeg wlast wleft → AEnds E 3 0 (plays_h1 lim l.length (aQ l) bad op sum begun last lacks wbad wop wsum d wbeg wlast wleft i) (.bool true) []) ∧
  (∀ bad op sum begun last lacks wbad wop wsum d wbeg wlast wleft left low high x at' cbad, I1 (100 * i) lim bad op sum begun last lacks wbad wop wsum d wbeg wlast wleft left low high x at' cbad → AEnds E 3 0 (plays_h4 lim l.length (aQ l) bad op sum begun last lacks wbad wop wsum d wbeg wlast wleft left low high x at' cbad i) (.bool true) []) ∧
  (∀ bad op sum begun last lacks wbad wop wsum d wbeg wlast wleft left low high x at' cbad, I2 (100 * i) lim bad op sum begun last lacks wbad wop wsum d wbeg wlast wleft left low high x at' cbad → AEnds E 3 0 (plays_h7 lim l.length (aQ l) bad op sum begun last lacks wbad wop wsum d wbeg wlast wleft left low high x at' cbad i) (.bool true) []) ∧
  (∀ bad op sum bn begun last lacks wbad wop wsum d wbeg wlast wleft B left low high x at' cbad, I3 (100 * i) lim bad op sum bn begun last lacks wbad wop wsum d wbeg wlast wleft B left low high x at' cbad → AEnds E 3 0 (plays_h8 lim l.length (aQ l) bad op sum bn begun last lacks wbad wop wsum d wbeg wlast wleft B left low high x at' cbad i) (.bool true) [])
 | 0, i, hi => by
  have f0 : decide ((i : Int) < (l.length : Int)) = false := decide_eq_false (by omega)
  have hw : wakes_S0 := trivial
  refine ⟨fun _ _ _ _ _ _ _ _ _ _ _ _ _ _ => ?_, fun _ _ _ _ _ _ _ _ _ _ _ _ _ _ _ _ _ _ _ _ => ?_, fun _ _ _ _ _ _ _ _ _ _ _ _ _ _ _ _ _ _ _ _ => ?_, fun _ _ _ _ _ _ _ _ _ _ _ _ _ _ _ _ _ _ _ _ _ h => ?_⟩
  ·apply plays_w1_5 <;> first | exact hw | exact f0
  ·apply plays_w4_10 <;> first | exact hw | exact f0
  ·apply plays_w7_10 <;> first | exact hw | exact f0
  ·obtain ⟨_, _, b, _, rfl, _⟩ := h
   apply plays_w8_9 <;> first | exact hw | exact f0 | exact ob_flat b
 | m + 1, i, hi => by
  obtain ⟨T0, T1, T2, T3⟩ := run lim hl l hl100 hb m (i + 1) (by omega)
  obtain ⟨a, ha⟩ : ∃ a, l[i]? = some a := ⟨_, List.getElem?_eq_getElem (by omega)⟩
  have hm := hb a (List.mem_of_getElem? ha)
  have e : (100 * (i : Int)) + 100 = 100 * ((i + 1 : Nat) : Int) := by omega
  have hK0 : 0 ≤ 100 * (i : Int) := by omega
  have hK : 100 * (i : Int) ≤ 9900 := by omega
  have hi1 : i ≤ 100 := by omega
  have N0 : ∀ bad op sum begun last lacks wbad wop wsum d wbeg wlast wleft, I0 (100 * i + 100) lim bad op sum begun last lacks wbad wop wsum d wbeg wlast wleft → AEnds E 3 0 (plays_h2 lim l.length (aQ l) i bad op sum begun last lacks wbad wop wsum d wbeg wlast wleft) (.bool true) [] := fun _ _ _ _ _ _ _ _ _ _ _ _ _ h => (mid0 lim l.length (aQ l) i hi1 _ _ _ _ _ _ _ _ _ _ _ _ _ h.1).ends (T0 _ _ _ _ _ _ _ _ _ _ _ _ _ (e ▸ h))
  have N1 : ∀ bad op sum begun last lacks wbad wop wsum d wbeg wlast wleft left low high x at' cbad, I1 (100 * i + 100) lim bad op sum begun last lacks wbad wop wsum d wbeg wlast wleft left low high x at' cbad → AEnds E 3 0 (plays_h3 lim l.length (aQ l) i bad op sum begun last lacks wbad wop wsum d wbeg wlast wleft left low high x at' cbad) (.bool true) [] := fun _ _ _ _ _ _ _ _ _ _ _ _ _ _ _ _ _ _ _ h => (mid1 lim l.length (aQ l) i hi1 _ _ _ _ _ _ _ _ _ _ _ _ _ _ _ _ _ _ _ h.1).ends (T1 _ _ _ _ _ _ _ _ _ _ _ _ _ _ _ _ _ _ _ (e ▸ h))
  have N2 : ∀ bad op sum begun last lacks wbad wop wsum d wbeg wlast wleft left low high x at' cbad, I2 (100 * i + 100) lim bad op sum begun last lacks wbad wop wsum d wbeg wlast wleft left low high x at' cbad → AEnds E 3 0 (plays_h5 lim l.length (aQ l) i bad op sum begun last lacks wbad wop wsum d wbeg wlast wleft left low high x at' cbad) (.bool true) [] := fun _ _ _ _ _ _ _ _ _ _ _ _ _ _ _ _ _ _ _ h => (mid2 lim l.length (aQ l) i hi1 _ _ _ _ _ _ _ _ _ _ _ _ _ _ _ _ _ _ _ h.1).ends (T2 _ _ _ _ _ _ _ _ _ _ _ _ _ _ _ _ _ _ _ (e ▸ h))
  have N3 : ∀ bad op sum bn begun last lacks wbad wop wsum d wbeg wlast wleft B left low high x at' cbad, I3 (100 * i + 100) lim bad op sum bn begun last lacks wbad wop wsum d wbeg wlast wleft B left low high x at' cbad → AEnds E 3 0 (plays_h6 lim l.length (aQ l) i bad op sum bn begun last lacks wbad wop wsum d wbeg wlast wleft B left low high x at' cbad) (.bool true) [] := fun _ _ _ _ _ _ _ _ _ _ _ _ _ _ _ _ _ _ _ _ _ h => (mid3 lim l.length (aQ l) i hi1 _ _ _ _ _ _ _ _ _ _ _ _ _ _ _ _ _ _ _ _ _ h.1 (by obtain ⟨_, _, b, _, rfl, _⟩ := h; exact ob_flat b)).ends (T3 _ _ _ _ _ _ _ _ _ _ _ _ _ _ _ _ _ _ _ _ _ (e ▸ h))
  exact ⟨fun _ _ _ _ _ _ _ _ _ _ _ _ _ h => step0 lim hl l hl100 i a ha hm.1 hm.2 hK0 hK N0 N1 _ _ _ _ _ _ _ _ _ _ _ _ _ h,
   fun _ _ _ _ _ _ _ _ _ _ _ _ _ _ _ _ _ _ _ h => step1 lim hl l hl100 i a ha hm.1 hm.2 hK0 hK N1 N2 N3 _ _ _ _ _ _ _ _ _ _ _ _ _ _ _ _ _ _ _ h,
   fun _ _ _ _ _ _ _ _ _ _ _ _ _ _ _ _ _ _ _ h => step2 lim hl l hl100 i a ha hm.1 hm.2 hK0 hK N1 N2 N3 _ _ _ _ _ _ _ _ _ _ _ _ _ _ _ _ _ _ _ h,
   fun _ _ _ _ _ _ _ _ _ _ _ _ _ _ _ _ _ _ _ _ _ h => step3 lim hl l hl100 i a ha hm.1 hm.2 hK0 hK N1 N3 _ _ _ _ _ _ _ _ _ _ _ _ _ _ _ _ _ _ _ _ _ h⟩

theorem all (lim : Int) (hlim : -9223372036854775808 ≤ lim ∧ lim ≤ 9223372036854775807) (A : List (List Value)) (hA : ∀ r ∈ A, AllL [.int .u8, .bool, .int .i64, .int .i64, .str] r) : AEnds E 3 0 (startC E 3 [.int .i64 lim, .iface A.length (.agg A.flatten.toArray)] []) (.bool true) [] := by
 obtain ⟨l, rfl, hb⟩ := rows_acts hA
 rw [List.length_map]
 have hw : wakes_S0 := trivial
 have hgp : great_pre l.length (aQ l) := ⟨l, rfl, rfl⟩
 cases hg : greatB l.length (aQ l) with
 | true =>
  have w := plays_w0_0 lim l.length (aQ l)
  apply w
  all_goals first | exact hw | exact hg | exact hgp | (simp [aggOf]; done)
 | false =>
  obtain ⟨h1, h2⟩ := greatB_false hg
  by_cases c1 : lim < 0
  ·have w := plays_w0_1 lim l.length (aQ l)
   apply w
   all_goals first | exact hw | exact hg | exact hgp | exact decide_eq_true c1
  by_cases c2 : 1099511627776 < lim
  ·have w := plays_w0_2 lim l.length (aQ l)
   apply w
   all_goals first | exact hw | exact hg | exact hgp | exact decide_eq_true c2 | exact decide_eq_false c1
  have w := plays_w0_3 lim l.length (aQ l)
  refine Gets.ends ?_ ((run lim ⟨by omega, by omega⟩ l h1 (fun a ha => ⟨(hb a ha).2.2, h2 a ha⟩) l.length 0 (Nat.zero_add _)).1 0 0 0 false false 0 0 0 0 ⟨#[]⟩ false false 0 ⟨⟨⟨rfl, fun _ => ⟨rfl, rfl, rfl, .inl rfl, by omega, fun _ => rfl, fun e => by cases e⟩⟩, Int.le_refl 0⟩, rfl, rfl⟩)
  apply w
  all_goals first | exact hw | exact hg | exact hgp | exact decide_eq_false c2 | exact decide_eq_false c1

theorem walk (a0 : Int) (w0 : (Lit.int .i64 a0).wf = true) (a1 : List (List Value)) (w1 : a1.length ≤ maxLen) (u1 : ∀ r ∈ a1, AllL [.int .u8, .bool, .int .i64, .int .i64, .str] r) (W : World) (args' : Array Value)
  (ha : ∀ ρ, VL (prOf W) (AN []) ρ [.int .i64 a0, .iface a1.length (.agg a1.flatten.toArray)] args'.toList) :
  Calls Try.prog 3 args' W fun e w' => e = .returned (.bool true) ∧ Stays W w' :=
 calls_of_ends (all a0 (by simp [Lit.wf, IntKind.min, IntKind.max, IntKind.bits, IntKind.signed] at w0; omega) a1 u1) (by kernel_rfl) rfl ha

theorem own : ownKnob Try.prog.godebug = none := by kernel_rfl
theorem laid : laidOutB Try.prog = true := by kernel_rfl

set_option maxRecDepth 100000 in
theorem lifted (os : Os) (started : os.Started) (H : Type) (enc : TypeId × Value → H) :
  ReturnsInHanded {} Try.checked os 3 .any (Rows.messagePlaysSpec.pre6 enc Try.prog Try.f3 Rows.messagePlaysRow.domain false) (Rows.messagePlaysSpec.post enc Try.prog Try.f3 false true false false) := by
 refine returnsInHanded_of_change (C := Try.checked) own started (by kernel_rfl) Try.func3
  (ChangeSpec.witness6 (enc := enc) (C := Try.checked) false ⟨#[], #[.int .i64 0, .slice none 0 0], []⟩ 8 (by kernel_rfl) (by kernel_rfl) (by kernel_rfl) (by kernel_rfl)) ?_
 intro W base args ds gs before hval0 hW hcnd _
 have hval : ∀ (j : Nat) t v, Try.f3.params[j]? = some t → args[j]? = some v → Value.okWide Try.prog W .any base t v := hval0
 have hW' := hW
 obtain ⟨p, q, hA0, hV, rfl, hfz, hnd⟩ := hW
 have hA : DataW.TrodAll enc Try.prog W 0 (fun _ => true) true Try.f3.params.toList args.toList ds p := hA0
 rw [Try.params3] at hA hval
 obtain ⟨v0, vs0, d0, ds0, p0, q0, hargs, rfl, rfl, h0, r0⟩ := trodAll_cons hA
 obtain ⟨v1, vs1, d1, ds1, p1, q1, rfl, rfl, rfl, h1, r1⟩ := trodAll_cons r0
 obtain ⟨rfl, rfl, rfl⟩ := trodAll_nil r1
 obtain rfl : args = #[v0, v1] := by cases args; simp_all
 obtain ⟨a0, x0, w0⟩ := read_int Try.underlying3 (hval 0 3 v0 rfl rfl) h0
 obtain ⟨a1, x1, w1, u1⟩ := read_rows (ls := [.int .u8, .bool, .int .i64, .int .i64, .str]) Try.underlying22 (by kernel_rfl) (by decide) (trodL_struct Try.underlying33 (by kernel_rfl) ⟨[.int .u8], _, rfl, rfl, by kernel_rfl, trodL_int Try.underlying5, [.bool], _, rfl, rfl, by kernel_rfl, trodL_bool Try.underlying4, [.int .i64], _, rfl, rfl, by kernel_rfl, trodL_int Try.underlying3, [.int .i64], _, rfl, rfl, by kernel_rfl, trodL_int Try.underlying3, [.str], _, rfl, rfl, by kernel_rfl, trodL_str Try.underlying9, rfl⟩) (hval 1 22 v1 rfl rfl) h1
 refine (walk a0 w0 a1 w1 u1 W _ (fun ρ => .cons (x0 _ _) (.cons (x1 _ _) (.nil)))).mono fun e W' ⟨he, hg⟩ => ?_
 subst he
 exact ⟨_, rfl, post_law (tb := 4) laid (by rw [Try.params3]; intro t ht; simp only [List.mem_cons, List.not_mem_nil, or_false] at ht; rcases ht with rfl | rfl <;> exact ⟨by kernel_rfl, by decide +kernel⟩) rfl (by kernel_rfl) Try.underlying4 (by rintro _ rfl; rfl) hW' hg⟩

theorem over : Rows.messagePlaysRow.holds Try.pinned (OpenSpec.ofChange Rows.messagePlaysSpec) :=
 OpenClaim.holds_of_wide 3 Try.f3 rfl rfl rfl rfl rfl rfl rfl ⟨rfl, rfl, rfl, rfl, rfl⟩ rfl rfl rfl rfl rfl (by kernel_rfl) Try.func3 (by kernel_rfl)
  (of_decide_eq_true (by kernel_rfl)) (by unfold Func.isWrapper; first | (rw [if_pos (by decide +kernel)]; kernel_rfl) | (rw [if_neg (by decide +kernel)]; exact ⟨rfl, rfl⟩))
  (fun os started H enc _ => lifted os started H enc)

theorem proved : Rows.MessagePlaysSaid :=
 over


end Go.Proofs.Ytgaedhpeiamdfaa.messagePlays
