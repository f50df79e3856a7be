/-
  PROVED: the law FramesLeft hands back true at every input, and its arguments read behind the call as they read before.
-/
import Derived.Test.YtfmcohbagbafmaaRows
import Derived.Test.YtfmcohbagbafmaaFramesC
import Derived.Test.YtfmcohbagbafmaaFramesD
set_option linter.unusedVariables false
set_option linter.unusedSimpArgs false
open Go Go.Am Go.ChangeShapes Go.WideShapes Go.ChangeAt Go.RowKit
namespace Go.Proofs.Ytfmcohbagbafmaa.framesLeft

theorem safeI (m : Bool) (st : Int) (inn : ByteArray) (hf : Bool) (hr ho : Int) (hm : Bool) (k0 k1 k2 k3 hl : Int) (hlst : Bool) (told : Int) (h : Inv (st, inn, hf, hr, ho, hm, k0, k1, k2, k3, hl, hlst, told)) :
    rstep_S0 m st inn hf hr ho hm k0 k1 k2 k3 hl hlst told := (step_val m _ h).1
theorem awake_safe : awake_S0 := by
  unfold awake_S0
  repeat' first | (apply safeI; exact ⟨by decide +kernel, by decide +kernel⟩) | apply And.intro

/-- Where the walk stands: what was told last (r), the other reader (x) one step behind. -/
noncomputable def hd (s : ByteArray) (m : Bool) (r : rstep_R) (x : RX) : Cfg :=
  left_h1 s m r.2.2.2.2.2.1 r.1 r.2.1 r.2.2.1 r.2.2.2.1 r.2.2.2.2.1 x.1 x.2.1 x.2.2.1 x.2.2.2.1 x.2.2.2.2.1 x.2.2.2.2.2.1 x.2.2.2.2.2.2.1 x.2.2.2.2.2.2.2.1 x.2.2.2.2.2.2.2.2.1 x.2.2.2.2.2.2.2.2.2.1 x.2.2.2.2.2.2.2.2.2.2.1 x.2.2.2.2.2.2.2.2.2.2.2.1 x.2.2.2.2.2.2.2.2.2.2.2.2
    r.2.2.2.2.2.2.1 r.2.2.2.2.2.2.2.1 r.2.2.2.2.2.2.2.2.1 r.2.2.2.2.2.2.2.2.2.1 r.2.2.2.2.2.2.2.2.2.2.1 r.2.2.2.2.2.2.2.2.2.2.2.1 r.2.2.2.2.2.2.2.2.2.2.2.2.1 r.2.2.2.2.2.2.2.2.2.2.2.2.2.1 r.2.2.2.2.2.2.2.2.2.2.2.2.2.2.1 r.2.2.2.2.2.2.2.2.2.2.2.2.2.2.2.1 r.2.2.2.2.2.2.2.2.2.2.2.2.2.2.2.2.1 r.2.2.2.2.2.2.2.2.2.2.2.2.2.2.2.2.2.1 r.2.2.2.2.2.2.2.2.2.2.2.2.2.2.2.2.2.2
theorem run (s : ByteArray) (m : Bool) : ∀ (n : Nat) (x : RX), Inv x → mu x < n → AEnds E 3 0 (hd s m (stp m x) x) (.bool true) []
  | 0, x, _, h => absurd h (Nat.not_lt_zero _)
  | n + 1, x, hI, hn => by
    obtain ⟨hS, hT⟩ := step_val m x hI
    have hS0 : rstep_S0 m x.1 x.2.1 x.2.2.1 x.2.2.2.1 x.2.2.2.2.1 x.2.2.2.2.2.1 x.2.2.2.2.2.2.1 x.2.2.2.2.2.2.2.1 x.2.2.2.2.2.2.2.2.1 x.2.2.2.2.2.2.2.2.2.1 x.2.2.2.2.2.2.2.2.2.2.1 x.2.2.2.2.2.2.2.2.2.2.2.1 x.2.2.2.2.2.2.2.2.2.2.2.2 := hS
    have hst : rstep_t0 m x.1 x.2.1 x.2.2.1 x.2.2.2.1 x.2.2.2.2.1 x.2.2.2.2.2.1 x.2.2.2.2.2.2.1 x.2.2.2.2.2.2.2.1 x.2.2.2.2.2.2.2.2.1 x.2.2.2.2.2.2.2.2.2.1 x.2.2.2.2.2.2.2.2.2.2.1 x.2.2.2.2.2.2.2.2.2.2.2.1 x.2.2.2.2.2.2.2.2.2.2.2.2 = stp m x := rfl
    cases hok : rOk (stp m x) with
    | false =>
      have hok' : (stp m x).2.2.2.2.2.1 = false := hok
      have h := left_ok1 s m (stp m x).2.2.2.2.2.1 (stp m x).1 (stp m x).2.1 (stp m x).2.2.1 (stp m x).2.2.2.1 (stp m x).2.2.2.2.1 x.1 x.2.1 x.2.2.1 x.2.2.2.1 x.2.2.2.2.1 x.2.2.2.2.2.1 x.2.2.2.2.2.2.1 x.2.2.2.2.2.2.2.1 x.2.2.2.2.2.2.2.2.1 x.2.2.2.2.2.2.2.2.2.1 x.2.2.2.2.2.2.2.2.2.2.1 x.2.2.2.2.2.2.2.2.2.2.2.1 x.2.2.2.2.2.2.2.2.2.2.2.2
        (stp m x).2.2.2.2.2.2.1 (stp m x).2.2.2.2.2.2.2.1 (stp m x).2.2.2.2.2.2.2.2.1 (stp m x).2.2.2.2.2.2.2.2.2.1 (stp m x).2.2.2.2.2.2.2.2.2.2.1 (stp m x).2.2.2.2.2.2.2.2.2.2.2.1 (stp m x).2.2.2.2.2.2.2.2.2.2.2.2.1 (stp m x).2.2.2.2.2.2.2.2.2.2.2.2.2.1 (stp m x).2.2.2.2.2.2.2.2.2.2.2.2.2.2.1 (stp m x).2.2.2.2.2.2.2.2.2.2.2.2.2.2.2.1 (stp m x).2.2.2.2.2.2.2.2.2.2.2.2.2.2.2.2.1 (stp m x).2.2.2.2.2.2.2.2.2.2.2.2.2.2.2.2.2.1 (stp m x).2.2.2.2.2.2.2.2.2.2.2.2.2.2.2.2.2.2
        (by unfold left_S1; rw [hst, hok']; simp [hS0])
      unfold left_t1 at h
      rw [hst, hok'] at h
      have h2 : left_Q s m (hd s m (stp m x) x) (.inr true) := by unfold hd; rw [hok']; exact h
      exact left_end h2
    | true =>
      obtain ⟨hI', hmu⟩ := step_inv (m := m) hI (by rw [← hT]; exact hok)
      rw [← hT] at hI' hmu
      obtain ⟨hS', hT'⟩ := step_val m (rx (stp m x)) hI'
      have ih := run s m n (rx (stp m x)) hI' (by omega)
      have hok' : (stp m x).2.2.2.2.2.1 = true := hok
      have h := left_ok1 s m (stp m x).2.2.2.2.2.1 (stp m x).1 (stp m x).2.1 (stp m x).2.2.1 (stp m x).2.2.2.1 (stp m x).2.2.2.2.1 x.1 x.2.1 x.2.2.1 x.2.2.2.1 x.2.2.2.2.1 x.2.2.2.2.2.1 x.2.2.2.2.2.2.1 x.2.2.2.2.2.2.2.1 x.2.2.2.2.2.2.2.2.1 x.2.2.2.2.2.2.2.2.2.1 x.2.2.2.2.2.2.2.2.2.2.1 x.2.2.2.2.2.2.2.2.2.2.2.1 x.2.2.2.2.2.2.2.2.2.2.2.2
        (stp m x).2.2.2.2.2.2.1 (stp m x).2.2.2.2.2.2.2.1 (stp m x).2.2.2.2.2.2.2.2.1 (stp m x).2.2.2.2.2.2.2.2.2.1 (stp m x).2.2.2.2.2.2.2.2.2.2.1 (stp m x).2.2.2.2.2.2.2.2.2.2.2.1 (stp m x).2.2.2.2.2.2.2.2.2.2.2.2.1 (stp m x).2.2.2.2.2.2.2.2.2.2.2.2.2.1 (stp m x).2.2.2.2.2.2.2.2.2.2.2.2.2.2.1 (stp m x).2.2.2.2.2.2.2.2.2.2.2.2.2.2.2.1 (stp m x).2.2.2.2.2.2.2.2.2.2.2.2.2.2.2.2.1 (stp m x).2.2.2.2.2.2.2.2.2.2.2.2.2.2.2.2.2.1 (stp m x).2.2.2.2.2.2.2.2.2.2.2.2.2.2.2.2.2.2
        (by
          have hS1 : rstep_S0 m (rx (stp m x)).1 (rx (stp m x)).2.1 (rx (stp m x)).2.2.1 (rx (stp m x)).2.2.2.1 (rx (stp m x)).2.2.2.2.1 (rx (stp m x)).2.2.2.2.2.1 (rx (stp m x)).2.2.2.2.2.2.1 (rx (stp m x)).2.2.2.2.2.2.2.1 (rx (stp m x)).2.2.2.2.2.2.2.2.1 (rx (stp m x)).2.2.2.2.2.2.2.2.2.1 (rx (stp m x)).2.2.2.2.2.2.2.2.2.2.1 (rx (stp m x)).2.2.2.2.2.2.2.2.2.2.2.1 (rx (stp m x)).2.2.2.2.2.2.2.2.2.2.2.2 := hS'
          unfold rx at hS1
          unfold left_S1; rw [hst, hok']; simp [hS0, hS1])
      unfold left_t1 at h
      rw [hst, hok'] at h
      simp only [cond_true, beq_self_eq_true, Bool.and_self, Bool.not_true, cond_false] at h
      have h2 : left_Q s m (hd s m (stp m x) x) (.inl (let r := stp m (rx (stp m x)); let x := rx (stp m x); (r.2.2.2.2.2.1, r.1, r.2.1, r.2.2.1, r.2.2.2.1, r.2.2.2.2.1, x.1, x.2.1, x.2.2.1, x.2.2.2.1, x.2.2.2.2.1, x.2.2.2.2.2.1, x.2.2.2.2.2.2.1, x.2.2.2.2.2.2.2.1, x.2.2.2.2.2.2.2.2.1, x.2.2.2.2.2.2.2.2.2.1, x.2.2.2.2.2.2.2.2.2.2.1, x.2.2.2.2.2.2.2.2.2.2.2.1, x.2.2.2.2.2.2.2.2.2.2.2.2,
    r.2.2.2.2.2.2.1, r.2.2.2.2.2.2.2.1, r.2.2.2.2.2.2.2.2.1, r.2.2.2.2.2.2.2.2.2.1, r.2.2.2.2.2.2.2.2.2.2.1, r.2.2.2.2.2.2.2.2.2.2.2.1, r.2.2.2.2.2.2.2.2.2.2.2.2.1, r.2.2.2.2.2.2.2.2.2.2.2.2.2.1, r.2.2.2.2.2.2.2.2.2.2.2.2.2.2.1, r.2.2.2.2.2.2.2.2.2.2.2.2.2.2.2.1, r.2.2.2.2.2.2.2.2.2.2.2.2.2.2.2.2.1, r.2.2.2.2.2.2.2.2.2.2.2.2.2.2.2.2.2.1, r.2.2.2.2.2.2.2.2.2.2.2.2.2.2.2.2.2.2))) := by
        unfold hd; rw [hok']; exact h
      exact Gets.ends (left_go1 h2) ih
theorem all (s : ByteArray) (m : Bool) : AEnds E 3 0 (startC E 3 [.string s, .bool m] []) (.bool true) [] := by
  have ha := awake_safe
  by_cases c1 : 3000 < (slen s : Int)
  · have h := left_ok0 s m (by unfold left_S0; rw [decide_eq_true c1]; simp [ha])
    unfold left_t0 at h
    rw [decide_eq_true c1] at h
    exact left_end h
  have hl0 : slen (cat ⟨#[]⟩ s) = 0 + slen s := by simp [slen, cat, toL, ofL]
  have hI : Inv ((0, cat ⟨#[]⟩ s, false, 0, 0, false, 0, 0, 0, 0, 0, false, 0) : RX) := ⟨.inr (.inl rfl), by show slen (cat ⟨#[]⟩ s) ≤ _; omega⟩
  have hS := (step_val m _ hI).1
  have h := left_ok0 s m (by
    have hS1 : rstep_S0 m 0 (cat ⟨#[]⟩ s) false 0 0 false 0 0 0 0 0 false 0 := hS
    have hl : slen (⟨#[]⟩ : ByteArray) = 0 := rfl
    unfold left_S0; rw [decide_eq_false c1]; simp [ha, hS1, hl]; try omega)
  unfold left_t0 at h
  rw [decide_eq_false c1, cond_false] at h
  have hr := run s m (mu _ + 1) _ hI (Nat.lt_succ_self _)
  have e : rstep_t0 m 0 (cat ⟨#[]⟩ s) false 0 0 false 0 0 0 0 0 false 0 = stp m ((0, cat ⟨#[]⟩ s, false, 0, 0, false, 0, 0, 0, 0, 0, false, 0) : RX) := rfl
  rw [e] at h
  generalize stp m ((0, cat ⟨#[]⟩ s, false, 0, 0, false, 0, 0, 0, 0, 0, false, 0) : RX) = r at h hr
  exact Gets.ends (left_go1 h) hr

theorem walk (a0 : ByteArray) (w0 : a0.size ≤ maxLen) (a1 : Bool) (W : World) (args' : Array Value)
    (ha : ∀ ρ, VL (prOf W) (AN []) ρ [.string a0, .bool a1] args'.toList) :
    Calls Try.prog 3 args' W fun e w' => e = .returned (.bool true) ∧ Stays W w' :=
  calls_of_ends (all a0 a1) (by kernel_rfl) rfl ha

theorem own : ownKnob Try.prog.godebug = none := by kernel_rfl
theorem laid : laidOutB Try.prog = true := by kernel_rfl

set_option maxRecDepth 100000 in
theorem lifted (os : Os) (started : os.Started) (H : Type) (enc : TypeId × Value → H) :
    ReturnsInHanded {} Try.checked os 3 .any (Rows.framesLeftSpec.pre6 enc Try.prog Try.f3 Rows.framesLeftRow.domain false) (Rows.framesLeftSpec.post enc Try.prog Try.f3 false true false false) := by
  refine returnsInHanded_of_change (C := Try.checked) own started (by kernel_rfl) Try.func3
    (ChangeSpec.witness6 (enc := enc) (C := Try.checked) false ⟨#[], #[.string ⟨#[]⟩, .bool false], []⟩ 8 (by kernel_rfl) (by kernel_rfl) (by kernel_rfl) (by kernel_rfl)) ?_
  intro W base args ds gs before hval0 hW hcnd _
  have hval : ∀ (j : Nat) t v, Try.f3.params[j]? = some t → args[j]? = some v → Value.okWide Try.prog W .any base t v := hval0
  have hW' := hW
  obtain ⟨p, q, hA0, hV, rfl, hfz, hnd⟩ := hW
  have hA : DataW.TrodAll enc Try.prog W 0 (fun _ => true) true Try.f3.params.toList args.toList ds p := hA0
  rw [Try.params3] at hA hval
  obtain ⟨v0, vs0, d0, ds0, p0, q0, hargs, rfl, rfl, h0, r0⟩ := trodAll_cons hA
  obtain ⟨v1, vs1, d1, ds1, p1, q1, rfl, rfl, rfl, h1, r1⟩ := trodAll_cons r0
  obtain ⟨rfl, rfl, rfl⟩ := trodAll_nil r1
  obtain rfl : args = #[v0, v1] := by cases args; simp_all
  obtain ⟨a0, x0, w0⟩ := read_string Try.underlying9 (hval 0 9 v0 rfl rfl) h0
  obtain ⟨a1, x1⟩ := read_bool (H := H) (d := d1) (p := p1) Try.underlying4 (hval 1 4 v1 rfl rfl)
  refine (walk a0 w0 a1 W _ (fun ρ => .cons (x0 _ _) (.cons (x1 _ _) (.nil)))).mono fun e W' ⟨he, hg⟩ => ?_
  subst he
  exact ⟨_, rfl, post_law (tb := 4) laid (by rw [Try.params3]; intro t ht; simp only [List.mem_cons, List.not_mem_nil, or_false] at ht; rcases ht with rfl | rfl <;> exact ⟨by kernel_rfl, by decide +kernel⟩) rfl (by kernel_rfl) Try.underlying4 (by rintro _ rfl; rfl) hW' hg⟩

theorem over : Rows.framesLeftRow.holds Try.pinned (OpenSpec.ofChange Rows.framesLeftSpec) :=
  OpenClaim.holds_of_wide 3 Try.f3 rfl rfl rfl rfl rfl rfl rfl ⟨rfl, rfl, rfl, rfl, rfl⟩ rfl rfl rfl rfl rfl (by kernel_rfl) Try.func3 (by kernel_rfl)
    (of_decide_eq_true (by kernel_rfl)) (by unfold Func.isWrapper; first | (rw [if_pos (by decide +kernel)]; kernel_rfl) | (rw [if_neg (by decide +kernel)]; exact ⟨rfl, rfl⟩))
    (fun os started H enc _ => lifted os started H enc)

theorem proved : Rows.FramesLeftSaid :=
  over


end Go.Proofs.Ytfmcohbagbafmaa.framesLeft
