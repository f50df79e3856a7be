/-
  PROVED: the law FramesNobody hands back true at every input, and its arguments read behind the call as they read before.
-/
import Derived.Test.YtfmcohbagbafmaaRows
import Derived.Test.YtfmcohbagbafmaaFramesO
set_option linter.unusedVariables false
set_option linter.unusedSimpArgs false
open Go Go.Am Go.ChangeShapes Go.WideShapes Go.ChangeAt Go.RowKit
namespace Go.Proofs.Ytfmcohbagbafmaa.framesNobody
theorem all (s : ByteArray) : AEnds E 7 0 (startC E 7 [.string s] []) (.bool true) [] := by
  have ha := awake_safe
  by_cases c1 : 3000 < (slen s : Int)
  · have h := fnobody_ok0 s (by unfold fnobody_S0; rw [decide_eq_true c1]; simp [ha])
    unfold fnobody_t0 at h
    rw [decide_eq_true c1] at h
    exact h
  have hI : Inv (x0 s) := ⟨.inr (.inl rfl), by show slen s ≤ _; omega⟩
  have hmu : mu (x0 s) = 3 * slen s + 0 := by unfold mu; rfl
  have A := tell_all false (slen s + 1) s [] (mu (x0 s) + 1) (x0 s) rfl rfl (by omega) (by omega) (by omega)
  have hlen := tell_len false (mu (x0 s) + 1) (x0 s) []
  have hd : allD false (slen s + 1) s [] = allOf false s := rfl
  have ht : tell false (mu (x0 s) + 1) (x0 s) [] = tellOf false (x0 s) := rfl
  rw [hd, ht] at A
  rw [ht] at hlen
  obtain ⟨a1, a2, a3, a4, a5⟩ := A
  have p1 : rall_pre s false := by unfold rall_pre; omega
  have p2 : toldn_pre false 0 s false 0 0 false 0 0 0 0 0 false 0 := hI
  have p3 : same_pre (tellOf false (x0 s)).1.length (allOf false s).1.length (evsV (tellOf false (x0 s)).1) (evsV (allOf false s).1) :=
    ⟨(allOf false s).1, by rw [← a1]; simp at hlen; omega, by rw [a1], rfl, by rw [a1], rfl⟩
  have p4 : slen s ≤ 9223372036854775807 := by omega
  have hS0 : fnobody_S0 s := by
    unfold fnobody_S0
    simp only [cat_nil]
    rw [decide_eq_false c1]
    have k1 (a : Option Addr) (n c : Nat) : sliceLen (.slice a n c) = n := rfl
    have k2 (x y : List Value) (a b : Option Nat) (c d : TypeId) : cellsOf [some (.cells x c a), some (.cells y d b)] 0 = x := rfl
    have k3 (x y : List Value) (a b : Option Nat) (c d : TypeId) : cellsOf [some (.cells x c a), some (.cells y d b)] 1 = y := rfl
    generalize tellOf false (x0 s) = T at *
    simp only [evs_flat, k1, k2, k3, eqA_self, eqH_self]
    simp [ha, p1, p2, p3]
    try omega
  have h := fnobody_ok0 s hS0
  have htt : fnobody_t0 s = true := by
    unfold fnobody_t0
    simp only [cat_nil]
    rw [decide_eq_false c1]
    generalize tellOf false (x0 s) = T at *
    rw [a2, a3]
    unfold xSt xIn
    cases (T.2.1 == 2) <;> cases (T.2.1 == 0) <;> simp
  rw [htt] at h
  exact h

theorem walk (a0 : ByteArray) (w0 : a0.size ≤ maxLen) (W : World) (args' : Array Value)
    (ha : ∀ ρ, VL (prOf W) (AN []) ρ [.string a0] args'.toList) :
    Calls Try.prog 7 args' W fun e w' => e = .returned (.bool true) ∧ Stays W w' :=
  calls_of_ends (all a0) (by kernel_rfl) rfl ha

theorem own : ownKnob Try.prog.godebug = none := by kernel_rfl
theorem laid : laidOutB Try.prog = true := by kernel_rfl

set_option maxRecDepth 100000 in
theorem lifted (os : Os) (started : os.Started) (H : Type) (enc : TypeId × Value → H) :
    ReturnsInHanded {} Try.checked os 7 .any (Rows.framesNobodySpec.pre6 enc Try.prog Try.f7 Rows.framesNobodyRow.domain false) (Rows.framesNobodySpec.post enc Try.prog Try.f7 false true false false) := by
  refine returnsInHanded_of_change (C := Try.checked) own started (by kernel_rfl) Try.func7
    (ChangeSpec.witness6 (enc := enc) (C := Try.checked) false ⟨#[], #[.string ⟨#[]⟩], []⟩ 8 (by kernel_rfl) (by kernel_rfl) (by kernel_rfl) (by kernel_rfl)) ?_
  intro W base args ds gs before hval0 hW hcnd _
  have hval : ∀ (j : Nat) t v, Try.f7.params[j]? = some t → args[j]? = some v → Value.okWide Try.prog W .any base t v := hval0
  have hW' := hW
  obtain ⟨p, q, hA0, hV, rfl, hfz, hnd⟩ := hW
  have hA : DataW.TrodAll enc Try.prog W 0 (fun _ => true) true Try.f7.params.toList args.toList ds p := hA0
  rw [Try.params7] at hA hval
  obtain ⟨v0, vs0, d0, ds0, p0, q0, hargs, rfl, rfl, h0, r0⟩ := trodAll_cons hA
  obtain ⟨rfl, rfl, rfl⟩ := trodAll_nil r0
  obtain rfl : args = #[v0] := by cases args; simp_all
  obtain ⟨a0, x0, w0⟩ := read_string Try.underlying9 (hval 0 9 v0 rfl rfl) h0
  refine (walk a0 w0 W _ (fun ρ => .cons (x0 _ _) (.nil))).mono fun e W' ⟨he, hg⟩ => ?_
  subst he
  exact ⟨_, rfl, post_law (tb := 4) laid (by rw [Try.params7]; intro t ht; simp only [List.mem_cons, List.not_mem_nil, or_false] at ht; subst ht; exact ⟨by kernel_rfl, by decide +kernel⟩) rfl (by kernel_rfl) Try.underlying4 (by rintro _ rfl; rfl) hW' hg⟩

theorem over : Rows.framesNobodyRow.holds Try.pinned (OpenSpec.ofChange Rows.framesNobodySpec) :=
  OpenClaim.holds_of_wide 7 Try.f7 rfl rfl rfl rfl rfl rfl rfl ⟨rfl, rfl, rfl, rfl, rfl⟩ rfl rfl rfl rfl rfl (by kernel_rfl) Try.func7 (by kernel_rfl)
    (of_decide_eq_true (by kernel_rfl)) (by unfold Func.isWrapper; first | (rw [if_pos (by decide +kernel)]; kernel_rfl) | (rw [if_neg (by decide +kernel)]; exact ⟨rfl, rfl⟩))
    (fun os started H enc _ => lifted os started H enc)

theorem proved : Rows.FramesNobodySaid :=
  over


end Go.Proofs.Ytfmcohbagbafmaa.framesNobody
