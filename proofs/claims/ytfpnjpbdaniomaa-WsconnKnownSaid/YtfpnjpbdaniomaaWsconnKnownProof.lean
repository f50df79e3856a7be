/-
  PROVED: the law WsconnKnown, which has no input, hands back true and turns nothing that was there. Its run is carried out by Lean's kernel, example by example, on an abstract machine, which is proved to be followed by the model's own.
-/
import Derived.Test.YtfpnjpbdaniomaaRows
import Derived.Test.YtfpnjpbdaniomaaWsconnC
import Derived.Test.YtfpnjpbdaniomaaWsconnD
import Derived.Test.YtfpnjpbdaniomaaWsconnE
import Derived.Test.YtfpnjpbdaniomaaWsconnF
import Derived.Test.YtfpnjpbdaniomaaWsconnG
import Derived.Test.YtfpnjpbdaniomaaWsconnH
import Derived.Test.YtfpnjpbdaniomaaWsconnI
import Derived.Test.YtfpnjpbdaniomaaWsconnJ
import Derived.Test.YtfpnjpbdaniomaaWsconnK
import Derived.Test.YtfpnjpbdaniomaaWsconnL
set_option linter.unusedVariables false
set_option maxRecDepth 100000
set_option linter.unusedSimpArgs false
open Go Go.Am Go.ChangeShapes Go.WideShapes Go.ChangeAt Go.RowKit
namespace Go.Proofs.Ytfpnjpbdaniomaa.wsconnKnown
theorem all : AEnds E 8 0 (startC E 8 [] []) (.bool true) [] :=
  known_w0_0.ends (r0.ends (r1.ends (r2.ends (r3.ends (r4.ends (r5.ends (r6.ends (r7.ends (r8.ends (r9.ends (r10.ends (r11.ends (r12.ends (r13.ends (r14.ends (r15.ends (r16.ends (r17.ends (r18.ends (s1.ends (s2.ends (s3.ends (s4.ends fin)))))))))))))))))))))))

theorem own : ownKnob Try.prog.godebug = none := by kernel_rfl

theorem walk (w : World) : Calls Try.prog 8 #[] w fun e w' => e = .returned (.bool true) ∧ Stays w w' :=
  calls_of_ends all (by kernel_rfl) rfl (fun _ => .nil)

theorem contract (H : Type) (enc : TypeId × Value → H) (W : World) (args : Array Value) (ds gs : List (DataW H)) (before : List MemPlace)
    (hW : DataW.Whole enc Try.prog Try.f8.params.toList Rows.wsconnKnownSpec.vars false W args.toList ds gs before) :
    Calls Try.prog 8 args W fun e W' => ∃ v, e = .returned v ∧ Rows.wsconnKnownSpec.post enc Try.prog Try.f8 false true false false W args v W' := by
  have hW' := hW
  obtain ⟨p, q, hA0, hV, rfl, hfz, hnd⟩ := hW
  have hA : DataW.TrodAll enc Try.prog W 0 (fun _ => true) true Try.f8.params.toList args.toList ds p := hA0
  rw [Try.params8] at hA
  obtain ⟨rfl, rfl, rfl⟩ := trodAll_none hA
  obtain ⟨rfl, rfl⟩ := trodVars_none hV
  clear hA0
  simp only [List.append_nil] at hW'
  refine (walk W).mono fun e W' ⟨he, hg⟩ => ?_
  subst he
  exact ⟨_, rfl, post_of_stays (pa := []) (pv := []) hW' (fun _ _ _ => (trodAll_cons_mk (shut_bool Try.underlying4 _) trodAll_mk0)) (fun sp _ => rfl) (fun _ _ => rfl) rfl hg (ok_one (by kernel_rfl) rfl (okWide_bool_mk Try.underlying4 _))⟩

set_option maxRecDepth 100000 in
theorem lifted (os : Os) (started : os.Started) (H : Type) (enc : TypeId × Value → H) :
    ReturnsInHanded {} Try.checked os 8 .any (Rows.wsconnKnownSpec.pre6 enc Try.prog Try.f8 Rows.wsconnKnownRow.domain false) (Rows.wsconnKnownSpec.post enc Try.prog Try.f8 false true false false) := by
  refine returnsInHanded_of_change (C := Try.checked) own started (by kernel_rfl) Try.func8
    (ChangeSpec.witness6 (enc := enc) (C := Try.checked) false ⟨#[], #[], []⟩ 8 (by kernel_rfl) (by kernel_rfl) (by kernel_rfl) (by kernel_rfl)) ?_
  intro W base args ds gs before hval0 hW hcnd _
  exact contract H enc W args ds gs before hW

theorem over : Rows.wsconnKnownRow.holds Try.pinned (OpenSpec.ofChange Rows.wsconnKnownSpec) :=
  OpenClaim.holds_of_wide 8 Try.f8 rfl rfl rfl rfl rfl rfl rfl ⟨rfl, rfl, rfl, rfl, rfl⟩ rfl rfl rfl rfl rfl (by kernel_rfl) Try.func8 (by kernel_rfl)
    (of_decide_eq_true (by kernel_rfl)) (by unfold Func.isWrapper; first | (rw [if_pos (by decide +kernel)]; kernel_rfl) | (rw [if_neg (by decide +kernel)]; exact ⟨rfl, rfl⟩))
    (fun os started H enc _ => lifted os started H enc)

theorem proved : Rows.WsconnKnownSaid :=
  over


end Go.Proofs.Ytfpnjpbdaniomaa.wsconnKnown
