/-
  PROVED: the law FrameOnce hands back true at every input, and its arguments read behind the call as they read before.
-/
import Derived.Test.YtkpkompmfijgkaaRows
import Derived.Test.YtkpkompmfijgkaaFrameJc
import Derived.Test.YtkpkompmfijgkaaFrameN
set_option linter.unusedVariables false
set_option linter.unusedSimpArgs false
open Go Go.Am Go.ChangeShapes Go.WideShapes Go.ChangeAt Go.RowKit
namespace Go.Proofs.Ytkpkompmfijgkaa.frameOnce

theorem all (s : ByteArray) : AEnds E 9 0 (startC E 9 [.string s] []) (.bool true) [] := by
  have ha := awake_safe
  by_cases c1 : 5000 < (slen s : Int)
  · have h := once_ok0 s (by unfold once_S0; rw [decide_eq_true c1]; simp [ha])
    unfold once_t0 at h
    rw [decide_eq_true c1] at h
    exact h
  have p1 : freadc_pre s := by unfold freadc_pre; omega
  have p2 : headc_pre s := trivial
  have hN2 := hN_bd s
  have hL := hLen_bd s
  by_cases hok : hOk s = true ∧ hLen s ≤ slen s - hN s
  · obtain ⟨ho, hlen⟩ := hok
    have hn := hOk_le ho
    have Z : readT s = (decide (128 ≤ chr s 0), chr s 0 / 16 % 8, chr s 0 % 16, hMask s, hKey s 0, hKey s 1, hKey s 2, hKey s 3, maskD [hKey s 0, hKey s 1, hKey s 2, hKey s 3] 0 (sub s (hN s).toNat (hN s + hLen s).toNat), hN s + hLen s, 0) := by
      unfold readT
      rw [ho, decide_eq_false (show ¬ (2147483647 < hLen s) by omega), decide_eq_false (show ¬ ((slen s : Int) - hN s < hLen s) by omega)]
      rfl
    have hD : (slen (maskD [hKey s 0, hKey s 1, hKey s 2, hKey s 3] 0 (sub s (hN s).toNat (hN s + hLen s).toNat)) : Int) = hLen s := by
      rw [maskD_len, slen_sub]; omega
    have OK := reOkay s (by omega)
    have hk : keyOk [hKey s 0, hKey s 1, hKey s 2, hKey s 3] := keyOk4 OK.b0 OK.b1 OK.b2 OK.b3
    obtain ⟨r1, r2, r3⟩ := re_head s (by omega)
    have hmm : maskL [hKey s 0, hKey s 1, hKey s 2, hKey s 3] 0 (toL (maskD [hKey s 0, hKey s 1, hKey s 2, hKey s 3] 0 (sub s (hN s).toNat (hN s + hLen s).toNat))) = toL (sub s (hN s).toNat (hN s + hLen s).toNat) := by
      rw [show (0 : Int) = ((0 : Nat) : Int) from rfl, maskD_nat, toL_ofL, maskL_twice hk]
    have hhT : headT s = (decide (128 ≤ chr s 0), chr s 0 / 16 % 8, chr s 0 % 16, hMask s, hKey s 0, hKey s 1, hKey s 2, hKey s 3, hLen s, hLeast s, hN s, true) := by
      unfold headT; rw [ho]; rfl
    generalize maskD [hKey s 0, hKey s 1, hKey s 2, hKey s 3] 0 (sub s (hN s).toNat (hN s + hLen s).toNat) = D at *
    rw [← hD] at OK
    have B := bytesT_wr (fin := decide (128 ≤ chr s 0)) OK
    have Rw := read_wr (fin := decide (128 ≤ chr s 0)) OK
    have T := toL_wr (decide (128 ≤ chr s 0)) (chr s 0 / 16 % 8) (chr s 0 % 16) (hMask s) (hKey s 0) (hKey s 1) (hKey s 2) (hKey s 3) D
    have L := slen_wr (decide (128 ≤ chr s 0)) (chr s 0 / 16 % 8) (chr s 0 % 16) (hMask s) (hKey s 0) (hKey s 1) (hKey s 2) (hKey s 3) D
    have hre : hI (decide (128 ≤ chr s 0)) (chr s 0 / 16 % 8) (chr s 0 % 16) (hMask s) (hKey s 0) (hKey s 1) (hKey s 2) (hKey s 3) (slen D) = reI s := by rw [hD]; rfl
    rw [hre] at T L
    rw [hmm] at T
    generalize hx : wr (decide (128 ≤ chr s 0)) (chr s 0 / 16 % 8) (chr s 0 % 16) (hMask s) (hKey s 0) (hKey s 1) (hKey s 2) (hKey s 3) D = x at *
    have hcut : toL (sub s 0 (hN s + hLen s).toNat) = (toL s).take (hN s).toNat ++ toL (sub s (hN s).toNat (hN s + hLen s).toNat) := by
      rw [toL_sub, toL_sub, List.drop_zero, Nat.sub_zero]
      rw [show (hN s + hLen s).toNat = (hN s).toNat + (hLen s).toNat by omega, List.take_add, Nat.add_sub_cancel_left]
    have hleast : (hLeast s == (toL x == toL (sub s 0 (hN s + hLen s).toNat))) = true := by
      cases hl : hLeast s
      · have hlt := r3 hl
        have : (toL x == toL (sub s 0 (hN s + hLen s).toNat)) = false := by
          simp only [beq_eq_false_iff_ne]
          intro he
          have := congrArg List.length he
          have e2 : (toL (sub s 0 (hN s + hLen s).toNat)).length = min ((hN s + hLen s).toNat - 0) (slen s - 0) := slen_sub s 0 _
          have e3 : (toL x).length = (reI s).length + slen D := L
          omega
        rw [this]; rfl
      · have : toL x = toL (sub s 0 (hN s + hLen s).toNat) := by
          rw [T, hcut, take_chr s _ (by omega), r2 hl]
        rw [this]; simp
    have p3 (f : Bool) (r o : Int) (m : Bool) (a b c e : Int) : fbytesc_pre f r o m a b c e D := by unfold fbytesc_pre; omega
    have p4 : freadc_pre x := by unfold freadc_pre; omega
    have hS : once_S0 s := by
      unfold once_S0
      rw [Z]
      simp only [B, Rw, hhT]
      simp [ha, p1, p2, p3, p4]
      omega
    have h := once_ok0 s hS
    have ht : once_t0 s = true := by
      unfold once_t0
      rw [Z]
      simp only [B, Rw, hhT, hleast]
      rw [decide_eq_false c1, decide_eq_false (show ¬ (hN s + hLen s < 2) by omega), decide_eq_false (show ¬ ((slen s : Int) < hN s + hLen s) by omega), decide_eq_true (show (slen x : Int) ≤ hN s + hLen s by omega)]
      simp
    rw [ht] at h
    exact h
  · have Z : ∃ e, readT s = (false, 0, 0, false, 0, 0, 0, 0, ⟨#[]⟩, 0, e) ∧ e ≠ 0 := by
      unfold readT
      cases ho : hOk s
      · exact ⟨7, rfl, by decide⟩
      · by_cases c2 : 2147483647 < hLen s
        · rw [decide_eq_true c2]; exact ⟨3, rfl, by decide⟩
        · rw [decide_eq_false c2, decide_eq_true (show (slen s : Int) - hN s < hLen s by
            apply Decidable.byContradiction
            intro hh
            exact hok ⟨ho, by omega⟩)]
          exact ⟨7, rfl, by decide⟩
    obtain ⟨e, Z, he⟩ := Z
    have he2 : (e != 0) = true := by simpa using he
    have hS : once_S0 s := by
      unfold once_S0
      rw [Z]
      simp [ha, p1, p2, he]
    have h := once_ok0 s hS
    have ht : once_t0 s = true := by
      unfold once_t0
      rw [Z, decide_eq_false c1]
      simp [he, toL]
    rw [ht] at h
    exact h

theorem walk (a0 : ByteArray) (w0 : a0.size ≤ maxLen) (W : World) (args' : Array Value)
    (ha : ∀ ρ, VL (prOf W) (AN []) ρ [.string a0] args'.toList) :
    Calls Try.prog 9 args' W fun e w' => e = .returned (.bool true) ∧ Stays W w' :=
  calls_of_ends (all a0) (by kernel_rfl) rfl ha

theorem own : ownKnob Try.prog.godebug = none := by kernel_rfl
theorem laid : laidOutB Try.prog = true := by kernel_rfl

set_option maxRecDepth 100000 in
theorem lifted (os : Os) (started : os.Started) (H : Type) (enc : TypeId × Value → H) :
    ReturnsInHanded {} Try.checked os 9 .any (Rows.frameOnceSpec.pre6 enc Try.prog Try.f9 Rows.frameOnceRow.domain false) (Rows.frameOnceSpec.post enc Try.prog Try.f9 false true false false) := by
  refine returnsInHanded_of_change (C := Try.checked) own started (by kernel_rfl) Try.func9
    (ChangeSpec.witness6 (enc := enc) (C := Try.checked) false ⟨#[], #[.string ⟨#[]⟩], []⟩ 8 (by kernel_rfl) (by kernel_rfl) (by kernel_rfl) (by kernel_rfl)) ?_
  intro W base args ds gs before hval0 hW hcnd _
  have hval : ∀ (j : Nat) t v, Try.f9.params[j]? = some t → args[j]? = some v → Value.okWide Try.prog W .any base t v := hval0
  have hW' := hW
  obtain ⟨p, q, hA0, hV, rfl, hfz, hnd⟩ := hW
  have hA : DataW.TrodAll enc Try.prog W 0 (fun _ => true) true Try.f9.params.toList args.toList ds p := hA0
  rw [Try.params9] at hA hval
  obtain ⟨v0, vs0, d0, ds0, p0, q0, hargs, rfl, rfl, h0, r0⟩ := trodAll_cons hA
  obtain ⟨rfl, rfl, rfl⟩ := trodAll_nil r0
  obtain rfl : args = #[v0] := by cases args; simp_all
  obtain ⟨a0, x0, w0⟩ := read_string Try.underlying9 (hval 0 9 v0 rfl rfl) h0
  refine (walk a0 w0 W _ (fun ρ => .cons (x0 _ _) (.nil))).mono fun e W' ⟨he, hg⟩ => ?_
  subst he
  exact ⟨_, rfl, post_law (tb := 4) laid (by rw [Try.params9]; intro t ht; simp only [List.mem_cons, List.not_mem_nil, or_false] at ht; subst ht; exact ⟨by kernel_rfl, by decide +kernel⟩) rfl (by kernel_rfl) Try.underlying4 (by rintro _ rfl; rfl) hW' hg⟩

theorem over : Rows.frameOnceRow.holds Try.pinned (OpenSpec.ofChange Rows.frameOnceSpec) :=
  OpenClaim.holds_of_wide 9 Try.f9 rfl rfl rfl rfl rfl rfl rfl ⟨rfl, rfl, rfl, rfl, rfl⟩ rfl rfl rfl rfl rfl (by kernel_rfl) Try.func9 (by kernel_rfl)
    (of_decide_eq_true (by kernel_rfl)) (by unfold Func.isWrapper; first | (rw [if_pos (by decide +kernel)]; kernel_rfl) | (rw [if_neg (by decide +kernel)]; exact ⟨rfl, rfl⟩))
    (fun os started H enc _ => lifted os started H enc)

theorem proved : Rows.FrameOnceSaid :=
  over


end Go.Proofs.Ytkpkompmfijgkaa.frameOnce
