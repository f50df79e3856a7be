/-
  PROVED: the law ClosingBack hands back true at every input, and its arguments read behind the call as they read before.
-/
import Derived.Test.YtnimmocgnimdiaaRows
import Derived.Test.YtnimmocgnimdiaaClosingB
set_option linter.unusedVariables false
set_option linter.unusedSimpArgs false
open Go Go.Am Go.ChangeShapes Go.WideShapes Go.ChangeAt Go.RowKit
namespace Go.Proofs.Ytnimmocgnimdiaa.closingBack
theorem awake_safe : awake_S0 := by
  unfold awake_S0 creadc_pre cbytesc_pre mayc_pre
  refine ⟨trivial, trivial, by decide, by decide, by decide⟩
theorem two (code : Int) (h : 1000 ≤ code ∧ code ≤ 4999) : bytesOf [.int .u8 (code / 256), .int .u8 (code % 256)] = ofL [UInt8.ofNat (code / 256).toNat, UInt8.ofNat (code % 256).toNat] := rfl
theorem toL_cat (a b : ByteArray) : toL (cat a b) = toL a ++ toL b := by simp [cat, toL, ofL]
theorem ofL_toL (s : ByteArray) : ofL (toL s) = s := by cases s; simp [toL, ofL]
theorem ext {a b : ByteArray} (h : toL a = toL b) : a = b := by rw [← ofL_toL a, ← ofL_toL b, h]
theorem slen0 {s : ByteArray} : slen s = 0 ↔ toL s = [] := by unfold slen; cases toL s <;> simp
/-- Read of Bytes. -/
theorem back1 {code : Int} {t : ByteArray} (h : (cbT code t).2 = 0) : cdT (cbT code t).1 = (code, t, 0) ∧ slen (cbT code t).1 ≤ 125 := by
  unfold cbT at h ⊢
  by_cases c : code = 1005 ∧ toL t = []
  · rw [if_pos c]
    obtain ⟨rfl, ht⟩ := c
    have : t = ⟨#[]⟩ := ext (by rw [ht]; rfl)
    subst this
    exact ⟨rfl, by decide⟩
  · rw [if_neg c] at h ⊢
    cases hm : (mayP code && (decide (slen t ≤ 123) && textD t)) with
    | false => rw [hm] at h; cases h
    | true =>
      simp only [Bool.and_eq_true, decide_eq_true_eq] at hm
      obtain ⟨h1, h2, h3⟩ := hm
      have hb := mayP_bd h1
      rw [cond_true]
      have L : slen (cat (bytesOf [.int .u8 (code / 256), .int .u8 (code % 256)]) t) = 2 + slen t := by rw [slen_cat, bytesOf_len]; rfl
      have T : toL (cat (bytesOf [.int .u8 (code / 256), .int .u8 (code % 256)]) t) = UInt8.ofNat (code / 256).toNat :: UInt8.ofNat (code % 256).toNat :: toL t := by rw [toL_cat]; rfl
      generalize cat (bytesOf [.int .u8 (code / 256), .int .u8 (code % 256)]) t = x at L T
      refine ⟨?_, by show slen x ≤ 125; omega⟩
      have e0 : chr x 0 = code / 256 := by
        unfold chr; rw [T]
        show ((UInt8.ofNat (code / 256).toNat).toNat : Int) = _
        rw [UInt8.toNat_ofNat']; omega
      have e1 : chr x 1 = code % 256 := by
        unfold chr; rw [T]
        show ((UInt8.ofNat (code % 256).toNat).toNat : Int) = _
        rw [UInt8.toNat_ofNat']; omega
      have ec : codeOf x = code := by unfold codeOf; rw [e0, e1]; omega
      have es : sub x 2 (slen x) = t := by
        apply ext
        rw [toL_sub, T, L]
        show List.take (2 + slen t - 2) (toL t) = toL t
        rw [List.take_of_length_le (by unfold slen; omega)]
      unfold cdT
      rw [if_neg (show ¬ (slen x = 0) by omega), if_neg (show ¬ (slen x = 1) by omega), ec, es, h1, h3]
      rfl
/-- Bytes of Read. -/
theorem back2 {s : ByteArray} (h : (cdT s).2.2 = 0) : textD (cdT s).2.1 = true ∧ (slen s ≠ 0 → mayP (cdT s).1 = true) ∧ cbT (cdT s).1 (cdT s).2.1 = (if slen s ≤ 125 then (s, 0) else (⟨#[]⟩, 1)) := by
  unfold cdT at h ⊢
  by_cases c0 : slen s = 0
  · have : s = ⟨#[]⟩ := ext (by rw [slen0.1 c0]; rfl)
    subst this
    exact ⟨rfl, fun h => absurd c0 h, rfl⟩
  · rw [if_neg c0] at h ⊢
    by_cases c1 : slen s = 1
    · rw [if_pos c1] at h; cases h
    · rw [if_neg c1] at h ⊢
      cases h1 : mayP (codeOf s) with
      | false => rw [h1] at h; cases h
      | true =>
        rw [h1] at h
        cases h2 : textD (sub s 2 (slen s)) with
        | false => rw [h2] at h; cases h
        | true =>
          have hb := mayP_bd h1
          have b0 := chr_bd s 0
          have b1 := chr_bd s 1
          refine ⟨h2, fun _ => h1, ?_⟩
          show cbT (codeOf s) (sub s 2 (slen s)) = _
          unfold cbT
          have hm : ¬ (codeOf s = 1005 ∧ toL (sub s 2 (slen s)) = []) := by
            intro hh
            unfold mayP at h1
            simp at h1
            omega
          rw [if_neg hm, h1, h2]
          have L : slen (sub s 2 (slen s)) = slen s - 2 := by rw [slen_sub]; omega
          rw [L]
          by_cases c2 : slen s ≤ 125
          · rw [if_pos c2, decide_eq_true (show slen s - 2 ≤ 123 by omega)]
            have e : cat (bytesOf [.int .u8 (codeOf s / 256), .int .u8 (codeOf s % 256)]) (sub s 2 (slen s)) = s := by
              apply ext
              rw [toL_cat, toL_sub]
              have hl : 2 ≤ (toL s).length := by unfold slen at c0 c1; omega
              match hs : toL s, hl with
              | a :: b :: r, _ =>
                have d0 : chr s 0 = a.toNat := by unfold chr; rw [hs]; rfl
                have d1 : chr s 1 = b.toNat := by unfold chr; rw [hs]; rfl
                have d2 : slen s = r.length + 2 := by unfold slen; rw [hs]; rfl
                have e0 : codeOf s / 256 = (a.toNat : Int) := by unfold codeOf; omega
                have e1 : codeOf s % 256 = (b.toNat : Int) := by unfold codeOf; omega
                rw [e0, e1]
                have f (x : UInt8) : UInt8.ofNat ((x.toNat : Int)).toNat = x := by simp
                show UInt8.ofNat ((a.toNat : Int)).toNat :: UInt8.ofNat ((b.toNat : Int)).toNat :: List.take (slen s - 2) r = _
                rw [f, f, List.take_of_length_le (by omega)]
            rw [e]; rfl
          · rw [if_neg c2, decide_eq_false (show ¬ (slen s - 2 ≤ 123) by omega)]
            rfl
theorem bad {s : ByteArray} (h : (cdT s).2.2 ≠ 0) : (cdT s).1 = 0 ∧ (cdT s).2.1 = ⟨#[]⟩ ∧ ((cdT s).2.2 = 1002 ∨ ((cdT s).2.2 = 1007 ∧ 2 < slen s ∧ textD (sub s 2 (slen s)) = false)) := by
  unfold cdT at h ⊢
  by_cases c0 : slen s = 0
  · rw [if_pos c0] at h; exact absurd rfl h
  · rw [if_neg c0] at h ⊢
    by_cases c1 : slen s = 1
    · rw [if_pos c1]; exact ⟨rfl, rfl, .inl rfl⟩
    · rw [if_neg c1] at h ⊢
      cases h1 : mayP (codeOf s) with
      | false => exact ⟨rfl, rfl, .inl rfl⟩
      | true =>
        rw [h1] at h
        cases h2 : textD (sub s 2 (slen s)) with
        | true => rw [h2] at h; exact absurd rfl h
        | false =>
          refine ⟨rfl, rfl, .inr ⟨rfl, ?_, rfl⟩⟩
          apply Decidable.byContradiction
          intro hn
          have : slen (sub s 2 (slen s)) = 0 := by rw [slen_sub]; omega
          unfold textD at h2
          rw [slen0.1 this] at h2
          cases h2
theorem cb_err (code : Int) (t : ByteArray) (h : (cbT code t).2 ≠ 0) : (cbT code t).1 = ⟨#[]⟩ ∧ (cbT code t).2 = 1 := by
  unfold cbT at h ⊢
  by_cases c : code = 1005 ∧ toL t = []
  · rw [if_pos c] at h; exact absurd rfl h
  · rw [if_neg c] at h ⊢
    cases hm : (mayP code && (decide (slen t ≤ 123) && textD t)) with
    | true => rw [hm] at h; exact absurd rfl h
    | false => exact ⟨rfl, rfl⟩
theorem cdT_len (s : ByteArray) : slen (cdT s).2.1 ≤ slen s := by
  unfold cdT
  by_cases c0 : slen s = 0
  · rw [if_pos c0]; exact Nat.zero_le _
  · rw [if_neg c0]
    by_cases c1 : slen s = 1
    · rw [if_pos c1]; exact Nat.zero_le _
    · rw [if_neg c1]
      cases mayP (codeOf s) <;> cases textD (sub s 2 (slen s))
      all_goals first | exact Nat.zero_le _ | (show slen (sub s 2 (slen s)) ≤ _; rw [slen_sub]; omega)
theorem cbT_len (code : Int) (t : ByteArray) : slen (cbT code t).1 ≤ 2 + slen t := by
  unfold cbT
  by_cases c : code = 1005 ∧ toL t = []
  · rw [if_pos c]; exact Nat.zero_le _
  · rw [if_neg c]
    cases (mayP code && (decide (slen t ≤ 123) && textD t))
    · exact Nat.zero_le _
    · rw [cond_true, slen_cat, bytesOf_len]; exact Nat.le_refl _

theorem all (s t : ByteArray) (code : Int) (hc : -9223372036854775808 ≤ code ∧ code ≤ 9223372036854775807) : AEnds E 5 0 (startC E 5 [.string s, .string t, .int .i64 code] []) (.bool true) [] := by
  have ha := awake_safe
  by_cases c1 : 3000 < (slen s : Int)
  · have h := cback_ok0 s t code (by unfold cback_S0; rw [decide_eq_true c1]; simp [ha])
    unfold cback_t0 at h
    rw [decide_eq_true c1] at h
    exact h
  by_cases c2 : 3000 < (slen t : Int)
  · have h := cback_ok0 s t code (by unfold cback_S0; rw [decide_eq_false c1, decide_eq_true c2]; simp [ha])
    unfold cback_t0 at h
    rw [decide_eq_false c1, decide_eq_true c2] at h
    exact h
  have l1 := cdT_len s
  have l2 := cbT_len code t
  have p1 : creadc_pre s := by unfold creadc_pre; omega
  have p2 : creadc_pre (cbT code t).1 := by unfold creadc_pre; omega
  have p3 : cbytesc_pre code t := by unfold cbytesc_pre; omega
  have p4 : cbytesc_pre (cdT s).1 (cdT s).2.1 := by unfold cbytesc_pre; omega
  have p5 (c : Int) : mayc_pre c := trivial
  have p6 : valid_pre (cdT s).2.1 := by unfold valid_pre; omega
  have p7 : valid_pre (sub s 2 (slen s)) := by unfold valid_pre; rw [slen_sub]; omega
  have hS : cback_S0 s t code := by
    unfold cback_S0
    simp +contextual [ha, p1, p2, p3, p4, p5, p6, p7]
    try omega
  have h := cback_ok0 s t code hS
  -- the second half
  have second : (bif (cdT s).snd.snd != 0 then bif (cdT s).fst == 0 then bif toL (cdT s).snd.fst == [] then bif (cdT s).snd.snd == 1002 then true
                      else bif (cdT s).snd.snd == 1007 then bif decide (2 < (↑(slen s) : Int)) then !wholeD (0, 0, 0, 0) (toL (sub s 2 (slen s)))
                          else false
                        else false
                    else false
                  else false
                else bif decide (125 < (↑(slen s) : Int)) then (cbT (cdT s).fst (cdT s).snd.fst).snd == 1
                  else bif (cbT (cdT s).fst (cdT s).snd.fst).snd == 0 then bif toL (cbT (cdT s).fst (cdT s).snd.fst).fst == toL s then bif toL s == [] then wholeD (0, 0, 0, 0) (toL (cdT s).snd.fst)
                        else bif mayP (cdT s).fst then wholeD (0, 0, 0, 0) (toL (cdT s).snd.fst)
                          else false
                      else false
                    else false) = true := by
    by_cases hb : (cdT s).2.2 = 0
    · obtain ⟨b1, b2, b3⟩ := back2 hb
      rw [b3, hb]
      have b1' : wholeD (0, 0, 0, 0) (toL (cdT s).2.1) = true := b1
      rw [b1']
      by_cases c3 : slen s ≤ 125
      · rw [if_pos c3, decide_eq_false (show ¬ (125 < (slen s : Int)) by omega)]
        by_cases c4 : slen s = 0
        · simp [slen0.1 c4]
        · rw [b2 c4]; simp
      · rw [if_neg c3, decide_eq_true (show (125 < (slen s : Int)) by omega)]
        rfl
    · obtain ⟨b1, b2, b3⟩ := bad hb
      rw [b1, b2]
      rcases b3 with b3 | ⟨b3, b4, b5⟩
      · rw [b3]; rfl
      · have b5' : wholeD (0, 0, 0, 0) (toL (sub s 2 (slen s))) = false := b5
        rw [b3, b5', decide_eq_true (show (2 < (slen s : Int)) by omega)]; rfl
  have ht : cback_t0 s t code = true := by
    unfold cback_t0
    rw [decide_eq_false c1, decide_eq_false c2]
    rw [second]
    by_cases h0 : (cbT code t).2 = 0
    · obtain ⟨r1, r2⟩ := back1 h0
      rw [r1, h0, decide_eq_false (show ¬ (125 < (slen (cbT code t).1 : Int)) by omega)]
      simp
    · obtain ⟨r1, r2⟩ := cb_err code t h0
      rw [r1, r2]
      rfl
  rw [ht] at h
  exact h

theorem walk (a0 : ByteArray) (w0 : a0.size ≤ maxLen) (a1 : ByteArray) (w1 : a1.size ≤ maxLen) (a2 : Int) (w2 : (Lit.int .i64 a2).wf = true) (W : World) (args' : Array Value)
    (ha : ∀ ρ, VL (prOf W) (AN []) ρ [.string a0, .string a1, .int .i64 a2] args'.toList) :
    Calls Try.prog 5 args' W fun e w' => e = .returned (.bool true) ∧ Stays W w' :=
  calls_of_ends (all a0 a1 a2 (by simp [Lit.wf, IntKind.min, IntKind.max, IntKind.bits, IntKind.signed] at w2; omega)) (by kernel_rfl) rfl ha

theorem own : ownKnob Try.prog.godebug = none := by kernel_rfl
theorem laid : laidOutB Try.prog = true := by kernel_rfl

set_option maxRecDepth 100000 in
theorem lifted (os : Os) (started : os.Started) (H : Type) (enc : TypeId × Value → H) :
    ReturnsInHanded {} Try.checked os 5 .any (Rows.closingBackSpec.pre6 enc Try.prog Try.f5 Rows.closingBackRow.domain false) (Rows.closingBackSpec.post enc Try.prog Try.f5 false true false false) := by
  refine returnsInHanded_of_change (C := Try.checked) own started (by kernel_rfl) Try.func5
    (ChangeSpec.witness6 (enc := enc) (C := Try.checked) false ⟨#[], #[.string ⟨#[]⟩, .string ⟨#[]⟩, .int .i64 0], []⟩ 8 (by kernel_rfl) (by kernel_rfl) (by kernel_rfl) (by kernel_rfl)) ?_
  intro W base args ds gs before hval0 hW hcnd _
  have hval : ∀ (j : Nat) t v, Try.f5.params[j]? = some t → args[j]? = some v → Value.okWide Try.prog W .any base t v := hval0
  have hW' := hW
  obtain ⟨p, q, hA0, hV, rfl, hfz, hnd⟩ := hW
  have hA : DataW.TrodAll enc Try.prog W 0 (fun _ => true) true Try.f5.params.toList args.toList ds p := hA0
  rw [Try.params5] at hA hval
  obtain ⟨v0, vs0, d0, ds0, p0, q0, hargs, rfl, rfl, h0, r0⟩ := trodAll_cons hA
  obtain ⟨v1, vs1, d1, ds1, p1, q1, rfl, rfl, rfl, h1, r1⟩ := trodAll_cons r0
  obtain ⟨v2, vs2, d2, ds2, p2, q2, rfl, rfl, rfl, h2, r2⟩ := trodAll_cons r1
  obtain ⟨rfl, rfl, rfl⟩ := trodAll_nil r2
  obtain rfl : args = #[v0, v1, v2] := by cases args; simp_all
  obtain ⟨a0, x0, w0⟩ := read_string Try.underlying9 (hval 0 9 v0 rfl rfl) h0
  obtain ⟨a1, x1, w1⟩ := read_string Try.underlying9 (hval 1 9 v1 rfl rfl) h1
  obtain ⟨a2, x2, w2⟩ := read_int Try.underlying3 (hval 2 3 v2 rfl rfl) h2
  refine (walk a0 w0 a1 w1 a2 w2 W _ (fun ρ => .cons (x0 _ _) (.cons (x1 _ _) (.cons (x2 _ _) (.nil))))).mono fun e W' ⟨he, hg⟩ => ?_
  subst he
  exact ⟨_, rfl, post_law (tb := 4) laid (by rw [Try.params5]; intro t ht; simp only [List.mem_cons, List.not_mem_nil, or_false] at ht; rcases ht with rfl | rfl | rfl <;> exact ⟨by kernel_rfl, by decide +kernel⟩) rfl (by kernel_rfl) Try.underlying4 (by rintro _ rfl; rfl) hW' hg⟩

theorem over : Rows.closingBackRow.holds Try.pinned (OpenSpec.ofChange Rows.closingBackSpec) :=
  OpenClaim.holds_of_wide 5 Try.f5 rfl rfl rfl rfl rfl rfl rfl ⟨rfl, rfl, rfl, rfl, rfl⟩ rfl rfl rfl rfl rfl (by kernel_rfl) Try.func5 (by kernel_rfl)
    (of_decide_eq_true (by kernel_rfl)) (by unfold Func.isWrapper; first | (rw [if_pos (by decide +kernel)]; kernel_rfl) | (rw [if_neg (by decide +kernel)]; exact ⟨rfl, rfl⟩))
    (fun os started H enc _ => lifted os started H enc)

theorem proved : Rows.ClosingBackSaid :=
  over


end Go.Proofs.Ytnimmocgnimdiaa.closingBack
