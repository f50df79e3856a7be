/-
  PROVED: the law FrameBack hands back true at every input, and its arguments read behind the call as they read before.
-/
import Derived.Test.YtkpkompmfijgkaaRows
import Derived.Test.YtkpkompmfijgkaaFrameJa
import Derived.Test.YtkpkompmfijgkaaFrameM
set_option linter.unusedVariables false
set_option linter.unusedSimpArgs false
open Go Go.Am Go.ChangeShapes Go.WideShapes Go.ChangeAt Go.RowKit
namespace Go.Proofs.Ytkpkompmfijgkaa.frameBack

def f8 (x : Int) : UInt8 := UInt8.ofNat x.toNat
theorem f8_val {x : Int} (h : 0 ≤ x ∧ x < 256) : ((f8 x).toNat : Int) = x := by unfold f8; rw [UInt8.toNat_ofNat']; omega
theorem agree {y : ByteArray} {H : List Int} {r : List UInt8} (hb : ∀ x ∈ H, 0 ≤ x ∧ x < 256) (hy : toL y = H.map f8 ++ r) (i : Nat) (hi : i < H.length) : chr y i = H.getD i 0 := by
  unfold chr
  rw [hy]
  have e1 : (H.map f8 ++ r).getD i 0 = f8 H[i] := by
    simp [List.getD_eq_getElem?_getD, List.getElem?_append, hi]
  have e2 : H.getD i 0 = H[i] := by simp [List.getD_eq_getElem?_getD, hi]
  rw [e1, e2, f8_val (hb _ (List.getElem_mem hi))]
theorem bytesOf_map (H : List Int) : bytesOf (H.map (Value.int .u8)) = ofL (H.map f8) := by
  unfold bytesOf
  rw [List.map_map]
  rfl

theorem all (fin : Bool) (rsv : Int) (hr : -9223372036854775808 ≤ rsv ∧ rsv ≤ 9223372036854775807) (op : Int) (ho : -9223372036854775808 ≤ op ∧ op ≤ 9223372036854775807) (masked : Bool) (k0 : Int) (hk0 : 0 ≤ k0 ∧ k0 ≤ 255) (k1 : Int) (hk1 : 0 ≤ k1 ∧ k1 ≤ 255) (k2 : Int) (hk2 : 0 ≤ k2 ∧ k2 ≤ 255) (k3 : Int) (hk3 : 0 ≤ k3 ∧ k3 ≤ 255) (d behind : ByteArray) (cut : Int) (hcut : 0 ≤ cut ∧ cut ≤ 4294967295) :
    AEnds E 7 0 (startC E 7 [.agg #[.bool fin, .int .i64 rsv, .int .i64 op, .bool masked, .int .u8 k0, .int .u8 k1, .int .u8 k2, .int .u8 k3, .string d], .string behind, .int .u32 cut] []) (.bool true) [] := by
  have ha := awake_safe
  by_cases c1 : 70000 < (slen d : Int)
  · have h := back_ok0 fin rsv op masked k0 k1 k2 k3 d behind cut (by unfold back_S0; rw [decide_eq_true c1]; simp [ha])
    unfold back_t0 at h
    rw [decide_eq_true c1] at h
    exact h
  by_cases c2 : 300 < (slen behind : Int)
  · have h := back_ok0 fin rsv op masked k0 k1 k2 k3 d behind cut (by unfold back_S0; rw [decide_eq_false c1, decide_eq_true c2]; simp [ha])
    unfold back_t0 at h
    rw [decide_eq_false c1, decide_eq_true c2] at h
    exact h
  have p1 : fbytesc_pre fin rsv op masked k0 k1 k2 k3 d := by unfold fbytesc_pre; omega
  by_cases hbad : badF rsv op masked k0 k1 k2 k3
  · have e : bytesT fin rsv op masked k0 k1 k2 k3 d = (⟨#[]⟩, 1) := by unfold bytesT; rw [if_pos hbad]
    have hS : back_S0 fin rsv op masked k0 k1 k2 k3 d behind cut := by
      unfold back_S0
      rw [e, decide_eq_false c1, decide_eq_false c2]
      simp [ha, p1, toL]
    have h := back_ok0 fin rsv op masked k0 k1 k2 k3 d behind cut hS
    have ht : back_t0 fin rsv op masked k0 k1 k2 k3 d behind cut = true := by
      unfold back_t0
      rw [e, decide_eq_false c1, decide_eq_false c2]
      unfold badF at hbad
      by_cases d1 : rsv < 0
      · simp [d1, toL]
      by_cases d2 : 7 < rsv
      · simp [d2, toL]
      by_cases d3 : op < 0
      · simp [d3, toL]
      by_cases d4 : 15 < op
      · simp [d4, toL]
      simp only [d1, d2, d3, d4, false_or] at hbad
      obtain ⟨rfl, hk⟩ := hbad
      have hk' : (k0 == 0 && (k1 == 0 && (k2 == 0 && (k3 == 0 && true)))) = false := by
        cases hx : (k0 == 0 && (k1 == 0 && (k2 == 0 && (k3 == 0 && true))))
        · rfl
        · exfalso; apply hk; simpa using hx
      rw [hk']
      simp [toL]
    rw [ht] at h
    exact h
  · have hok : Okay rsv op masked k0 k1 k2 k3 (slen d) := by
      unfold badF at hbad
      refine ⟨by omega, by omega, by omega, by omega, by omega, by omega, fun hm => ?_, hk0, hk1, hk2, hk3⟩
      apply Decidable.byContradiction
      intro hn
      exact hbad (.inr (.inr (.inr (.inr ⟨hm, hn⟩))))
    have hbd := hI_bd (fin := fin) hok
    have hlen := hI_len fin rsv op masked k0 k1 k2 k3 (slen d)
    have hl14 : (hI fin rsv op masked k0 k1 k2 k3 (slen d)).length ≤ 14 ∧ 2 ≤ (hI fin rsv op masked k0 k1 k2 k3 (slen d)).length := by
      cases masked <;> simp at hlen <;> (repeat' split at hlen) <;> omega
    have e : bytesT fin rsv op masked k0 k1 k2 k3 d = (cat (ofL ((hI fin rsv op masked k0 k1 k2 k3 (slen d)).map f8)) (maskD [k0, k1, k2, k3] 0 d), 0) := by
      unfold bytesT; rw [if_neg hbad, hdrV_hI, bytesOf_map]
    have hL := head_long (fin := fin) hok (s := cat (cat (ofL ((hI fin rsv op masked k0 k1 k2 k3 (slen d)).map f8)) (maskD [k0, k1, k2, k3] 0 d)) behind)
    have hS1 := head_short (fin := fin) hok (s := sub (cat (ofL ((hI fin rsv op masked k0 k1 k2 k3 (slen d)).map f8)) (maskD [k0, k1, k2, k3] 0 d)) 0 (cut.toNat % ((hI fin rsv op masked k0 k1 k2 k3 (slen d)).length + slen d)))
    have hS2 := head_long (fin := fin) hok (s := sub (cat (ofL ((hI fin rsv op masked k0 k1 k2 k3 (slen d)).map f8)) (maskD [k0, k1, k2, k3] 0 d)) 0 (cut.toNat % ((hI fin rsv op masked k0 k1 k2 k3 (slen d)).length + slen d)))
    generalize hH : hI fin rsv op masked k0 k1 k2 k3 (slen d) = H at *
    have hx1 : toL (cat (ofL (H.map f8)) (maskD [k0, k1, k2, k3] 0 d)) = H.map f8 ++ maskL [k0, k1, k2, k3] 0 (toL d) := by
      rw [toL_cat, toL_ofL, show (0 : Int) = ((0 : Nat) : Int) from rfl, maskD_nat, toL_ofL]
    have hx2 : slen (cat (ofL (H.map f8)) (maskD [k0, k1, k2, k3] 0 d)) = H.length + slen d := by
      rw [slen_cat, slen_ofL, List.length_map, maskD_len]
    generalize hxx : cat (ofL (H.map f8)) (maskD [k0, k1, k2, k3] 0 d) = x at *
    have hc : (IntKind.i64.wrap cut).tmod (slen x : Int) = ((cut.toNat % (H.length + slen d) : Nat) : Int) := by
      rw [wrap64_in (by omega) (by omega), Int.tmod_eq_emod_of_nonneg hcut.1, hx2, Int.natCast_emod, Int.toNat_of_nonneg hcut.1]
    have hclt : cut.toNat % (H.length + slen d) < H.length + slen d := Nat.mod_lt _ (by omega)
    generalize cut.toNat % (H.length + slen d) = c at *
    have hy1 : toL (cat x behind) = H.map f8 ++ (maskL [k0, k1, k2, k3] 0 (toL d) ++ toL behind) := by rw [toL_cat, hx1, List.append_assoc]
    have hy2 : slen (cat x behind) = H.length + slen d + slen behind := by rw [slen_cat, hx2]
    have hz2 : slen (sub x 0 c) = c := by rw [slen_sub, hx2]; omega
    have agz : ∀ i, i < H.length → i < slen (sub x 0 c) → chr (sub x 0 c) i = H.getD i 0 := by
      intro i hi hi2
      rw [hz2] at hi2
      have := agree hbd hx1 i hi
      rw [← this]
      unfold chr
      rw [toL_sub]
      simp [List.getD_eq_getElem?_getD, List.getElem?_take, hi2]
    have Y := hL (fun i hi _ => agree hbd hy1 i hi) (by omega)
    have hz : readT (sub x 0 c) = (false, 0, 0, false, 0, 0, 0, 0, ⟨#[]⟩, 0, 7) := by
      unfold readT
      rcases Nat.lt_or_ge c H.length with hcl | hcl
      · rw [hS1 agz (by omega)]
        rfl
      · have Z := hS2 agz (by omega)
        rw [Z.ok, Z.len, Z.hn, hz2, decide_eq_false (show ¬ (2147483647 < (slen d : Int)) by omega), decide_eq_true (show ((c : Int) - (H.length : Int) < (slen d : Int)) by omega)]
        rfl
    have hdd : maskD [k0, k1, k2, k3] 0 (sub (cat x behind) H.length (H.length + slen d)) = d := by
      rw [show (0 : Int) = ((0 : Nat) : Int) from rfl, maskD_nat, toL_sub, hy1]
      rw [List.drop_append_of_le_length (by simp), List.drop_of_length_le (by simp), List.nil_append, show H.length + slen d - H.length = (maskL [k0, k1, k2, k3] 0 (toL d)).length by rw [maskL_len]; unfold slen; omega]
      rw [List.take_left', maskL_twice (keyOk4 hk0 hk1 hk2 hk3), ofL_toL]
      rfl
    have hy : readT (cat x behind) = (fin, rsv, op, masked, k0, k1, k2, k3, d, (H.length : Int) + slen d, 0) := by
      unfold readT
      rw [Y.ok, Y.len, Y.hn, Y.mask, Y.key0, Y.key1, Y.key2, Y.key3, Y.hfin, Y.hrsv, Y.hop, hy2, decide_eq_false (show ¬ (2147483647 < (slen d : Int)) by omega), decide_eq_false (show ¬ (((H.length + slen d + slen behind : Nat) : Int) - (H.length : Int) < (slen d : Int)) by omega)]
      rw [show ((H.length : Int)).toNat = H.length by omega, show ((H.length : Int) + (slen d : Int)).toNat = H.length + slen d by omega, hdd]
      rfl
    have hh : headT (cat x behind) = (fin, rsv, op, masked, k0, k1, k2, k3, (slen d : Int), true, (H.length : Int), true) := by
      unfold headT
      rw [Y.ok, Y.len, Y.hn, Y.mask, Y.least, Y.key0, Y.key1, Y.key2, Y.key3, Y.hfin, Y.hrsv, Y.hop]
      rfl
    have w1 : IntKind.i64.wrap (((slen x : Nat) : Int) - (slen d : Int)) = H.length := by rw [hx2, wrap64_in (by omega) (by omega)]; omega
    have w2 : IntKind.u64.wrap (slen d : Int) = slen d := wrapU64 (by omega) (by omega)
    have q1 : freadc_pre (cat x behind) := by unfold freadc_pre; omega
    have q2 : freadc_pre (sub x 0 c) := by unfold freadc_pre; omega
    have q3 : headc_pre (cat x behind) := trivial
    have q4 : slen x + slen behind ≤ 9223372036854775807 := by omega
    have q5 : ¬ ((slen x : Int) = 0) := by omega
    have q6 : c ≤ slen x := by omega
    have hS : back_S0 fin rsv op masked k0 k1 k2 k3 d behind cut := by
      unfold back_S0
      rw [e]
      simp only [hc, Int.toNat_natCast]
      simp [ha, p1, q1, q2, q3, q4, q5, q6, hy, hh, hz, w1, w2]
    have h := back_ok0 fin rsv op masked k0 k1 k2 k3 d behind cut hS
    have ht : back_t0 fin rsv op masked k0 k1 k2 k3 d behind cut = true := by
      unfold back_t0
      rw [e]
      simp only [hc, Int.toNat_natCast, hy, hh, hz, w1, w2, decide_eq_false c1, decide_eq_false c2]
      have : ((slen x : Int) == 0) = false := by simpa using q5
      have hx3 : (slen x : Int) = (H.length : Int) + slen d := by omega
      rw [this, hx3]
      simp [toL]
    rw [ht] at h
    exact h

theorem walk (a0_0 : Bool) (a0_1 : Int) (w0_1 : (Lit.int .i64 a0_1).wf = true) (a0_2 : Int) (w0_2 : (Lit.int .i64 a0_2).wf = true) (a0_3 : Bool) (a0_4 : Int) (w0_4 : (Lit.int .u8 a0_4).wf = true) (a0_5 : Int) (w0_5 : (Lit.int .u8 a0_5).wf = true) (a0_6 : Int) (w0_6 : (Lit.int .u8 a0_6).wf = true) (a0_7 : Int) (w0_7 : (Lit.int .u8 a0_7).wf = true) (a0_8 : ByteArray) (w0_8 : a0_8.size ≤ maxLen) (a1 : ByteArray) (w1 : a1.size ≤ maxLen) (a2 : Int) (w2 : (Lit.int .u32 a2).wf = true) (W : World) (args' : Array Value)
    (ha : ∀ ρ, VL (prOf W) (AN []) ρ [.agg #[.bool a0_0, .int .i64 a0_1, .int .i64 a0_2, .bool a0_3, .int .u8 a0_4, .int .u8 a0_5, .int .u8 a0_6, .int .u8 a0_7, .string a0_8], .string a1, .int .u32 a2] args'.toList) :
    Calls Try.prog 7 args' W fun e w' => e = .returned (.bool true) ∧ Stays W w' :=
  calls_of_ends (all a0_0 a0_1 (by simp [Lit.wf, IntKind.min, IntKind.max, IntKind.bits, IntKind.signed] at w0_1; omega) a0_2 (by simp [Lit.wf, IntKind.min, IntKind.max, IntKind.bits, IntKind.signed] at w0_2; omega) a0_3 a0_4 (by simp [Lit.wf, IntKind.min, IntKind.max, IntKind.bits, IntKind.signed] at w0_4; omega) a0_5 (by simp [Lit.wf, IntKind.min, IntKind.max, IntKind.bits, IntKind.signed] at w0_5; omega) a0_6 (by simp [Lit.wf, IntKind.min, IntKind.max, IntKind.bits, IntKind.signed] at w0_6; omega) a0_7 (by simp [Lit.wf, IntKind.min, IntKind.max, IntKind.bits, IntKind.signed] at w0_7; omega) a0_8 a1 a2 (by simp [Lit.wf, IntKind.min, IntKind.max, IntKind.bits, IntKind.signed] at w2; omega)) (by kernel_rfl) rfl ha

theorem own : ownKnob Try.prog.godebug = none := by kernel_rfl
theorem laid : laidOutB Try.prog = true := by kernel_rfl

set_option maxRecDepth 100000 in
theorem lifted (os : Os) (started : os.Started) (H : Type) (enc : TypeId × Value → H) :
    ReturnsInHanded {} Try.checked os 7 .any (Rows.frameBackSpec.pre6 enc Try.prog Try.f7 Rows.frameBackRow.domain false) (Rows.frameBackSpec.post enc Try.prog Try.f7 false true false false) := by
  refine returnsInHanded_of_change (C := Try.checked) own started (by kernel_rfl) Try.func7
    (ChangeSpec.witness6 (enc := enc) (C := Try.checked) false ⟨#[], #[.agg #[.bool false, .int .i64 0, .int .i64 0, .bool false, .int .u8 0, .int .u8 0, .int .u8 0, .int .u8 0, .string ⟨#[]⟩], .string ⟨#[]⟩, .int .u32 0], []⟩ 8 (by kernel_rfl) (by kernel_rfl) (by kernel_rfl) (by kernel_rfl)) ?_
  intro W base args ds gs before hval0 hW hcnd _
  have hval : ∀ (j : Nat) t v, Try.f7.params[j]? = some t → args[j]? = some v → Value.okWide Try.prog W .any base t v := hval0
  have hW' := hW
  obtain ⟨p, q, hA0, hV, rfl, hfz, hnd⟩ := hW
  have hA : DataW.TrodAll enc Try.prog W 0 (fun _ => true) true Try.f7.params.toList args.toList ds p := hA0
  rw [Try.params7] at hA hval
  obtain ⟨v0, vs0, d0, ds0, p0, q0, hargs, rfl, rfl, h0, r0⟩ := trodAll_cons hA
  obtain ⟨v1, vs1, d1, ds1, p1, q1, rfl, rfl, rfl, h1, r1⟩ := trodAll_cons r0
  obtain ⟨v2, vs2, d2, ds2, p2, q2, rfl, rfl, rfl, h2, r2⟩ := trodAll_cons r1
  obtain ⟨rfl, rfl, rfl⟩ := trodAll_nil r2
  obtain rfl : args = #[v0, v1, v2] := by cases args; simp_all
  obtain ⟨vs0_, hl0, rfl, x0⟩ := read_agg (ls := [.bool, .int .i64, .int .i64, .bool, .int .u8, .int .u8, .int .u8, .int .u8, .str]) (ts := [4, 3, 3, 4, 5, 5, 5, 5, 9]) (.inl ⟨_, Try.underlying24⟩) (by kernel_rfl) (by kernel_rfl) ⟨Try.underlying4, Try.underlying3, Try.underlying3, Try.underlying4, Try.underlying5, Try.underlying5, Try.underlying5, Try.underlying5, Try.underlying9, rfl⟩ (hval 0 24 v0 rfl rfl)
  obtain ⟨_, _, rfl, ⟨a0_0, rfl⟩, _, _, rfl, ⟨a0_1, rfl, w0_1⟩, _, _, rfl, ⟨a0_2, rfl, w0_2⟩, _, _, rfl, ⟨a0_3, rfl⟩, _, _, rfl, ⟨a0_4, rfl, w0_4⟩, _, _, rfl, ⟨a0_5, rfl, w0_5⟩, _, _, rfl, ⟨a0_6, rfl, w0_6⟩, _, _, rfl, ⟨a0_7, rfl, w0_7⟩, _, _, rfl, ⟨a0_8, rfl, w0_8⟩, rfl⟩ := hl0
  obtain ⟨a1, x1, w1⟩ := read_string Try.underlying9 (hval 1 9 v1 rfl rfl) h1
  obtain ⟨a2, x2, w2⟩ := read_int Try.underlying50 (hval 2 50 v2 rfl rfl) h2
  refine (walk a0_0 a0_1 w0_1 a0_2 w0_2 a0_3 a0_4 w0_4 a0_5 w0_5 a0_6 w0_6 a0_7 w0_7 a0_8 w0_8 a1 w1 a2 w2 W _ (fun ρ => .cons (x0 _ _) (.cons (x1 _ _) (.cons (x2 _ _) (.nil))))).mono fun e W' ⟨he, hg⟩ => ?_
  subst he
  exact ⟨_, rfl, post_law (tb := 4) laid (by rw [Try.params7]; intro t ht; simp only [List.mem_cons, List.not_mem_nil, or_false] at ht; rcases ht with rfl | rfl | rfl <;> exact ⟨by kernel_rfl, by decide +kernel⟩) rfl (by kernel_rfl) Try.underlying4 (by rintro _ rfl; rfl) hW' hg⟩

theorem over : Rows.frameBackRow.holds Try.pinned (OpenSpec.ofChange Rows.frameBackSpec) :=
  OpenClaim.holds_of_wide 7 Try.f7 rfl rfl rfl rfl rfl rfl rfl ⟨rfl, rfl, rfl, rfl, rfl⟩ rfl rfl rfl rfl rfl (by kernel_rfl) Try.func7 (by kernel_rfl)
    (of_decide_eq_true (by kernel_rfl)) (by unfold Func.isWrapper; first | (rw [if_pos (by decide +kernel)]; kernel_rfl) | (rw [if_neg (by decide +kernel)]; exact ⟨rfl, rfl⟩))
    (fun os started H enc _ => lifted os started H enc)

theorem proved : Rows.FrameBackSaid :=
  over


end Go.Proofs.Ytkpkompmfijgkaa.frameBack
