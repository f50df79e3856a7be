/-
  What was read is written as it was, if its number was in the least form.
-/
import Derived.Test.YtkpkompmfijgkaaFrameM
set_option linter.unusedVariables false
set_option linter.unusedSimpArgs false
open Go Go.Am
namespace Go.Proofs.Ytkpkompmfijgkaa

def g8 (x : Int) : UInt8 := UInt8.ofNat x.toNat
theorem g8_val {x : Int} (h : 0 ≤ x ∧ x < 256) : ((g8 x).toNat : Int) = x := by unfold g8; rw [UInt8.toNat_ofNat']; omega
theorem g8_map (H : List Int) : bytesOf (H.map (Value.int .u8)) = ofL (H.map g8) := by
  unfold bytesOf
  rw [List.map_map]
  rfl
theorem g8_chr {y : ByteArray} {H : List Int} {r : List UInt8} (hb : ∀ x ∈ H, 0 ≤ x ∧ x < 256) (hy : toL y = H.map g8 ++ r) (i : Nat) (hi : i < H.length) : chr y i = H.getD i 0 := by
  unfold chr
  rw [hy]
  have e1 : (H.map g8 ++ r).getD i 0 = g8 H[i] := by
    simp [List.getD_eq_getElem?_getD, List.getElem?_append, hi]
  have e2 : H.getD i 0 = H[i] := by simp [List.getD_eq_getElem?_getD, hi]
  rw [e1, e2, g8_val (hb _ (List.getElem_mem hi))]
/-- A frame's bytes. -/
def wr (fin : Bool) (rsv op : Int) (masked : Bool) (k0 k1 k2 k3 : Int) (d : ByteArray) : ByteArray :=
  cat (ofL ((hI fin rsv op masked k0 k1 k2 k3 (slen d)).map g8)) (maskD [k0, k1, k2, k3] 0 d)
theorem notBad {rsv op : Int} {masked : Bool} {k0 k1 k2 k3 n : Int} (h : Okay rsv op masked k0 k1 k2 k3 n) : ¬ badF rsv op masked k0 k1 k2 k3 := by
  obtain ⟨r0, r1, o0, o1, n0, n1, k, _⟩ := h
  unfold badF
  intro hb
  rcases hb with hb | hb | hb | hb | ⟨hb, hc⟩
  · omega
  · omega
  · omega
  · omega
  · exact hc (k hb)
theorem bytesT_wr {fin : Bool} {rsv op : Int} {masked : Bool} {k0 k1 k2 k3 : Int} {d : ByteArray} (h : Okay rsv op masked k0 k1 k2 k3 (slen d)) : bytesT fin rsv op masked k0 k1 k2 k3 d = (wr fin rsv op masked k0 k1 k2 k3 d, 0) := by
  unfold bytesT wr
  rw [if_neg (notBad h), hdrV_hI, g8_map]
theorem toL_wr (fin : Bool) (rsv op : Int) (masked : Bool) (k0 k1 k2 k3 : Int) (d : ByteArray) : toL (wr fin rsv op masked k0 k1 k2 k3 d) = (hI fin rsv op masked k0 k1 k2 k3 (slen d)).map g8 ++ maskL [k0, k1, k2, k3] 0 (toL d) := by
  unfold wr
  rw [toL_cat, toL_ofL, show (0 : Int) = ((0 : Nat) : Int) from rfl, maskD_nat, toL_ofL]
theorem slen_wr (fin : Bool) (rsv op : Int) (masked : Bool) (k0 k1 k2 k3 : Int) (d : ByteArray) : slen (wr fin rsv op masked k0 k1 k2 k3 d) = (hI fin rsv op masked k0 k1 k2 k3 (slen d)).length + slen d := by
  unfold wr
  rw [slen_cat, slen_ofL, List.length_map, maskD_len]
theorem read_wr {fin : Bool} {rsv op : Int} {masked : Bool} {k0 k1 k2 k3 : Int} {d : ByteArray} (h : Okay rsv op masked k0 k1 k2 k3 (slen d)) :
    readT (wr fin rsv op masked k0 k1 k2 k3 d) = (fin, rsv, op, masked, k0, k1, k2, k3, d, (slen (wr fin rsv op masked k0 k1 k2 k3 d) : Int), 0) := by
  have hn := h.n1
  have ht := toL_wr fin rsv op masked k0 k1 k2 k3 d
  have hs := slen_wr fin rsv op masked k0 k1 k2 k3 d
  have Y := head_long (fin := fin) h (s := wr fin rsv op masked k0 k1 k2 k3 d) (fun i hi _ => g8_chr (hI_bd h) ht i hi) (by omega)
  have hk : keyOk [k0, k1, k2, k3] := keyOk4 h.b0 h.b1 h.b2 h.b3
  generalize wr fin rsv op masked k0 k1 k2 k3 d = x at *
  generalize hI fin rsv op masked k0 k1 k2 k3 (slen d) = H at *
  have hd : maskD [k0, k1, k2, k3] 0 (sub x H.length (H.length + slen d)) = d := by
    rw [show (0 : Int) = ((0 : Nat) : Int) from rfl, maskD_nat, toL_sub, ht]
    rw [List.drop_append_of_le_length (by simp), List.drop_of_length_le (by simp), List.nil_append, show H.length + slen d - H.length = (maskL [k0, k1, k2, k3] 0 (toL d)).length by rw [maskL_len]; unfold slen; omega]
    rw [List.take_length, maskL_twice hk, ofL_toL]
  unfold readT
  rw [Y.ok, Y.len, Y.hn, Y.mask, Y.key0, Y.key1, Y.key2, Y.key3, Y.hfin, Y.hrsv, Y.hop, hs, decide_eq_false (show ¬ (2147483647 < (slen d : Int)) by omega), decide_eq_false (show ¬ (((H.length + slen d : Nat) : Int) - (H.length : Int) < (slen d : Int)) by omega)]
  rw [show ((H.length : Int)).toNat = H.length by omega, show ((H.length : Int) + (slen d : Int)).toNat = H.length + slen d by omega, hd]
  simp

/-- The head of a text, written again. -/
def reI (s : ByteArray) : List Int := hI (decide (128 ≤ chr s 0)) (chr s 0 / 16 % 8) (chr s 0 % 16) (hMask s) (hKey s 0) (hKey s 1) (hKey s 2) (hKey s 3) (hLen s)
theorem reOkay (s : ByteArray) (h : hLen s ≤ 16777215) : Okay (chr s 0 / 16 % 8) (chr s 0 % 16) (hMask s) (hKey s 0) (hKey s 1) (hKey s 2) (hKey s 3) (hLen s) := by
  have c0 := chr_bd s 0
  have b := hLen_bd s
  have hk : ∀ j, 0 ≤ hKey s j ∧ hKey s j ≤ 255 := by
    intro j
    unfold hKey
    split
    · have := chr_bd s (2 + (wd (chr s 1)).toNat + j); omega
    · omega
  refine ⟨by omega, by omega, by omega, by omega, b.1, h, fun hm => ?_, hk 0, hk 1, hk 2, hk 3⟩
  unfold hMask at hm
  unfold hKey
  have : ¬ (128 ≤ chr s 1) := by simpa using hm
  simp [this]
theorem re_head (s : ByteArray) (h : hLen s ≤ 60000) : ((reI s).length : Int) ≤ hN s ∧ (hLeast s = true → reI s = (List.range (hN s).toNat).map (chr s)) ∧ (hLeast s = false → ((reI s).length : Int) < hN s) := by
  have c0 := chr_bd s 0
  have c1 := chr_bd s 1
  have c2 := chr_bd s 2
  have c3 := chr_bd s 3
  have b2 := big2_bd s
  have b8 := big8_bd s
  have hl := hI_len (decide (128 ≤ chr s 0)) (chr s 0 / 16 % 8) (chr s 0 % 16) (hMask s) (hKey s 0) (hKey s 1) (hKey s 2) (hKey s 3) (hLen s)
  have e0 : (16 * (chr s 0 / 16 % 8) + chr s 0 % 16 + (bif decide (128 ≤ chr s 0) then 128 else 0) : Int) = chr s 0 := by
    by_cases c : 128 ≤ chr s 0 <;> simp [c] <;> omega
  unfold reI
  by_cases d1 : chr s 1 % 128 = 126
  · have eL : hLen s = big2 s := by unfold hLen; rw [if_pos d1]
    have eT : hLeast s = decide (125 < big2 s) := by unfold hLeast; rw [if_pos d1]
    have eW : wd (chr s 1) = 2 := by unfold wd; rw [if_pos d1]
    by_cases m : 128 ≤ chr s 1
    · have eN : hN s = 8 := by unfold hN; rw [eW, if_pos m]; rfl
      have eM : hMask s = true := by unfold hMask; simpa using m
      have eK (j : Nat) : hKey s j = chr s (4 + j) := by unfold hKey; rw [if_pos m, eW]; rfl
      rw [eL, eM] at hl ⊢
      rw [eT, eN]
      by_cases q : 125 < big2 s
      · rw [if_neg (by omega), if_pos (by omega)] at hl
        refine ⟨by rw [hl]; simp, fun _ => ?_, fun hh => by simp at hh; omega⟩
        unfold hI numI
        rw [if_neg (by omega), if_pos (by omega), e0, eK, eK, eK, eK]
        have f2 : big2 s / 256 = chr s 2 := by unfold big2; omega
        have f3 : big2 s % 256 = chr s 3 := by unfold big2; omega
        have f1 : (128 + 126 : Int) = chr s 1 := by omega
        simp only [cond_true, f2, f3, f1]
        rfl
      · rw [if_pos (by omega)] at hl
        refine ⟨by rw [hl]; simp, fun hh => absurd hh (by simp; omega), fun _ => by rw [hl]; simp⟩
    · have eN : hN s = 4 := by unfold hN; rw [eW, if_neg m]; rfl
      have eM : hMask s = false := by unfold hMask; simpa using m
      rw [eL, eM] at hl ⊢
      rw [eT, eN]
      by_cases q : 125 < big2 s
      · rw [if_neg (by omega), if_pos (by omega)] at hl
        refine ⟨by rw [hl]; simp, fun _ => ?_, fun hh => by simp at hh; omega⟩
        unfold hI numI
        rw [if_neg (by omega), if_pos (by omega), e0]
        have f2 : big2 s / 256 = chr s 2 := by unfold big2; omega
        have f3 : big2 s % 256 = chr s 3 := by unfold big2; omega
        have f1 : (0 + 126 : Int) = chr s 1 := by omega
        simp only [cond_false, f2, f3, f1]
        rfl
      · rw [if_pos (by omega)] at hl
        refine ⟨by rw [hl]; simp, fun hh => absurd hh (by simp; omega), fun _ => by rw [hl]; simp⟩
  · by_cases d2 : chr s 1 % 128 = 127
    · have eL : hLen s = big8 s := by unfold hLen; rw [if_neg d1, if_pos d2]
      have eT : hLeast s = decide (65535 < big8 s) := by unfold hLeast; rw [if_neg d1, if_pos d2]
      have eW : wd (chr s 1) = 8 := by unfold wd; rw [if_neg d1, if_pos d2]
      have eN : hN s = 10 + (bif hMask s then 4 else 0) := by
        unfold hN hMask; rw [eW]
        by_cases m : 128 ≤ chr s 1 <;> simp [m]
      rw [eT, eN, decide_eq_false (show ¬ (65535 < big8 s) by omega)]
      have hlt : (hI (decide (128 ≤ chr s 0)) (chr s 0 / 16 % 8) (chr s 0 % 16) (hMask s) (hKey s 0) (hKey s 1) (hKey s 2) (hKey s 3) (hLen s)).length < (10 + (bif hMask s then 4 else 0) : Int) := by
        rw [hl]
        split
        · omega
        · rw [if_pos (by omega)]; omega
      exact ⟨by omega, (fun hh => by cases hh), fun _ => hlt⟩
    · have eL : hLen s = chr s 1 % 128 := by unfold hLen; rw [if_neg d1, if_neg d2]
      have eT : hLeast s = true := by unfold hLeast; rw [if_neg d1, if_neg d2]
      have eW : wd (chr s 1) = 0 := by unfold wd; rw [if_neg d1, if_neg d2]
      by_cases m : 128 ≤ chr s 1
      · have eN : hN s = 6 := by unfold hN; rw [eW, if_pos m]; rfl
        have eM : hMask s = true := by unfold hMask; simpa using m
        have eK (j : Nat) : hKey s j = chr s (2 + j) := by unfold hKey; rw [if_pos m, eW]; rfl
        rw [eL, eM] at hl ⊢
        rw [eT, eN]
        rw [if_pos (by omega)] at hl
        refine ⟨by rw [hl]; simp, fun _ => ?_, fun hh => by cases hh⟩
        unfold hI numI
        rw [if_pos (by omega), e0, eK, eK, eK, eK]
        have f1 : (128 + chr s 1 % 128 : Int) = chr s 1 := by omega
        simp only [cond_true, f1]
        rfl
      · have eN : hN s = 2 := by unfold hN; rw [eW, if_neg m]; rfl
        have eM : hMask s = false := by unfold hMask; simpa using m
        rw [eL, eM] at hl ⊢
        rw [eT, eN]
        rw [if_pos (by omega)] at hl
        refine ⟨by rw [hl]; simp, fun _ => ?_, fun hh => by cases hh⟩
        unfold hI numI
        rw [if_pos (by omega), e0]
        have f1 : (0 + chr s 1 % 128 : Int) = chr s 1 := by omega
        simp only [cond_false, f1]
        rfl
theorem take_chr (s : ByteArray) (k : Nat) (h : k ≤ slen s) : (toL s).take k = ((List.range k).map (chr s)).map g8 := by
  apply List.ext_getElem
  · simp; unfold slen at h; omega
  · intro i h1 h2
    simp at h1 h2 ⊢
    have hl : i < (toL s).length := by omega
    unfold g8 chr
    rw [List.getD_eq_getElem?_getD, List.getElem?_eq_getElem hl]
    simp
end Go.Proofs.Ytkpkompmfijgkaa
