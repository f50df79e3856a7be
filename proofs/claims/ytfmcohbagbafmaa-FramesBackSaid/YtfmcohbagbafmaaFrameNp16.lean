/-
  What was read is written as it was, if its number was in the least form.
-/
import Derived.Test.YtfmcohbagbafmaaFrameMp16
set_option linter.unusedVariables false
set_option linter.unusedSimpArgs false
open Go Go.Am
namespace Go.Proofs.Ytfmcohbagbafmaa

def g8 (x : Int) : UInt8 := UInt8.ofNat x.toNat
theorem g8_val {x : Int} (h : 0 ≤ x ∧ x < 256) : ((g8 x).toNat : Int) = x := by unfold g8; rw [UInt8.toNat_ofNat']; omega
theorem g8_map (H : List Int) : bytesOf (H.map (Value.int .u8)) = ofL (H.map g8) := by
 unfold bytesOf
 rw [List.map_map]
 rfl
theorem g8_chr {y : ByteArray} {H : List Int} {r : List UInt8} (hb : ∀ x ∈ H, 0 ≤ x ∧ x < 256) (hy : toL y = H.map g8 ++ r) (i : Nat) (hi : i < H.length) : chr y i = H.getD i 0 := by
 unfold chr
 rw [hy]
 have e1 : (H.map g8 ++ r).getD i 0 = g8 H[i] := by
  simp [List.getD_eq_getElem?_getD, List.getElem?_append, hi]
 have e2 : H.getD i 0 = H[i] := by simp [List.getD_eq_getElem?_getD, hi]
 rw [e1, e2, g8_val (hb _ (List.getElem_mem hi))]
def wr (fin : Bool) (rsv op : Int) (masked : Bool) (k0 k1 k2 k3 : Int) (d : ByteArray) : ByteArray :=
 cat (ofL ((hI fin rsv op masked k0 k1 k2 k3 (slen d)).map g8)) (maskD [k0, k1, k2, k3] 0 d)
theorem notBad {rsv op : Int} {masked : Bool} {k0 k1 k2 k3 n : Int} (h : Okay rsv op masked k0 k1 k2 k3 n) : ¬ badF rsv op masked k0 k1 k2 k3 := by
 obtain ⟨r0, r1, o0, o1, n0, n1, k, _⟩ := h
 unfold badF
 intro hb
 rcases hb with hb | hb | hb | hb | ⟨hb, hc⟩
 ·omega
 ·omega
 ·omega
 ·omega
 ·exact hc (k hb)
theorem bytesT_wr {fin : Bool} {rsv op : Int} {masked : Bool} {k0 k1 k2 k3 : Int} {d : ByteArray} (h : Okay rsv op masked k0 k1 k2 k3 (slen d)) : bytesT fin rsv op masked k0 k1 k2 k3 d = (wr fin rsv op masked k0 k1 k2 k3 d, 0) := by
 unfold bytesT wr
 rw [if_neg (notBad h), hdrV_hI, g8_map]
theorem toL_wr (fin : Bool) (rsv op : Int) (masked : Bool) (k0 k1 k2 k3 : Int) (d : ByteArray) : toL (wr fin rsv op masked k0 k1 k2 k3 d) = (hI fin rsv op masked k0 k1 k2 k3 (slen d)).map g8 ++ maskL [k0, k1, k2, k3] 0 (toL d) := by
 unfold wr
 rw [toL_cat, toL_ofL, show (0 : Int) = ((0 : Nat) : Int) from rfl, maskD_nat, toL_ofL]
theorem slen_wr (fin : Bool) (rsv op : Int) (masked : Bool) (k0 k1 k2 k3 : Int) (d : ByteArray) : slen (wr fin rsv op masked k0 k1 k2 k3 d) = (hI fin rsv op masked k0 k1 k2 k3 (slen d)).length + slen d := by
 unfold wr
 rw [slen_cat, slen_ofL, List.length_map, maskD_len]

end Go.Proofs.Ytfmcohbagbafmaa
