/-
  Frames sent are told: the walk over the events.
-/
import Derived.Test.YtfmcohbagbafmaaFramesY
import Derived.Test.YtfmcohbagbafmaaAmSlim
set_option linter.unusedVariables false
set_option linter.unusedSimpArgs false
open Go Go.Am
namespace Go.Proofs.Ytfmcohbagbafmaa

section
variable (n : Nat) (A : List Value) (m : Bool) (fs : List Fr)
noncomputable def hd (r : rstep_R) (tx : ByteArray) (at' : Nat) : Cfg :=
 fback_h2 n A m fs.length (fs.flatMap (frV m)) r.2.2.2.2.2.1 r.2.2.2.2.2.2.1 r.2.2.2.2.2.2.2.1 r.2.2.2.2.2.2.2.2.1 r.2.2.2.2.2.2.2.2.2.1 r.2.2.2.2.2.2.2.2.2.2.1 r.2.2.2.2.2.2.2.2.2.2.2.1 r.2.2.2.2.2.2.2.2.2.2.2.2.1 r.2.2.2.2.2.2.2.2.2.2.2.2.2.1 r.2.2.2.2.2.2.2.2.2.2.2.2.2.2.1 r.2.2.2.2.2.2.2.2.2.2.2.2.2.2.2.1 r.2.2.2.2.2.2.2.2.2.2.2.2.2.2.2.2.1 r.2.2.2.2.2.2.2.2.2.2.2.2.2.2.2.2.2.1 r.2.2.2.2.2.2.2.2.2.2.2.2.2.2.2.2.2.2 r.1 r.2.1 r.2.2.1 r.2.2.2.1 r.2.2.2.2.1 tx at'
theorem frV_len (a : Fr) : (frV m a).length = 9 := rfl
variable {f : Fr} {i : Nat} (hi : fs[i]? = some f) (hn : fs.length ≤ 30)
include hi hn
theorem at_f (j : Nat) (hj : j < 9) : (fs.flatMap (frV m)).getD (0 + (i : Int).toNat * 9 + j) undef = (frV m f).getD j undef := by
 have := row_get (frV m) 9 (frV_len m) fs i f j hi hj
 rw [Int.toNat_natCast, Nat.zero_add]
 have _ := hn
 exact this
theorem lt_i : i < fs.length := by
 have := (List.getElem?_eq_some_iff.1 hi).1
 have _ := hn
 exact this
theorem go_begin (x : RX) (hx : Inv x) (l : Int) (t tx : ByteArray) (hl : l = slen f.d) :
  Gets E 0 (hd n A m fs (mkR 1 f.op f.fin l t true x) tx i) (hd n A m fs (stepT m x) ⟨#[]⟩ i) := by
 obtain ⟨hS, hT⟩ := step_val m x hx
 have hlt := lt_i fs hi hn
 have w := fback_w2_0 n A m fs.length (fs.flatMap (frV m)) true x.1 x.2.1 x.2.2.1 x.2.2.2.1 x.2.2.2.2.1 x.2.2.2.2.2.1 x.2.2.2.2.2.2.1 x.2.2.2.2.2.2.2.1 x.2.2.2.2.2.2.2.2.1 x.2.2.2.2.2.2.2.2.2.1 x.2.2.2.2.2.2.2.2.2.2.1 x.2.2.2.2.2.2.2.2.2.2.2.1 x.2.2.2.2.2.2.2.2.2.2.2.2 1 f.op f.fin l t tx i _ hT (row_flat m fs) hS
 simp only [at_f m fs hi hn _ (by decide : 0 < 9), at_f m fs hi hn _ (by decide : 1 < 9), at_f m fs hi hn _ (by decide : 2 < 9), at_f m fs hi hn _ (by decide : 3 < 9), at_f m fs hi hn _ (by decide : 4 < 9), at_f m fs hi hn _ (by decide : 5 < 9), at_f m fs hi hn _ (by decide : 6 < 9), at_f m fs hi hn _ (by decide : 7 < 9), at_f m fs hi hn _ (by decide : 8 < 9)] at w
 apply w
 all_goals first | rfl | (rw [row_len (frV m) 9 (frV_len m)]; omega) | omega | exact decide_eq_false (by omega) | (rw [hl]; simp [frV, toStr]; done) | (simp [frV, Am.toBool, toInt]; done)
theorem go_piece (x : RX) (hx : Inv x) (t tx : ByteArray) (hs : slen tx + slen t ≤ 1000000) :
  Gets E 0 (hd n A m fs (mkR 2 0 false 0 t true x) tx i) (hd n A m fs (stepT m x) (cat tx t) i) := by
 obtain ⟨hS, hT⟩ := step_val m x hx
 have hlt := lt_i fs hi hn
 have w := fback_w2_1 n A m fs.length (fs.flatMap (frV m)) true x.1 x.2.1 x.2.2.1 x.2.2.2.1 x.2.2.2.2.1 x.2.2.2.2.2.1 x.2.2.2.2.2.2.1 x.2.2.2.2.2.2.2.1 x.2.2.2.2.2.2.2.2.1 x.2.2.2.2.2.2.2.2.2.1 x.2.2.2.2.2.2.2.2.2.2.1 x.2.2.2.2.2.2.2.2.2.2.2.1 x.2.2.2.2.2.2.2.2.2.2.2.2 2 0 false 0 t tx i _ hT (row_flat m fs) hS
 simp only [at_f m fs hi hn _ (by decide : 0 < 9), at_f m fs hi hn _ (by decide : 1 < 9), at_f m fs hi hn _ (by decide : 2 < 9), at_f m fs hi hn _ (by decide : 3 < 9), at_f m fs hi hn _ (by decide : 4 < 9), at_f m fs hi hn _ (by decide : 5 < 9), at_f m fs hi hn _ (by decide : 6 < 9), at_f m fs hi hn _ (by decide : 7 < 9), at_f m fs hi hn _ (by decide : 8 < 9)] at w
 apply w
 all_goals first | rfl | (rw [row_len (frV m) 9 (frV_len m)]; omega) | omega | exact decide_eq_false (by omega) | (simp [frV, Am.toBool, toInt]; done)
theorem go_end (x : RX) (hx : Inv x) (tx : ByteArray) (ht : toL tx = toL f.d) :
  Gets E 0 (hd n A m fs (mkR 3 0 false 0 ⟨#[]⟩ true x) tx i) (hd n A m fs (stepT m x) tx (i + 1)) := by
 obtain ⟨hS, hT⟩ := step_val m x hx
 have hlt := lt_i fs hi hn
 have w := fback_w2_2 n A m fs.length (fs.flatMap (frV m)) true x.1 x.2.1 x.2.2.1 x.2.2.2.1 x.2.2.2.2.1 x.2.2.2.2.2.1 x.2.2.2.2.2.2.1 x.2.2.2.2.2.2.2.1 x.2.2.2.2.2.2.2.2.1 x.2.2.2.2.2.2.2.2.2.1 x.2.2.2.2.2.2.2.2.2.2.1 x.2.2.2.2.2.2.2.2.2.2.2.1 x.2.2.2.2.2.2.2.2.2.2.2.2 3 0 false 0 ⟨#[]⟩ tx i _ hT (row_flat m fs) hS
 simp only [at_f m fs hi hn _ (by decide : 0 < 9), at_f m fs hi hn _ (by decide : 1 < 9), at_f m fs hi hn _ (by decide : 2 < 9), at_f m fs hi hn _ (by decide : 3 < 9), at_f m fs hi hn _ (by decide : 4 < 9), at_f m fs hi hn _ (by decide : 5 < 9), at_f m fs hi hn _ (by decide : 6 < 9), at_f m fs hi hn _ (by decide : 7 < 9), at_f m fs hi hn _ (by decide : 8 < 9)] at w
 rw [show IntKind.i64.wrap ((i : Int) + 1) = ((i + 1 : Nat) : Int) by rw [wrap64_in (by omega) (by omega)]; omega] at w
 apply w
 all_goals first | rfl | (rw [row_len (frV m) 9 (frV_len m)]; omega) | omega | exact decide_eq_false (by omega) | (simp [frV, toStr, ht]; done) | (simp [frV, Am.toBool, toInt]; done)
end

theorem run (n : Nat) (A : List Value) (m : Bool) (fs : List Fr) (hn : fs.length ≤ 30) : ∀ (gs ds : List Fr) (x : RX) (tx : ByteArray), fs = ds ++ gs → (∀ f ∈ gs, FrOk m f) → xSt x = 0 → xIn x = rest m gs → slen (xIn x) ≤ 1000000 →
  AEnds E 9 0 (hd n A m fs (stepT m x) tx ds.length) (.bool true) []
 | [], ds, x, tx, hf, hok, hs, hi, hl => by
  rw [st_none hs hi]
  have w := fback_w2_3 n A m fs.length (fs.flatMap (frV m)) false x.1 x.2.1 x.2.2.1 x.2.2.2.1 x.2.2.2.2.1 x.2.2.2.2.2.1 x.2.2.2.2.2.2.1 x.2.2.2.2.2.2.2.1 x.2.2.2.2.2.2.2.2.1 x.2.2.2.2.2.2.2.2.2.1 x.2.2.2.2.2.2.2.2.2.2.1 x.2.2.2.2.2.2.2.2.2.2.2.1 x.2.2.2.2.2.2.2.2.2.2.2.2 0 0 false 0 ⟨#[]⟩ tx ds.length
  have e1 : x.1 = 0 := hs
  have e2 : x.2.1 = rest m [] := hi
  have w := w (by rw [e2]; rfl) (by rw [e1]; rfl) (by rw [hf]; simp) rfl
  have e3 : (!x.1 == 2) = true := by rw [e1]; rfl
  rw [e3] at w
  exact w
 | f :: gs, ds, x, tx, hf, hok, hs, hi, hl => by
  have hF := hok f (by simp)
  have hat : fs[ds.length]? = some f := by rw [hf]; simp
  have hlr : slen (rest m (f :: gs)) = (hI f.fin 0 f.op m f.k0 f.k1 f.k2 f.k3 (slen f.d)).length + (slen f.d + slen (rest m gs)) := by
   show (toL (rest m (f :: gs))).length = _
   rw [toL_rest, List.length_append, List.length_append, List.length_map, maskL_len]
   rfl
  rw [hi] at hl
  have hn1 := hF.ok.n1
  have hx1 : slen (xIn (x1 m f gs)) = slen f.d + slen (rest m gs) := by
   show (toL (ofL (maskL [f.k0, f.k1, f.k2, f.k3] 0 (toL f.d) ++ toL (rest m gs)))).length = _
   rw [toL_ofL, List.length_append, maskL_len]; rfl
  rw [st_head hF gs hs hi]
  have i1 : Inv (x1 m f gs) := ⟨.inr (.inr ⟨rfl, by show (0 : Int) ≤ 0; omega, by show (0 : Int) ≤ ((slen f.d : Nat) : Int); omega, by show ((slen f.d : Nat) : Int) ≤ _; omega⟩), by omega⟩
  refine (go_begin n A m fs hat hn (x1 m f gs) i1 _ _ tx rfl).ends ?_
  have hds : ds.length + 1 = (ds ++ [f]).length := by simp
  have hfs : fs = (ds ++ [f]) ++ gs := by rw [hf]; simp
  by_cases h0 : slen f.d = 0
  ·rw [st_end0 gs h0]
   have i2 : Inv (xSet (x1 m f gs) 0 (rest m gs) 0) := inv0 rfl (by show slen (rest m gs) ≤ _; omega)
   refine (go_end n A m fs hat hn _ i2 ⟨#[]⟩ (List.length_eq_zero_iff.1 h0).symm).ends ?_
   rw [hds]
   exact run n A m fs hn gs (ds ++ [f]) _ _ hfs (fun g hg => hok g (by simp [hg])) rfl rfl (by show slen (rest m gs) ≤ _; omega)
  ·rw [st_piece hF gs h0]
   have i2 : Inv (xSet (x1 m f gs) 1 (rest m gs) (slen f.d)) := ⟨.inr (.inr ⟨rfl, by show (0 : Int) ≤ ((slen f.d : Nat) : Int); omega, by show ((slen f.d : Nat) : Int) ≤ ((slen f.d : Nat) : Int); omega, by show ((slen f.d : Nat) : Int) ≤ _; omega⟩), by show slen (rest m gs) ≤ _; omega⟩
   refine (go_piece n A m fs hat hn _ i2 f.d ⟨#[]⟩ (by rw [show slen ⟨#[]⟩ = 0 from rfl]; omega)).ends ?_
   rw [st_end1 gs]
   have i3 : Inv (xSet (x1 m f gs) 0 (rest m gs) (slen f.d)) := inv0 rfl (by show slen (rest m gs) ≤ _; omega)
   refine (go_end n A m fs hat hn _ i3 (cat ⟨#[]⟩ f.d) (by rw [toL_cat]; rfl)).ends ?_
   rw [hds]
   exact run n A m fs hn gs (ds ++ [f]) _ _ hfs (fun g hg => hok g (by simp [hg])) rfl rfl (by show slen (rest m gs) ≤ _; omega)

end Go.Proofs.Ytfmcohbagbafmaa
