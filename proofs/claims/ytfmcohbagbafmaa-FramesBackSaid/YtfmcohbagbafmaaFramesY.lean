/-
  Frames sent: what the reader's steps tell of them.
-/
import Derived.Test.YtfmcohbagbafmaaFramesX
import Derived.Test.YtfmcohbagbafmaaAmSlim
set_option linter.unusedVariables false
set_option linter.unusedSimpArgs false
open Go Go.Am
namespace Go.Proofs.Ytfmcohbagbafmaa

structure Fr where
 fin : Bool
 op : Int
 k0 : Int
 k1 : Int
 k2 : Int
 k3 : Int
 d : ByteArray
def frV (m : Bool) (f : Fr) : List Value := [.bool f.fin, .int .i64 0, .int .i64 f.op, .bool m, .int .u8 f.k0, .int .u8 f.k1, .int .u8 f.k2, .int .u8 f.k3, .string f.d]
structure FrOk (m : Bool) (f : Fr) : Prop where
 op : opD f.op = true
 small : f.op < 8 ∨ (f.fin = true ∧ slen f.d ≤ 125)
 ok : Okay 0 f.op m f.k0 f.k1 f.k2 f.k3 (slen f.d)
def bs (m : Bool) (f : Fr) : ByteArray := wr f.fin 0 f.op m f.k0 f.k1 f.k2 f.k3 f.d
def rest (m : Bool) (fs : List Fr) : ByteArray := ofL (fs.flatMap fun f => toL (bs m f))
theorem ext {a b : ByteArray} (h : toL a = toL b) : a = b := by rw [← ofL_toL a, ← ofL_toL b, h]
theorem toL_rest (m : Bool) (f : Fr) (gs : List Fr) : toL (rest m (f :: gs)) = (hI f.fin 0 f.op m f.k0 f.k1 f.k2 f.k3 (slen f.d)).map g8 ++ (maskL [f.k0, f.k1, f.k2, f.k3] 0 (toL f.d) ++ toL (rest m gs)) := by
 unfold rest
 rw [toL_ofL, toL_ofL, List.flatMap_cons]
 unfold bs
 rw [toL_wr, List.append_assoc]
theorem head_is {m : Bool} {f : Fr} (h : FrOk m f) (gs : List Fr) : Says (rest m (f :: gs)) f.fin 0 f.op m f.k0 f.k1 f.k2 f.k3 (slen f.d) (hI f.fin 0 f.op m f.k0 f.k1 f.k2 f.k3 (slen f.d)).length := by
 have ht := toL_rest m f gs
 refine head_long (fin := f.fin) h.ok (fun i hi _ => g8_chr (hI_bd h.ok) ht i hi) ?_
 have hl : slen (rest m (f :: gs)) = (toL (rest m (f :: gs))).length := rfl
 rw [hl, ht]
 simp
def x1 (m : Bool) (f : Fr) (gs : List Fr) : RX := (1, ofL (maskL [f.k0, f.k1, f.k2, f.k3] 0 (toL f.d) ++ toL (rest m gs)), f.fin, 0, f.op, m, f.k0, f.k1, f.k2, f.k3, slen f.d, true, 0)
theorem st_head {m : Bool} {f : Fr} (h : FrOk m f) (gs : List Fr) {x : RX} (hs : xSt x = 0) (hi : xIn x = rest m (f :: gs)) :
  stepT m x = mkR 1 f.op f.fin (slen f.d) ⟨#[]⟩ true (x1 m f gs) := by
 have Y := head_is h gs
 have ht := toL_rest m f gs
 have hl : slen (rest m (f :: gs)) = (toL (rest m (f :: gs))).length := rfl
 rw [stepT_0 hs, hi]
 have hm : mayS m (rest m (f :: gs)) = true := by
  unfold mayS mayD
  rw [Y.hfin, Y.hrsv, Y.hop, Y.mask, Y.len, Y.least, h.op]
  have hn := h.ok.n1
  rcases h.small with hc | ⟨hf, hc⟩
  ·simp [hc]; omega
  ·rw [hf]
   have : ((slen f.d : Nat) : Int) ≤ 125 := by omega
   simp [this]; omega
 rw [Y.ok, hm]
 have e : xHead (rest m (f :: gs)) = x1 m f gs := by
  unfold xHead x1
  rw [Y.hfin, Y.hrsv, Y.hop, Y.mask, Y.len, Y.least, Y.key0, Y.key1, Y.key2, Y.key3, Y.hn]
  have es : sub (rest m (f :: gs)) ((hI f.fin 0 f.op m f.k0 f.k1 f.k2 f.k3 (slen f.d)).length : Int).toNat (slen (rest m (f :: gs))) = ofL (maskL [f.k0, f.k1, f.k2, f.k3] 0 (toL f.d) ++ toL (rest m gs)) := ext (by
   rw [toL_sub, hl, toL_ofL, ht, Int.toNat_natCast]
   rw [List.drop_append_of_le_length (by simp), List.drop_of_length_le (by simp), List.nil_append, List.take_of_length_le (by simp)])
  rw [es]
 rw [e, Y.hop, Y.hfin, Y.len]
 rfl
theorem st_end0 {m : Bool} {f : Fr} (gs : List Fr) (h0 : slen f.d = 0) :
  stepT m (x1 m f gs) = mkR 3 0 false 0 ⟨#[]⟩ true (xSet (x1 m f gs) 0 (rest m gs) 0) := by
 have hd : toL f.d = [] := List.length_eq_zero_iff.1 h0
 have e : xIn (x1 m f gs) = rest m gs := ext (by
  show toL (ofL (maskL [f.k0, f.k1, f.k2, f.k3] 0 (toL f.d) ++ toL (rest m gs))) = _
  rw [toL_ofL, hd]; rfl)
 rw [stepT_e (m := m) (x := x1 m f gs) rfl (by show ((slen f.d : Nat) : Int) = 0; omega), e]
 rfl
theorem st_piece {m : Bool} {f : Fr} (h : FrOk m f) (gs : List Fr) (h0 : slen f.d ≠ 0) :
  stepT m (x1 m f gs) = mkR 2 0 false 0 f.d true (xSet (x1 m f gs) 1 (rest m gs) (slen f.d)) := by
 have hk : keyOk [f.k0, f.k1, f.k2, f.k3] := keyOk4 h.ok.b0 h.ok.b1 h.ok.b2 h.ok.b3
 have hin : toL (xIn (x1 m f gs)) = maskL [f.k0, f.k1, f.k2, f.k3] 0 (toL f.d) ++ toL (rest m gs) := toL_ofL _
 have hml : (maskL [f.k0, f.k1, f.k2, f.k3] 0 (toL f.d)).length = slen f.d := maskL_len _ _ _
 have hlen : slen (xIn (x1 m f gs)) = slen f.d + slen (rest m gs) := by
  show (toL (xIn (x1 m f gs))).length = _
  rw [hin, List.length_append, hml]; rfl
 have hn : nOf (x1 m f gs) = slen f.d := by
  unfold nOf
  rw [hlen]
  show min (slen f.d + slen (rest m gs)) (((slen f.d : Nat) : Int) - 0).toNat = _
  omega
 rw [stepT_p (m := m) (x := x1 m f gs) rfl (by show ¬ ((slen f.d : Nat) : Int) = 0; omega) (by omega), hn]
 have e1 : maskD (xKey (x1 m f gs)) (xTold (x1 m f gs)) (sub (xIn (x1 m f gs)) 0 (slen f.d)) = f.d := by
  show maskD [f.k0, f.k1, f.k2, f.k3] 0 _ = _
  rw [show (0 : Int) = ((0 : Nat) : Int) from rfl, maskD_nat, toL_sub, hin, List.drop_zero, Nat.sub_zero, List.take_append_of_le_length (by omega), List.take_of_length_le (by omega), maskL_twice hk, ofL_toL]
 have e2 : sub (xIn (x1 m f gs)) (slen f.d) (slen (xIn (x1 m f gs))) = rest m gs := ext (by
  rw [toL_sub, hin, hlen, List.drop_append_of_le_length (by omega), List.drop_of_length_le (by omega), List.nil_append, List.take_of_length_le (by show slen (rest m gs) ≤ _; omega)])
 rw [e1, e2]
 show mkR 2 0 false 0 f.d true (xSet (x1 m f gs) 1 (rest m gs) (0 + (slen f.d : Nat))) = _
 rw [Int.zero_add]
theorem st_end1 {m : Bool} {f : Fr} (gs : List Fr) :
  stepT m (xSet (x1 m f gs) 1 (rest m gs) (slen f.d)) = mkR 3 0 false 0 ⟨#[]⟩ true (xSet (x1 m f gs) 0 (rest m gs) (slen f.d)) := by
 rw [stepT_e (m := m) (x := xSet (x1 m f gs) 1 (rest m gs) (slen f.d)) rfl rfl]
 rfl
theorem st_none {m : Bool} {x : RX} (hs : xSt x = 0) (hi : xIn x = rest m []) : stepT m x = mkR 0 0 false 0 ⟨#[]⟩ false x := by
 rw [stepT_0 hs, hi]
 rfl
theorem inv0 {x : RX} (hs : xSt x = 0) (hl : slen (xIn x) ≤ 1000000) : Inv x := ⟨.inr (.inl hs), hl⟩

theorem row_get {α : Type} (g : α → List Value) (w : Nat) (hw : ∀ a, (g a).length = w) : ∀ (l : List α) (i : Nat) (a : α) (j : Nat), l[i]? = some a → j < w → (l.flatMap g).getD (i * w + j) undef = (g a).getD j undef
 | [], i, a, j, h, _ => by simp at h
 | b :: l, 0, a, j, h, hj => by
  simp only [List.getElem?_cons_zero, Option.some.injEq] at h
  subst h
  rw [List.flatMap_cons, Nat.zero_mul, Nat.zero_add]
  simp only [List.getD_eq_getElem?_getD]
  rw [List.getElem?_append_left (by rw [hw]; exact hj)]
 | b :: l, i + 1, a, j, h, hj => by
  have ih := row_get g w hw l i a j (by simpa using h) hj
  rw [List.flatMap_cons]
  simp only [List.getD_eq_getElem?_getD] at ih ⊢
  rw [List.getElem?_append_right (by rw [hw, Nat.succ_mul]; omega), hw, show (i + 1) * w + j - w = i * w + j by rw [Nat.succ_mul]; omega]
  exact ih
theorem row_len {α : Type} (g : α → List Value) (w : Nat) (hw : ∀ a, (g a).length = w) : ∀ l : List α, (l.flatMap g).length = l.length * w
 | [] => by simp
 | b :: l => by rw [List.flatMap_cons, List.length_append, hw, row_len g w hw l, List.length_cons, Nat.succ_mul]; omega
theorem row_flat (m : Bool) (fs : List Fr) : (fs.flatMap (frV m)).all flat = true := by
 simp [List.all_flatMap, frV, flat]

end Go.Proofs.Ytfmcohbagbafmaa
