/-
  A connection: Next as a contract.
-/
import Derived.Test.YtfpnjpbdaniomaaWsconnP
import Derived.Test.YtfpnjpbdaniomaaWsconnW
set_option linter.unusedVariables false
set_option linter.unusedSimpArgs false
open Go Go.Am
namespace Go.Proofs.Ytfpnjpbdaniomaa

noncomputable def evT (o : Option EvT) : EvT := o.getD (0, 0, 0, ⟨#[]⟩)
theorem evV_eq (o : Option EvT) : evV o = .tuple #[.agg #[.int .i64 (evT o).1, .int .i64 (evT o).2.1, .int .i64 (evT o).2.2.1, .string (evT o).2.2.2], .bool o.isSome] := by cases o <;> rfl
noncomputable def mkC (st ct : Int) (da : ByteArray) (R J : Heap) : CS := ⟨st, ct, da, decR R, dec J⟩
noncomputable def nextC (c : CS) : Option EvT × CS := nextF (mu c.r + 1) c
noncomputable def nxT (st ct : Int) (da : ByteArray) (R J : Heap) : Int × Int × Int × ByteArray × Bool × Int × Int × ByteArray × Heap × Heap :=
 seal1 ((evT (nextC (mkC st ct da R J)).1).1, (evT (nextC (mkC st ct da R J)).1).2.1, (evT (nextC (mkC st ct da R J)).1).2.2.1, (evT (nextC (mkC st ct da R J)).1).2.2.2, (nextC (mkC st ct da R J)).1.isSome, (nextC (mkC st ct da R J)).2.st, (nextC (mkC st ct da R J)).2.ctl, (nextC (mkC st ct da R J)).2.data, encR (nextC (mkC st ct da R J)).2.r, enc (nextC (mkC st ct da R J)).2.j)
theorem nxT_eq (c : CS) : nxT c.st c.ctl c.data (encR c.r) (enc c.j) = ((evT (nextC c).1).1, (evT (nextC c).1).2.1, (evT (nextC c).1).2.2.1, (evT (nextC c).1).2.2.2, (nextC c).1.isSome, (nextC c).2.st, (nextC c).2.ctl, (nextC c).2.data, encR (nextC c).2.r, enc (nextC c).2.j) := by
 unfold nxT
 rw [seal1_eq]
 have e : mkC c.st c.ctl c.data (encR c.r) (enc c.j) = c := by
  unfold mkC
  rw [dec_enc, decR_enc]
 rw [e]
def nxc_pre (st ct : Int) (da : ByteArray) (R J : Heap) : Prop := ∃ c : CS, CW 1000000 c ∧ st = c.st ∧ ct = c.ctl ∧ da = c.data ∧ R = encR c.r ∧ J = enc c.j
noncomputable def nxc_v (st ct : Int) (da : ByteArray) (R J : Heap) : Value := .tuple #[.agg #[.int .i64 (nxT st ct da R J).1, .int .i64 (nxT st ct da R J).2.1, .int .i64 (nxT st ct da R J).2.2.1, .string (nxT st ct da R J).2.2.2.1], .bool (nxT st ct da R J).2.2.2.2.1]
noncomputable def nxc_h (st ct : Int) (da : ByteArray) (R J : Heap) : Heap := [some (.cells [.pointer (some ⟨1, 0, none⟩), .pointer (some ⟨2, 0, none⟩), .int .i64 (nxT st ct da R J).2.2.2.2.2.1, .int .i64 (nxT st ct da R J).2.2.2.2.2.2.1, .string (nxT st ct da R J).2.2.2.2.2.2.2.1] 71 none), some (.obj (nxT st ct da R J).2.2.2.2.2.2.2.2.1), some (.obj (nxT st ct da R J).2.2.2.2.2.2.2.2.2)]
theorem nxc_call (st ct : Int) (da : ByteArray) (R J : Heap) (h : nxc_pre st ct da R J) : CallOk E 21 [.pointer (some ⟨0, 0, none⟩)] [some (.cells [.pointer (some ⟨1, 0, none⟩), .pointer (some ⟨2, 0, none⟩), .int .i64 st, .int .i64 ct, .string da] 71 none), some (.obj R), some (.obj J)] (nxc_v st ct da R J) (nxc_h st ct da R J) := by
 obtain ⟨c, hc, rfl, rfl, rfl, rfl, rfl⟩ := h
 have w := nx_run (st := c.st) (ct := c.ctl) (da := c.data) (R := encR c.r) (J := enc c.j) (Nat.le_refl _) (mu c.r + 1) c (by omega) hc rfl
 have w := (cnext_w0_0 c.st c.ctl c.data (encR c.r) (enc c.j)).ends w
 unfold nxc_v nxc_h
 rw [nxT_eq]
 rw [evV_eq] at w
 exact callOk_of_ends w (by kernel_rfl) (by show 3 ≤ 3; omega)

def nxc_ex (a : List Value) (h : Heap) : Int × Int × ByteArray × Heap × Heap := ((toInt ((cellsOf h 0).getD 2 undef)), (toInt ((cellsOf h 0).getD 3 undef)), (toStr ((cellsOf h 0).getD 4 undef)), (objOf h 1), (objOf h 2))
noncomputable def nxc_k : Ct := kS nxc_ex [.ptr 0 0] [.cells [.ptr 1 0, .ptr 2 0, .int .i64, .int .i64, .str] 71 none, .obj, .obj] (fun (a0, a1, a2, a3, a4) => nxc_pre a0 a1 a2 a3 a4) (fun (a0, a1, a2, a3, a4) => nxc_v a0 a1 a2 a3 a4) (fun (a0, a1, a2, a3, a4) => nxc_h a0 a1 a2 a3 a4)
theorem nxc_k_ok : KFor E 21 nxc_k := kS_ok (fun x hx => nxc_call (x.1) (x.2.1) (x.2.2.1) (x.2.2.2.1) (x.2.2.2.2) hx) (fun _ _ => rfl) (fun _ _ => rfl)


end Go.Proofs.Ytfpnjpbdaniomaa
