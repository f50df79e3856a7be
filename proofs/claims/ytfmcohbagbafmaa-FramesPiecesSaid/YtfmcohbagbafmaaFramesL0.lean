/-
  What is told of bytes that are fed at once: a contract.
-/
import Derived.Test.YtfmcohbagbafmaaFramesK
set_option linter.unusedVariables false
set_option linter.unusedSimpArgs false
open Go Go.Am
namespace Go.Proofs.Ytfmcohbagbafmaa

def tellOf (m : Bool) (x : RX) : List Ev × RX := tell m (mu x + 1) x []
def toldn_pre (m : Bool) (state : Int) (inn : ByteArray) (hf : Bool) (hr ho : Int) (hm : Bool) (k0 k1 k2 k3 hl : Int) (hlst : Bool) (told : Int) : Prop := Inv (state, inn, hf, hr, ho, hm, k0, k1, k2, k3, hl, hlst, told)
def toldn_v (m : Bool) (state : Int) (inn : ByteArray) (hf : Bool) (hr ho : Int) (hm : Bool) (k0 k1 k2 k3 hl : Int) (hlst : Bool) (told : Int) : Value := .slice (some ⟨1, 0, none⟩) (tellOf m (state, inn, hf, hr, ho, hm, k0, k1, k2, k3, hl, hlst, told)).1.length 0
def toldn_h (m : Bool) (state : Int) (inn : ByteArray) (hf : Bool) (hr ho : Int) (hm : Bool) (k0 k1 k2 k3 hl : Int) (hlst : Bool) (told : Int) : Heap := [some (.cells (rdV m (tellOf m (state, inn, hf, hr, ho, hm, k0, k1, k2, k3, hl, hlst, told)).2) 48 none), some (.cells (evsV (tellOf m (state, inn, hf, hr, ho, hm, k0, k1, k2, k3, hl, hlst, told)).1) 30 (some 5))]
theorem toldn_call (m : Bool) (state : Int) (inn : ByteArray) (hf : Bool) (hr ho : Int) (hm : Bool) (k0 k1 k2 k3 hl : Int) (hlst : Bool) (told : Int) (h : toldn_pre m state inn hf hr ho hm k0 k1 k2 k3 hl hlst told) :
    CallOk E 15 [.pointer (some ⟨0, 0, none⟩), .slice none 0 0] [some (.cells [.bool m, .int .i64 state, .string inn, .bool hf, .int .i64 hr, .int .i64 ho, .bool hm, .int .u8 k0, .int .u8 k1, .int .u8 k2, .int .u8 k3, .int .u64 hl, .bool hlst, .int .i64 told] 48 none)] (toldn_v m state inn hf hr ho hm k0 k1 k2 k3 hl hlst told) (toldn_h m state inn hf hr ho hm k0 k1 k2 k3 hl hlst told) := by
  have hS := (step_val m (state, inn, hf, hr, ho, hm, k0, k1, k2, k3, hl, hlst, told) h).1
  have hl2 : slen inn ≤ 1000000 := h.len
  have hmu : mu (state, inn, hf, hr, ho, hm, k0, k1, k2, k3, hl, hlst, told) ≤ 3 * slen inn + 2 := by unfold mu; show 3 * slen inn + _ ≤ _; split <;> omega
  have h0 := toldn_ok0 m state inn hf hr ho hm k0 k1 k2 k3 hl hlst told hS
  unfold toldn_t0 at h0
  have hr := told_run m (state, inn, hf, hr, ho, hm, k0, k1, k2, k3, hl, hlst, told) (mu (state, inn, hf, hr, ho, hm, k0, k1, k2, k3, hl, hlst, told) + 1) (state, inn, hf, hr, ho, hm, k0, k1, k2, k3, hl, hlst, told) [] h (Nat.lt_succ_self _) (by simp; omega) (by intro p hp; cases hp)
  refine callOk_of_ends (Gets.ends ?_ hr) (by kernel_rfl) (Nat.le_of_ble_eq_true (by kernel_rfl))
  exact toldn_go1 h0

def toldn_ex (a : List Value) (h : Heap) : Bool × Int × ByteArray × Bool × Int × Int × Bool × Int × Int × Int × Int × Int × Bool × Int := ((toBool ((cellsOf h 0).getD 0 undef)), (toInt ((cellsOf h 0).getD 1 undef)), (toStr ((cellsOf h 0).getD 2 undef)), (toBool ((cellsOf h 0).getD 3 undef)), (toInt ((cellsOf h 0).getD 4 undef)), (toInt ((cellsOf h 0).getD 5 undef)), (toBool ((cellsOf h 0).getD 6 undef)), (toInt ((cellsOf h 0).getD 7 undef)), (toInt ((cellsOf h 0).getD 8 undef)), (toInt ((cellsOf h 0).getD 9 undef)), (toInt ((cellsOf h 0).getD 10 undef)), (toInt ((cellsOf h 0).getD 11 undef)), (toBool ((cellsOf h 0).getD 12 undef)), (toInt ((cellsOf h 0).getD 13 undef)))
noncomputable def toldn_k : Ct := kP toldn_ex (fun x => [Value.pointer (some { block := 0, off := 0 }), Value.slice none 0 0]) (fun x => [some (Ob.cells [Value.bool x.1, Value.int IntKind.i64 x.2.1, Value.string x.2.2.1, Value.bool x.2.2.2.1, Value.int IntKind.i64 x.2.2.2.2.1, Value.int IntKind.i64 x.2.2.2.2.2.1, Value.bool x.2.2.2.2.2.2.1, Value.int IntKind.u8 x.2.2.2.2.2.2.2.1, Value.int IntKind.u8 x.2.2.2.2.2.2.2.2.1, Value.int IntKind.u8 x.2.2.2.2.2.2.2.2.2.1, Value.int IntKind.u8 x.2.2.2.2.2.2.2.2.2.2.1, Value.int IntKind.u64 x.2.2.2.2.2.2.2.2.2.2.2.1, Value.bool x.2.2.2.2.2.2.2.2.2.2.2.2.1, Value.int IntKind.i64 x.2.2.2.2.2.2.2.2.2.2.2.2.2] 48 none)]) (fun x => toldn_pre (x.1) (x.2.1) (x.2.2.1) (x.2.2.2.1) (x.2.2.2.2.1) (x.2.2.2.2.2.1) (x.2.2.2.2.2.2.1) (x.2.2.2.2.2.2.2.1) (x.2.2.2.2.2.2.2.2.1) (x.2.2.2.2.2.2.2.2.2.1) (x.2.2.2.2.2.2.2.2.2.2.1) (x.2.2.2.2.2.2.2.2.2.2.2.1) (x.2.2.2.2.2.2.2.2.2.2.2.2.1) (x.2.2.2.2.2.2.2.2.2.2.2.2.2)) (fun x => toldn_v (x.1) (x.2.1) (x.2.2.1) (x.2.2.2.1) (x.2.2.2.2.1) (x.2.2.2.2.2.1) (x.2.2.2.2.2.2.1) (x.2.2.2.2.2.2.2.1) (x.2.2.2.2.2.2.2.2.1) (x.2.2.2.2.2.2.2.2.2.1) (x.2.2.2.2.2.2.2.2.2.2.1) (x.2.2.2.2.2.2.2.2.2.2.2.1) (x.2.2.2.2.2.2.2.2.2.2.2.2.1) (x.2.2.2.2.2.2.2.2.2.2.2.2.2)) (fun x => toldn_h (x.1) (x.2.1) (x.2.2.1) (x.2.2.2.1) (x.2.2.2.2.1) (x.2.2.2.2.2.1) (x.2.2.2.2.2.2.1) (x.2.2.2.2.2.2.2.1) (x.2.2.2.2.2.2.2.2.1) (x.2.2.2.2.2.2.2.2.2.1) (x.2.2.2.2.2.2.2.2.2.2.1) (x.2.2.2.2.2.2.2.2.2.2.2.1) (x.2.2.2.2.2.2.2.2.2.2.2.2.1) (x.2.2.2.2.2.2.2.2.2.2.2.2.2))
theorem toldn_k_ok : KFor E 15 toldn_k := kP_ok (fun x hx => toldn_call (x.1) (x.2.1) (x.2.2.1) (x.2.2.2.1) (x.2.2.2.2.1) (x.2.2.2.2.2.1) (x.2.2.2.2.2.2.1) (x.2.2.2.2.2.2.2.1) (x.2.2.2.2.2.2.2.2.1) (x.2.2.2.2.2.2.2.2.2.1) (x.2.2.2.2.2.2.2.2.2.2.1) (x.2.2.2.2.2.2.2.2.2.2.2.1) (x.2.2.2.2.2.2.2.2.2.2.2.2.1) (x.2.2.2.2.2.2.2.2.2.2.2.2.2) hx)

end Go.Proofs.Ytfmcohbagbafmaa
