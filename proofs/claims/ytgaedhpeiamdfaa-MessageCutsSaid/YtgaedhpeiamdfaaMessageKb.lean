/-
  A joiner of frames: what Begin does, as contracts, by the shapes of its memory, and by what comes of it.
-/
import Derived.Test.YtgaedhpeiamdfaaMessageKea
set_option linter.unusedVariables false
set_option linter.unusedSimpArgs false
set_option maxRecDepth 10000
open Go Go.Am
namespace Go.Proofs.Ytgaedhpeiamdfaa

def b0M_pre (lim bad : Int) (op sum : Int) (begun last : Bool) (lacks : Int) (l : Bool) (o n : Int) : Prop := ((bcode lim bad op sum begun o n == 0) = true ∧ (o == 0) = true) ∧ b_pr0 lim bad op sum begun last lacks l o n
def b0M_v (lim bad : Int) (op sum : Int) (begun last : Bool) (lacks : Int) (l : Bool) (o n : Int) : Value := .int .i64 0
def b0M_h (lim bad : Int) (op sum : Int) (begun last : Bool) (lacks : Int) (l : Bool) (o n : Int) : Heap := [some (.cells [.int .i64 lim, .bool true, .int .i64 bad, .int .i64 op, .int .i64 (IntKind.wrap .i64 (sum + n)), .pointer none, .slice none 0 0, .pointer none, .bool true, .bool l, .int .i64 n] 51 none)]
theorem b0M_call (lim bad : Int) (op sum : Int) (begun last : Bool) (lacks : Int) (l : Bool) (o n : Int) (hp : b0M_pre lim bad op sum begun last lacks l o n) : CallOk E 12 [.pointer (some ⟨0, 0, none⟩), .bool l, .int .i64 o, .int .i64 n] [some (.cells [.int .i64 lim, .bool true, .int .i64 bad, .int .i64 op, .int .i64 sum, .pointer none, .slice none 0 0, .pointer none, .bool begun, .bool last, .int .i64 lacks] 51 none)] (b0M_v lim bad op sum begun last lacks l o n) (b0M_h lim bad op sum begun last lacks l o n) := by
  have w := b0_all lim bad op sum begun last lacks l o n hp.2
  obtain ⟨c0, c1⟩ := hp.1
  have e1 : b_v0 lim bad op sum begun last lacks l o n = b0M_v lim bad op sum begun last lacks l o n := by
    unfold b_v0 b0M_v
    first | rfl | (rw [c0]; simp only [cond_true, cond_false]; rw [c1]; simp only [cond_true, cond_false]) | (rw [c0]; rw [c1]; rfl)
  have e2 : b_h0 lim bad op sum begun last lacks l o n = b0M_h lim bad op sum begun last lacks l o n := by
    unfold b_h0 b0M_h
    first | rfl | (rw [c0]; simp only [cond_true, cond_false]; rw [c1]; simp only [cond_true, cond_false]) | (rw [c0]; rw [c1]; rfl)
  rw [e1, e2] at w
  exact w

def b0M_ex (a : List Value) (h : Heap) : Int × Int × Int × Int × Bool × Bool × Int × Bool × Int × Int := ((toInt ((cellsOf h 0).getD 0 undef)), (toInt ((cellsOf h 0).getD 2 undef)), (toInt ((cellsOf h 0).getD 3 undef)), (toInt ((cellsOf h 0).getD 4 undef)), (toBool ((cellsOf h 0).getD 8 undef)), (toBool ((cellsOf h 0).getD 9 undef)), (toInt ((cellsOf h 0).getD 10 undef)), (toBool (a.getD 1 undef)), (toInt (a.getD 2 undef)), (toInt (a.getD 3 undef)))
noncomputable def b0M_k : Ct := kS b0M_ex [.ptr 0 0, .bool, .int .i64, .int .i64] [.cells [.int .i64, .boolC true, .int .i64, .int .i64, .int .i64, .nilP, .nilS, .nilP, .bool, .bool, .int .i64] 51 none] (fun (a0, a1, a2, a3, a4, a5, a6, a7, a8, a9) => b0M_pre a0 a1 a2 a3 a4 a5 a6 a7 a8 a9) (fun (a0, a1, a2, a3, a4, a5, a6, a7, a8, a9) => b0M_v a0 a1 a2 a3 a4 a5 a6 a7 a8 a9) (fun (a0, a1, a2, a3, a4, a5, a6, a7, a8, a9) => b0M_h a0 a1 a2 a3 a4 a5 a6 a7 a8 a9)
theorem b0M_k_ok : KFor E 12 b0M_k := kS_ok (fun x hx => b0M_call (x.1) (x.2.1) (x.2.2.1) (x.2.2.2.1) (x.2.2.2.2.1) (x.2.2.2.2.2.1) (x.2.2.2.2.2.2.1) (x.2.2.2.2.2.2.2.1) (x.2.2.2.2.2.2.2.2.1) (x.2.2.2.2.2.2.2.2.2) hx) (fun _ _ => rfl) (fun _ _ => rfl)


def b0N_pre (lim bad : Int) (op sum : Int) (begun last : Bool) (lacks : Int) (l : Bool) (o n : Int) : Prop := ((bcode lim bad op sum begun o n == 0) = true ∧ (o == 0) = false) ∧ b_pr0 lim bad op sum begun last lacks l o n
def b0N_v (lim bad : Int) (op sum : Int) (begun last : Bool) (lacks : Int) (l : Bool) (o n : Int) : Value := .int .i64 0
def b0N_h (lim bad : Int) (op sum : Int) (begun last : Bool) (lacks : Int) (l : Bool) (o n : Int) : Heap := [some (.cells [.int .i64 lim, .bool true, .int .i64 bad, .int .i64 o, .int .i64 (IntKind.wrap .i64 (sum + n)), .pointer none, .slice none 0 0, .pointer (some ⟨1, 0, none⟩), .bool true, .bool l, .int .i64 n] 51 none), some (.cells [.int .i64 0, .int .u8 0, .int .u8 0, .int .i32 0, .int .i64 0, .bool false] 77 none)]
theorem b0N_call (lim bad : Int) (op sum : Int) (begun last : Bool) (lacks : Int) (l : Bool) (o n : Int) (hp : b0N_pre lim bad op sum begun last lacks l o n) : CallOk E 12 [.pointer (some ⟨0, 0, none⟩), .bool l, .int .i64 o, .int .i64 n] [some (.cells [.int .i64 lim, .bool true, .int .i64 bad, .int .i64 op, .int .i64 sum, .pointer none, .slice none 0 0, .pointer none, .bool begun, .bool last, .int .i64 lacks] 51 none)] (b0N_v lim bad op sum begun last lacks l o n) (b0N_h lim bad op sum begun last lacks l o n) := by
  have w := b0_all lim bad op sum begun last lacks l o n hp.2
  obtain ⟨c0, c1⟩ := hp.1
  have e1 : b_v0 lim bad op sum begun last lacks l o n = b0N_v lim bad op sum begun last lacks l o n := by
    unfold b_v0 b0N_v
    first | rfl | (rw [c0]; simp only [cond_true, cond_false]; rw [c1]; simp only [cond_true, cond_false]) | (rw [c0]; rw [c1]; rfl)
  have e2 : b_h0 lim bad op sum begun last lacks l o n = b0N_h lim bad op sum begun last lacks l o n := by
    unfold b_h0 b0N_h
    first | rfl | (rw [c0]; simp only [cond_true, cond_false]; rw [c1]; simp only [cond_true, cond_false]) | (rw [c0]; rw [c1]; rfl)
  rw [e1, e2] at w
  exact w

def b0N_ex (a : List Value) (h : Heap) : Int × Int × Int × Int × Bool × Bool × Int × Bool × Int × Int := ((toInt ((cellsOf h 0).getD 0 undef)), (toInt ((cellsOf h 0).getD 2 undef)), (toInt ((cellsOf h 0).getD 3 undef)), (toInt ((cellsOf h 0).getD 4 undef)), (toBool ((cellsOf h 0).getD 8 undef)), (toBool ((cellsOf h 0).getD 9 undef)), (toInt ((cellsOf h 0).getD 10 undef)), (toBool (a.getD 1 undef)), (toInt (a.getD 2 undef)), (toInt (a.getD 3 undef)))
noncomputable def b0N_k : Ct := kS b0N_ex [.ptr 0 0, .bool, .int .i64, .int .i64] [.cells [.int .i64, .boolC true, .int .i64, .int .i64, .int .i64, .nilP, .nilS, .nilP, .bool, .bool, .int .i64] 51 none] (fun (a0, a1, a2, a3, a4, a5, a6, a7, a8, a9) => b0N_pre a0 a1 a2 a3 a4 a5 a6 a7 a8 a9) (fun (a0, a1, a2, a3, a4, a5, a6, a7, a8, a9) => b0N_v a0 a1 a2 a3 a4 a5 a6 a7 a8 a9) (fun (a0, a1, a2, a3, a4, a5, a6, a7, a8, a9) => b0N_h a0 a1 a2 a3 a4 a5 a6 a7 a8 a9)
theorem b0N_k_ok : KFor E 12 b0N_k := kS_ok (fun x hx => b0N_call (x.1) (x.2.1) (x.2.2.1) (x.2.2.2.1) (x.2.2.2.2.1) (x.2.2.2.2.2.1) (x.2.2.2.2.2.2.1) (x.2.2.2.2.2.2.2.1) (x.2.2.2.2.2.2.2.2.1) (x.2.2.2.2.2.2.2.2.2) hx) (fun _ _ => rfl) (fun _ _ => rfl)


def b0F_pre (lim bad : Int) (op sum : Int) (begun last : Bool) (lacks : Int) (l : Bool) (o n : Int) : Prop := ((bcode lim bad op sum begun o n == 0) = false) ∧ b_pr0 lim bad op sum begun last lacks l o n
def b0F_v (lim bad : Int) (op sum : Int) (begun last : Bool) (lacks : Int) (l : Bool) (o n : Int) : Value := .int .i64 (bcode lim bad op sum begun o n)
def b0F_h (lim bad : Int) (op sum : Int) (begun last : Bool) (lacks : Int) (l : Bool) (o n : Int) : Heap := [some (.cells [.int .i64 lim, .bool true, .int .i64 (bcode lim bad op sum begun o n), .int .i64 op, .int .i64 sum, .pointer none, .slice none 0 0, .pointer none, .bool begun, .bool last, .int .i64 lacks] 51 none)]
theorem b0F_call (lim bad : Int) (op sum : Int) (begun last : Bool) (lacks : Int) (l : Bool) (o n : Int) (hp : b0F_pre lim bad op sum begun last lacks l o n) : CallOk E 12 [.pointer (some ⟨0, 0, none⟩), .bool l, .int .i64 o, .int .i64 n] [some (.cells [.int .i64 lim, .bool true, .int .i64 bad, .int .i64 op, .int .i64 sum, .pointer none, .slice none 0 0, .pointer none, .bool begun, .bool last, .int .i64 lacks] 51 none)] (b0F_v lim bad op sum begun last lacks l o n) (b0F_h lim bad op sum begun last lacks l o n) := by
  have w := b0_all lim bad op sum begun last lacks l o n hp.2
  obtain c0 := hp.1
  have e1 : b_v0 lim bad op sum begun last lacks l o n = b0F_v lim bad op sum begun last lacks l o n := by
    unfold b_v0 b0F_v
    first | rfl | (rw [c0]; simp only [cond_true, cond_false]) | (rw [c0]; rfl)
  have e2 : b_h0 lim bad op sum begun last lacks l o n = b0F_h lim bad op sum begun last lacks l o n := by
    unfold b_h0 b0F_h
    first | rfl | (rw [c0]; simp only [cond_true, cond_false]) | (rw [c0]; rfl)
  rw [e1, e2] at w
  exact w

def b0F_ex (a : List Value) (h : Heap) : Int × Int × Int × Int × Bool × Bool × Int × Bool × Int × Int := ((toInt ((cellsOf h 0).getD 0 undef)), (toInt ((cellsOf h 0).getD 2 undef)), (toInt ((cellsOf h 0).getD 3 undef)), (toInt ((cellsOf h 0).getD 4 undef)), (toBool ((cellsOf h 0).getD 8 undef)), (toBool ((cellsOf h 0).getD 9 undef)), (toInt ((cellsOf h 0).getD 10 undef)), (toBool (a.getD 1 undef)), (toInt (a.getD 2 undef)), (toInt (a.getD 3 undef)))
noncomputable def b0F_k : Ct := kS b0F_ex [.ptr 0 0, .bool, .int .i64, .int .i64] [.cells [.int .i64, .boolC true, .int .i64, .int .i64, .int .i64, .nilP, .nilS, .nilP, .bool, .bool, .int .i64] 51 none] (fun (a0, a1, a2, a3, a4, a5, a6, a7, a8, a9) => b0F_pre a0 a1 a2 a3 a4 a5 a6 a7 a8 a9) (fun (a0, a1, a2, a3, a4, a5, a6, a7, a8, a9) => b0F_v a0 a1 a2 a3 a4 a5 a6 a7 a8 a9) (fun (a0, a1, a2, a3, a4, a5, a6, a7, a8, a9) => b0F_h a0 a1 a2 a3 a4 a5 a6 a7 a8 a9)
theorem b0F_k_ok : KFor E 12 b0F_k := kS_ok (fun x hx => b0F_call (x.1) (x.2.1) (x.2.2.1) (x.2.2.2.1) (x.2.2.2.2.1) (x.2.2.2.2.2.1) (x.2.2.2.2.2.2.1) (x.2.2.2.2.2.2.2.1) (x.2.2.2.2.2.2.2.2.1) (x.2.2.2.2.2.2.2.2.2) hx) (fun _ _ => rfl) (fun _ _ => rfl)


def b1M_pre (lim bad : Int) (op sum : Int) (begun last : Bool) (lacks left : Int) (low high : Int) (x at' : Int) (cbad l : Bool) (o n : Int) : Prop := ((bcode lim bad op sum begun o n == 0) = true ∧ (o == 0) = true) ∧ b_pr1 lim bad op sum begun last lacks left low high x at' cbad l o n
def b1M_v (lim bad : Int) (op sum : Int) (begun last : Bool) (lacks left : Int) (low high : Int) (x at' : Int) (cbad l : Bool) (o n : Int) : Value := .int .i64 0
def b1M_h (lim bad : Int) (op sum : Int) (begun last : Bool) (lacks left : Int) (low high : Int) (x at' : Int) (cbad l : Bool) (o n : Int) : Heap := [some (.cells [.int .i64 lim, .bool true, .int .i64 bad, .int .i64 op, .int .i64 (IntKind.wrap .i64 (sum + n)), .pointer none, .slice none 0 0, .pointer (some ⟨1, 0, none⟩), .bool true, .bool l, .int .i64 n] 51 none), some (.cells [.int .i64 left, .int .u8 low, .int .u8 high, .int .i32 x, .int .i64 at', .bool cbad] 77 none)]
theorem b1M_call (lim bad : Int) (op sum : Int) (begun last : Bool) (lacks left : Int) (low high : Int) (x at' : Int) (cbad l : Bool) (o n : Int) (hp : b1M_pre lim bad op sum begun last lacks left low high x at' cbad l o n) : CallOk E 12 [.pointer (some ⟨0, 0, none⟩), .bool l, .int .i64 o, .int .i64 n] [some (.cells [.int .i64 lim, .bool true, .int .i64 bad, .int .i64 op, .int .i64 sum, .pointer none, .slice none 0 0, .pointer (some ⟨1, 0, none⟩), .bool begun, .bool last, .int .i64 lacks] 51 none), some (.cells [.int .i64 left, .int .u8 low, .int .u8 high, .int .i32 x, .int .i64 at', .bool cbad] 77 none)] (b1M_v lim bad op sum begun last lacks left low high x at' cbad l o n) (b1M_h lim bad op sum begun last lacks left low high x at' cbad l o n) := by
  have w := b1_all lim bad op sum begun last lacks left low high x at' cbad l o n hp.2
  obtain ⟨c0, c1⟩ := hp.1
  have e1 : b_v1 lim bad op sum begun last lacks left low high x at' cbad l o n = b1M_v lim bad op sum begun last lacks left low high x at' cbad l o n := by
    unfold b_v1 b1M_v
    first | rfl | (rw [c0]; simp only [cond_true, cond_false]; rw [c1]; simp only [cond_true, cond_false]) | (rw [c0]; rw [c1]; rfl)
  have e2 : b_h1 lim bad op sum begun last lacks left low high x at' cbad l o n = b1M_h lim bad op sum begun last lacks left low high x at' cbad l o n := by
    unfold b_h1 b1M_h
    first | rfl | (rw [c0]; simp only [cond_true, cond_false]; rw [c1]; simp only [cond_true, cond_false]) | (rw [c0]; rw [c1]; rfl)
  rw [e1, e2] at w
  exact w

def b1M_ex (a : List Value) (h : Heap) : Int × Int × Int × Int × Bool × Bool × Int × Int × Int × Int × Int × Int × Bool × Bool × Int × Int := ((toInt ((cellsOf h 0).getD 0 undef)), (toInt ((cellsOf h 0).getD 2 undef)), (toInt ((cellsOf h 0).getD 3 undef)), (toInt ((cellsOf h 0).getD 4 undef)), (toBool ((cellsOf h 0).getD 8 undef)), (toBool ((cellsOf h 0).getD 9 undef)), (toInt ((cellsOf h 0).getD 10 undef)), (toInt ((cellsOf h 1).getD 0 undef)), (toInt ((cellsOf h 1).getD 1 undef)), (toInt ((cellsOf h 1).getD 2 undef)), (toInt ((cellsOf h 1).getD 3 undef)), (toInt ((cellsOf h 1).getD 4 undef)), (toBool ((cellsOf h 1).getD 5 undef)), (toBool (a.getD 1 undef)), (toInt (a.getD 2 undef)), (toInt (a.getD 3 undef)))
noncomputable def b1M_k : Ct := kS b1M_ex [.ptr 0 0, .bool, .int .i64, .int .i64] [.cells [.int .i64, .boolC true, .int .i64, .int .i64, .int .i64, .nilP, .nilS, .ptr 1 0, .bool, .bool, .int .i64] 51 none, .cells [.int .i64, .int .u8, .int .u8, .int .i32, .int .i64, .bool] 77 none] (fun (a0, a1, a2, a3, a4, a5, a6, a7, a8, a9, a10, a11, a12, a13, a14, a15) => b1M_pre a0 a1 a2 a3 a4 a5 a6 a7 a8 a9 a10 a11 a12 a13 a14 a15) (fun (a0, a1, a2, a3, a4, a5, a6, a7, a8, a9, a10, a11, a12, a13, a14, a15) => b1M_v a0 a1 a2 a3 a4 a5 a6 a7 a8 a9 a10 a11 a12 a13 a14 a15) (fun (a0, a1, a2, a3, a4, a5, a6, a7, a8, a9, a10, a11, a12, a13, a14, a15) => b1M_h a0 a1 a2 a3 a4 a5 a6 a7 a8 a9 a10 a11 a12 a13 a14 a15)
theorem b1M_k_ok : KFor E 12 b1M_k := kS_ok (fun x hx => b1M_call (x.1) (x.2.1) (x.2.2.1) (x.2.2.2.1) (x.2.2.2.2.1) (x.2.2.2.2.2.1) (x.2.2.2.2.2.2.1) (x.2.2.2.2.2.2.2.1) (x.2.2.2.2.2.2.2.2.1) (x.2.2.2.2.2.2.2.2.2.1) (x.2.2.2.2.2.2.2.2.2.2.1) (x.2.2.2.2.2.2.2.2.2.2.2.1) (x.2.2.2.2.2.2.2.2.2.2.2.2.1) (x.2.2.2.2.2.2.2.2.2.2.2.2.2.1) (x.2.2.2.2.2.2.2.2.2.2.2.2.2.2.1) (x.2.2.2.2.2.2.2.2.2.2.2.2.2.2.2) hx) (fun _ _ => rfl) (fun _ _ => rfl)


def b1N_pre (lim bad : Int) (op sum : Int) (begun last : Bool) (lacks left : Int) (low high : Int) (x at' : Int) (cbad l : Bool) (o n : Int) : Prop := ((bcode lim bad op sum begun o n == 0) = true ∧ (o == 0) = false) ∧ b_pr1 lim bad op sum begun last lacks left low high x at' cbad l o n
def b1N_v (lim bad : Int) (op sum : Int) (begun last : Bool) (lacks left : Int) (low high : Int) (x at' : Int) (cbad l : Bool) (o n : Int) : Value := .int .i64 0
def b1N_h (lim bad : Int) (op sum : Int) (begun last : Bool) (lacks left : Int) (low high : Int) (x at' : Int) (cbad l : Bool) (o n : Int) : Heap := [some (.cells [.int .i64 lim, .bool true, .int .i64 bad, .int .i64 o, .int .i64 (IntKind.wrap .i64 (sum + n)), .pointer none, .slice none 0 0, .pointer (some ⟨2, 0, none⟩), .bool true, .bool l, .int .i64 n] 51 none), some (.cells [.int .i64 left, .int .u8 low, .int .u8 high, .int .i32 x, .int .i64 at', .bool cbad] 77 none), some (.cells [.int .i64 0, .int .u8 0, .int .u8 0, .int .i32 0, .int .i64 0, .bool false] 77 none)]
theorem b1N_call (lim bad : Int) (op sum : Int) (begun last : Bool) (lacks left : Int) (low high : Int) (x at' : Int) (cbad l : Bool) (o n : Int) (hp : b1N_pre lim bad op sum begun last lacks left low high x at' cbad l o n) : CallOk E 12 [.pointer (some ⟨0, 0, none⟩), .bool l, .int .i64 o, .int .i64 n] [some (.cells [.int .i64 lim, .bool true, .int .i64 bad, .int .i64 op, .int .i64 sum, .pointer none, .slice none 0 0, .pointer (some ⟨1, 0, none⟩), .bool begun, .bool last, .int .i64 lacks] 51 none), some (.cells [.int .i64 left, .int .u8 low, .int .u8 high, .int .i32 x, .int .i64 at', .bool cbad] 77 none)] (b1N_v lim bad op sum begun last lacks left low high x at' cbad l o n) (b1N_h lim bad op sum begun last lacks left low high x at' cbad l o n) := by
  have w := b1_all lim bad op sum begun last lacks left low high x at' cbad l o n hp.2
  obtain ⟨c0, c1⟩ := hp.1
  have e1 : b_v1 lim bad op sum begun last lacks left low high x at' cbad l o n = b1N_v lim bad op sum begun last lacks left low high x at' cbad l o n := by
    unfold b_v1 b1N_v
    first | rfl | (rw [c0]; simp only [cond_true, cond_false]; rw [c1]; simp only [cond_true, cond_false]) | (rw [c0]; rw [c1]; rfl)
  have e2 : b_h1 lim bad op sum begun last lacks left low high x at' cbad l o n = b1N_h lim bad op sum begun last lacks left low high x at' cbad l o n := by
    unfold b_h1 b1N_h
    first | rfl | (rw [c0]; simp only [cond_true, cond_false]; rw [c1]; simp only [cond_true, cond_false]) | (rw [c0]; rw [c1]; rfl)
  rw [e1, e2] at w
  exact w

def b1N_ex (a : List Value) (h : Heap) : Int × Int × Int × Int × Bool × Bool × Int × Int × Int × Int × Int × Int × Bool × Bool × Int × Int := ((toInt ((cellsOf h 0).getD 0 undef)), (toInt ((cellsOf h 0).getD 2 undef)), (toInt ((cellsOf h 0).getD 3 undef)), (toInt ((cellsOf h 0).getD 4 undef)), (toBool ((cellsOf h 0).getD 8 undef)), (toBool ((cellsOf h 0).getD 9 undef)), (toInt ((cellsOf h 0).getD 10 undef)), (toInt ((cellsOf h 1).getD 0 undef)), (toInt ((cellsOf h 1).getD 1 undef)), (toInt ((cellsOf h 1).getD 2 undef)), (toInt ((cellsOf h 1).getD 3 undef)), (toInt ((cellsOf h 1).getD 4 undef)), (toBool ((cellsOf h 1).getD 5 undef)), (toBool (a.getD 1 undef)), (toInt (a.getD 2 undef)), (toInt (a.getD 3 undef)))
noncomputable def b1N_k : Ct := kS b1N_ex [.ptr 0 0, .bool, .int .i64, .int .i64] [.cells [.int .i64, .boolC true, .int .i64, .int .i64, .int .i64, .nilP, .nilS, .ptr 1 0, .bool, .bool, .int .i64] 51 none, .cells [.int .i64, .int .u8, .int .u8, .int .i32, .int .i64, .bool] 77 none] (fun (a0, a1, a2, a3, a4, a5, a6, a7, a8, a9, a10, a11, a12, a13, a14, a15) => b1N_pre a0 a1 a2 a3 a4 a5 a6 a7 a8 a9 a10 a11 a12 a13 a14 a15) (fun (a0, a1, a2, a3, a4, a5, a6, a7, a8, a9, a10, a11, a12, a13, a14, a15) => b1N_v a0 a1 a2 a3 a4 a5 a6 a7 a8 a9 a10 a11 a12 a13 a14 a15) (fun (a0, a1, a2, a3, a4, a5, a6, a7, a8, a9, a10, a11, a12, a13, a14, a15) => b1N_h a0 a1 a2 a3 a4 a5 a6 a7 a8 a9 a10 a11 a12 a13 a14 a15)
theorem b1N_k_ok : KFor E 12 b1N_k := kS_ok (fun x hx => b1N_call (x.1) (x.2.1) (x.2.2.1) (x.2.2.2.1) (x.2.2.2.2.1) (x.2.2.2.2.2.1) (x.2.2.2.2.2.2.1) (x.2.2.2.2.2.2.2.1) (x.2.2.2.2.2.2.2.2.1) (x.2.2.2.2.2.2.2.2.2.1) (x.2.2.2.2.2.2.2.2.2.2.1) (x.2.2.2.2.2.2.2.2.2.2.2.1) (x.2.2.2.2.2.2.2.2.2.2.2.2.1) (x.2.2.2.2.2.2.2.2.2.2.2.2.2.1) (x.2.2.2.2.2.2.2.2.2.2.2.2.2.2.1) (x.2.2.2.2.2.2.2.2.2.2.2.2.2.2.2) hx) (fun _ _ => rfl) (fun _ _ => rfl)


def b1F_pre (lim bad : Int) (op sum : Int) (begun last : Bool) (lacks left : Int) (low high : Int) (x at' : Int) (cbad l : Bool) (o n : Int) : Prop := ((bcode lim bad op sum begun o n == 0) = false) ∧ b_pr1 lim bad op sum begun last lacks left low high x at' cbad l o n
def b1F_v (lim bad : Int) (op sum : Int) (begun last : Bool) (lacks left : Int) (low high : Int) (x at' : Int) (cbad l : Bool) (o n : Int) : Value := .int .i64 (bcode lim bad op sum begun o n)
def b1F_h (lim bad : Int) (op sum : Int) (begun last : Bool) (lacks left : Int) (low high : Int) (x at' : Int) (cbad l : Bool) (o n : Int) : Heap := [some (.cells [.int .i64 lim, .bool true, .int .i64 (bcode lim bad op sum begun o n), .int .i64 op, .int .i64 sum, .pointer none, .slice none 0 0, .pointer (some ⟨1, 0, none⟩), .bool begun, .bool last, .int .i64 lacks] 51 none), some (.cells [.int .i64 left, .int .u8 low, .int .u8 high, .int .i32 x, .int .i64 at', .bool cbad] 77 none)]
theorem b1F_call (lim bad : Int) (op sum : Int) (begun last : Bool) (lacks left : Int) (low high : Int) (x at' : Int) (cbad l : Bool) (o n : Int) (hp : b1F_pre lim bad op sum begun last lacks left low high x at' cbad l o n) : CallOk E 12 [.pointer (some ⟨0, 0, none⟩), .bool l, .int .i64 o, .int .i64 n] [some (.cells [.int .i64 lim, .bool true, .int .i64 bad, .int .i64 op, .int .i64 sum, .pointer none, .slice none 0 0, .pointer (some ⟨1, 0, none⟩), .bool begun, .bool last, .int .i64 lacks] 51 none), some (.cells [.int .i64 left, .int .u8 low, .int .u8 high, .int .i32 x, .int .i64 at', .bool cbad] 77 none)] (b1F_v lim bad op sum begun last lacks left low high x at' cbad l o n) (b1F_h lim bad op sum begun last lacks left low high x at' cbad l o n) := by
  have w := b1_all lim bad op sum begun last lacks left low high x at' cbad l o n hp.2
  obtain c0 := hp.1
  have e1 : b_v1 lim bad op sum begun last lacks left low high x at' cbad l o n = b1F_v lim bad op sum begun last lacks left low high x at' cbad l o n := by
    unfold b_v1 b1F_v
    first | rfl | (rw [c0]; simp only [cond_true, cond_false]) | (rw [c0]; rfl)
  have e2 : b_h1 lim bad op sum begun last lacks left low high x at' cbad l o n = b1F_h lim bad op sum begun last lacks left low high x at' cbad l o n := by
    unfold b_h1 b1F_h
    first | rfl | (rw [c0]; simp only [cond_true, cond_false]) | (rw [c0]; rfl)
  rw [e1, e2] at w
  exact w

def b1F_ex (a : List Value) (h : Heap) : Int × Int × Int × Int × Bool × Bool × Int × Int × Int × Int × Int × Int × Bool × Bool × Int × Int := ((toInt ((cellsOf h 0).getD 0 undef)), (toInt ((cellsOf h 0).getD 2 undef)), (toInt ((cellsOf h 0).getD 3 undef)), (toInt ((cellsOf h 0).getD 4 undef)), (toBool ((cellsOf h 0).getD 8 undef)), (toBool ((cellsOf h 0).getD 9 undef)), (toInt ((cellsOf h 0).getD 10 undef)), (toInt ((cellsOf h 1).getD 0 undef)), (toInt ((cellsOf h 1).getD 1 undef)), (toInt ((cellsOf h 1).getD 2 undef)), (toInt ((cellsOf h 1).getD 3 undef)), (toInt ((cellsOf h 1).getD 4 undef)), (toBool ((cellsOf h 1).getD 5 undef)), (toBool (a.getD 1 undef)), (toInt (a.getD 2 undef)), (toInt (a.getD 3 undef)))
noncomputable def b1F_k : Ct := kS b1F_ex [.ptr 0 0, .bool, .int .i64, .int .i64] [.cells [.int .i64, .boolC true, .int .i64, .int .i64, .int .i64, .nilP, .nilS, .ptr 1 0, .bool, .bool, .int .i64] 51 none, .cells [.int .i64, .int .u8, .int .u8, .int .i32, .int .i64, .bool] 77 none] (fun (a0, a1, a2, a3, a4, a5, a6, a7, a8, a9, a10, a11, a12, a13, a14, a15) => b1F_pre a0 a1 a2 a3 a4 a5 a6 a7 a8 a9 a10 a11 a12 a13 a14 a15) (fun (a0, a1, a2, a3, a4, a5, a6, a7, a8, a9, a10, a11, a12, a13, a14, a15) => b1F_v a0 a1 a2 a3 a4 a5 a6 a7 a8 a9 a10 a11 a12 a13 a14 a15) (fun (a0, a1, a2, a3, a4, a5, a6, a7, a8, a9, a10, a11, a12, a13, a14, a15) => b1F_h a0 a1 a2 a3 a4 a5 a6 a7 a8 a9 a10 a11 a12 a13 a14 a15)
theorem b1F_k_ok : KFor E 12 b1F_k := kS_ok (fun x hx => b1F_call (x.1) (x.2.1) (x.2.2.1) (x.2.2.2.1) (x.2.2.2.2.1) (x.2.2.2.2.2.1) (x.2.2.2.2.2.2.1) (x.2.2.2.2.2.2.2.1) (x.2.2.2.2.2.2.2.2.1) (x.2.2.2.2.2.2.2.2.2.1) (x.2.2.2.2.2.2.2.2.2.2.1) (x.2.2.2.2.2.2.2.2.2.2.2.1) (x.2.2.2.2.2.2.2.2.2.2.2.2.1) (x.2.2.2.2.2.2.2.2.2.2.2.2.2.1) (x.2.2.2.2.2.2.2.2.2.2.2.2.2.2.1) (x.2.2.2.2.2.2.2.2.2.2.2.2.2.2.2) hx) (fun _ _ => rfl) (fun _ _ => rfl)


def b2M_pre (lim bad : Int) (op sum : Int) (begun last : Bool) (lacks left : Int) (low high : Int) (x at' : Int) (cbad l : Bool) (o n : Int) : Prop := ((bcode lim bad op sum begun o n == 0) = true ∧ (o == 0) = true) ∧ b_pr2 lim bad op sum begun last lacks left low high x at' cbad l o n
def b2M_v (lim bad : Int) (op sum : Int) (begun last : Bool) (lacks left : Int) (low high : Int) (x at' : Int) (cbad l : Bool) (o n : Int) : Value := .int .i64 0
def b2M_h (lim bad : Int) (op sum : Int) (begun last : Bool) (lacks left : Int) (low high : Int) (x at' : Int) (cbad l : Bool) (o n : Int) : Heap := [some (.cells [.int .i64 lim, .bool true, .int .i64 bad, .int .i64 op, .int .i64 (IntKind.wrap .i64 (sum + n)), .pointer (some ⟨0, 5, none⟩), .slice none 0 0, .pointer (some ⟨1, 0, none⟩), .bool true, .bool l, .int .i64 n] 51 none), some (.cells [.int .i64 left, .int .u8 low, .int .u8 high, .int .i32 x, .int .i64 at', .bool cbad] 77 none)]
theorem b2M_call (lim bad : Int) (op sum : Int) (begun last : Bool) (lacks left : Int) (low high : Int) (x at' : Int) (cbad l : Bool) (o n : Int) (hp : b2M_pre lim bad op sum begun last lacks left low high x at' cbad l o n) : CallOk E 12 [.pointer (some ⟨0, 0, none⟩), .bool l, .int .i64 o, .int .i64 n] [some (.cells [.int .i64 lim, .bool true, .int .i64 bad, .int .i64 op, .int .i64 sum, .pointer (some ⟨0, 5, none⟩), .slice none 0 0, .pointer (some ⟨1, 0, none⟩), .bool begun, .bool last, .int .i64 lacks] 51 none), some (.cells [.int .i64 left, .int .u8 low, .int .u8 high, .int .i32 x, .int .i64 at', .bool cbad] 77 none)] (b2M_v lim bad op sum begun last lacks left low high x at' cbad l o n) (b2M_h lim bad op sum begun last lacks left low high x at' cbad l o n) := by
  have w := b2_all lim bad op sum begun last lacks left low high x at' cbad l o n hp.2
  obtain ⟨c0, c1⟩ := hp.1
  have e1 : b_v2 lim bad op sum begun last lacks left low high x at' cbad l o n = b2M_v lim bad op sum begun last lacks left low high x at' cbad l o n := by
    unfold b_v2 b2M_v
    first | rfl | (rw [c0]; simp only [cond_true, cond_false]; rw [c1]; simp only [cond_true, cond_false]) | (rw [c0]; rw [c1]; rfl)
  have e2 : b_h2 lim bad op sum begun last lacks left low high x at' cbad l o n = b2M_h lim bad op sum begun last lacks left low high x at' cbad l o n := by
    unfold b_h2 b2M_h
    first | rfl | (rw [c0]; simp only [cond_true, cond_false]; rw [c1]; simp only [cond_true, cond_false]) | (rw [c0]; rw [c1]; rfl)
  rw [e1, e2] at w
  exact w

def b2M_ex (a : List Value) (h : Heap) : Int × Int × Int × Int × Bool × Bool × Int × Int × Int × Int × Int × Int × Bool × Bool × Int × Int := ((toInt ((cellsOf h 0).getD 0 undef)), (toInt ((cellsOf h 0).getD 2 undef)), (toInt ((cellsOf h 0).getD 3 undef)), (toInt ((cellsOf h 0).getD 4 undef)), (toBool ((cellsOf h 0).getD 8 undef)), (toBool ((cellsOf h 0).getD 9 undef)), (toInt ((cellsOf h 0).getD 10 undef)), (toInt ((cellsOf h 1).getD 0 undef)), (toInt ((cellsOf h 1).getD 1 undef)), (toInt ((cellsOf h 1).getD 2 undef)), (toInt ((cellsOf h 1).getD 3 undef)), (toInt ((cellsOf h 1).getD 4 undef)), (toBool ((cellsOf h 1).getD 5 undef)), (toBool (a.getD 1 undef)), (toInt (a.getD 2 undef)), (toInt (a.getD 3 undef)))
noncomputable def b2M_k : Ct := kS b2M_ex [.ptr 0 0, .bool, .int .i64, .int .i64] [.cells [.int .i64, .boolC true, .int .i64, .int .i64, .int .i64, .ptr 0 5, .nilS, .ptr 1 0, .bool, .bool, .int .i64] 51 none, .cells [.int .i64, .int .u8, .int .u8, .int .i32, .int .i64, .bool] 77 none] (fun (a0, a1, a2, a3, a4, a5, a6, a7, a8, a9, a10, a11, a12, a13, a14, a15) => b2M_pre a0 a1 a2 a3 a4 a5 a6 a7 a8 a9 a10 a11 a12 a13 a14 a15) (fun (a0, a1, a2, a3, a4, a5, a6, a7, a8, a9, a10, a11, a12, a13, a14, a15) => b2M_v a0 a1 a2 a3 a4 a5 a6 a7 a8 a9 a10 a11 a12 a13 a14 a15) (fun (a0, a1, a2, a3, a4, a5, a6, a7, a8, a9, a10, a11, a12, a13, a14, a15) => b2M_h a0 a1 a2 a3 a4 a5 a6 a7 a8 a9 a10 a11 a12 a13 a14 a15)
theorem b2M_k_ok : KFor E 12 b2M_k := kS_ok (fun x hx => b2M_call (x.1) (x.2.1) (x.2.2.1) (x.2.2.2.1) (x.2.2.2.2.1) (x.2.2.2.2.2.1) (x.2.2.2.2.2.2.1) (x.2.2.2.2.2.2.2.1) (x.2.2.2.2.2.2.2.2.1) (x.2.2.2.2.2.2.2.2.2.1) (x.2.2.2.2.2.2.2.2.2.2.1) (x.2.2.2.2.2.2.2.2.2.2.2.1) (x.2.2.2.2.2.2.2.2.2.2.2.2.1) (x.2.2.2.2.2.2.2.2.2.2.2.2.2.1) (x.2.2.2.2.2.2.2.2.2.2.2.2.2.2.1) (x.2.2.2.2.2.2.2.2.2.2.2.2.2.2.2) hx) (fun _ _ => rfl) (fun _ _ => rfl)


def b2N_pre (lim bad : Int) (op sum : Int) (begun last : Bool) (lacks left : Int) (low high : Int) (x at' : Int) (cbad l : Bool) (o n : Int) : Prop := ((bcode lim bad op sum begun o n == 0) = true ∧ (o == 0) = false) ∧ b_pr2 lim bad op sum begun last lacks left low high x at' cbad l o n
def b2N_v (lim bad : Int) (op sum : Int) (begun last : Bool) (lacks left : Int) (low high : Int) (x at' : Int) (cbad l : Bool) (o n : Int) : Value := .int .i64 0
def b2N_h (lim bad : Int) (op sum : Int) (begun last : Bool) (lacks left : Int) (low high : Int) (x at' : Int) (cbad l : Bool) (o n : Int) : Heap := [some (.cells [.int .i64 lim, .bool true, .int .i64 bad, .int .i64 o, .int .i64 (IntKind.wrap .i64 (sum + n)), .pointer (some ⟨0, 5, none⟩), .slice none 0 0, .pointer (some ⟨2, 0, none⟩), .bool true, .bool l, .int .i64 n] 51 none), some (.cells [.int .i64 left, .int .u8 low, .int .u8 high, .int .i32 x, .int .i64 at', .bool cbad] 77 none), some (.cells [.int .i64 0, .int .u8 0, .int .u8 0, .int .i32 0, .int .i64 0, .bool false] 77 none)]
theorem b2N_call (lim bad : Int) (op sum : Int) (begun last : Bool) (lacks left : Int) (low high : Int) (x at' : Int) (cbad l : Bool) (o n : Int) (hp : b2N_pre lim bad op sum begun last lacks left low high x at' cbad l o n) : CallOk E 12 [.pointer (some ⟨0, 0, none⟩), .bool l, .int .i64 o, .int .i64 n] [some (.cells [.int .i64 lim, .bool true, .int .i64 bad, .int .i64 op, .int .i64 sum, .pointer (some ⟨0, 5, none⟩), .slice none 0 0, .pointer (some ⟨1, 0, none⟩), .bool begun, .bool last, .int .i64 lacks] 51 none), some (.cells [.int .i64 left, .int .u8 low, .int .u8 high, .int .i32 x, .int .i64 at', .bool cbad] 77 none)] (b2N_v lim bad op sum begun last lacks left low high x at' cbad l o n) (b2N_h lim bad op sum begun last lacks left low high x at' cbad l o n) := by
  have w := b2_all lim bad op sum begun last lacks left low high x at' cbad l o n hp.2
  obtain ⟨c0, c1⟩ := hp.1
  have e1 : b_v2 lim bad op sum begun last lacks left low high x at' cbad l o n = b2N_v lim bad op sum begun last lacks left low high x at' cbad l o n := by
    unfold b_v2 b2N_v
    first | rfl | (rw [c0]; simp only [cond_true, cond_false]; rw [c1]; simp only [cond_true, cond_false]) | (rw [c0]; rw [c1]; rfl)
  have e2 : b_h2 lim bad op sum begun last lacks left low high x at' cbad l o n = b2N_h lim bad op sum begun last lacks left low high x at' cbad l o n := by
    unfold b_h2 b2N_h
    first | rfl | (rw [c0]; simp only [cond_true, cond_false]; rw [c1]; simp only [cond_true, cond_false]) | (rw [c0]; rw [c1]; rfl)
  rw [e1, e2] at w
  exact w

def b2N_ex (a : List Value) (h : Heap) : Int × Int × Int × Int × Bool × Bool × Int × Int × Int × Int × Int × Int × Bool × Bool × Int × Int := ((toInt ((cellsOf h 0).getD 0 undef)), (toInt ((cellsOf h 0).getD 2 undef)), (toInt ((cellsOf h 0).getD 3 undef)), (toInt ((cellsOf h 0).getD 4 undef)), (toBool ((cellsOf h 0).getD 8 undef)), (toBool ((cellsOf h 0).getD 9 undef)), (toInt ((cellsOf h 0).getD 10 undef)), (toInt ((cellsOf h 1).getD 0 undef)), (toInt ((cellsOf h 1).getD 1 undef)), (toInt ((cellsOf h 1).getD 2 undef)), (toInt ((cellsOf h 1).getD 3 undef)), (toInt ((cellsOf h 1).getD 4 undef)), (toBool ((cellsOf h 1).getD 5 undef)), (toBool (a.getD 1 undef)), (toInt (a.getD 2 undef)), (toInt (a.getD 3 undef)))
noncomputable def b2N_k : Ct := kS b2N_ex [.ptr 0 0, .bool, .int .i64, .int .i64] [.cells [.int .i64, .boolC true, .int .i64, .int .i64, .int .i64, .ptr 0 5, .nilS, .ptr 1 0, .bool, .bool, .int .i64] 51 none, .cells [.int .i64, .int .u8, .int .u8, .int .i32, .int .i64, .bool] 77 none] (fun (a0, a1, a2, a3, a4, a5, a6, a7, a8, a9, a10, a11, a12, a13, a14, a15) => b2N_pre a0 a1 a2 a3 a4 a5 a6 a7 a8 a9 a10 a11 a12 a13 a14 a15) (fun (a0, a1, a2, a3, a4, a5, a6, a7, a8, a9, a10, a11, a12, a13, a14, a15) => b2N_v a0 a1 a2 a3 a4 a5 a6 a7 a8 a9 a10 a11 a12 a13 a14 a15) (fun (a0, a1, a2, a3, a4, a5, a6, a7, a8, a9, a10, a11, a12, a13, a14, a15) => b2N_h a0 a1 a2 a3 a4 a5 a6 a7 a8 a9 a10 a11 a12 a13 a14 a15)
theorem b2N_k_ok : KFor E 12 b2N_k := kS_ok (fun x hx => b2N_call (x.1) (x.2.1) (x.2.2.1) (x.2.2.2.1) (x.2.2.2.2.1) (x.2.2.2.2.2.1) (x.2.2.2.2.2.2.1) (x.2.2.2.2.2.2.2.1) (x.2.2.2.2.2.2.2.2.1) (x.2.2.2.2.2.2.2.2.2.1) (x.2.2.2.2.2.2.2.2.2.2.1) (x.2.2.2.2.2.2.2.2.2.2.2.1) (x.2.2.2.2.2.2.2.2.2.2.2.2.1) (x.2.2.2.2.2.2.2.2.2.2.2.2.2.1) (x.2.2.2.2.2.2.2.2.2.2.2.2.2.2.1) (x.2.2.2.2.2.2.2.2.2.2.2.2.2.2.2) hx) (fun _ _ => rfl) (fun _ _ => rfl)


def b2F_pre (lim bad : Int) (op sum : Int) (begun last : Bool) (lacks left : Int) (low high : Int) (x at' : Int) (cbad l : Bool) (o n : Int) : Prop := ((bcode lim bad op sum begun o n == 0) = false) ∧ b_pr2 lim bad op sum begun last lacks left low high x at' cbad l o n
def b2F_v (lim bad : Int) (op sum : Int) (begun last : Bool) (lacks left : Int) (low high : Int) (x at' : Int) (cbad l : Bool) (o n : Int) : Value := .int .i64 (bcode lim bad op sum begun o n)
def b2F_h (lim bad : Int) (op sum : Int) (begun last : Bool) (lacks left : Int) (low high : Int) (x at' : Int) (cbad l : Bool) (o n : Int) : Heap := [some (.cells [.int .i64 lim, .bool true, .int .i64 (bcode lim bad op sum begun o n), .int .i64 op, .int .i64 sum, .pointer (some ⟨0, 5, none⟩), .slice none 0 0, .pointer (some ⟨1, 0, none⟩), .bool begun, .bool last, .int .i64 lacks] 51 none), some (.cells [.int .i64 left, .int .u8 low, .int .u8 high, .int .i32 x, .int .i64 at', .bool cbad] 77 none)]
theorem b2F_call (lim bad : Int) (op sum : Int) (begun last : Bool) (lacks left : Int) (low high : Int) (x at' : Int) (cbad l : Bool) (o n : Int) (hp : b2F_pre lim bad op sum begun last lacks left low high x at' cbad l o n) : CallOk E 12 [.pointer (some ⟨0, 0, none⟩), .bool l, .int .i64 o, .int .i64 n] [some (.cells [.int .i64 lim, .bool true, .int .i64 bad, .int .i64 op, .int .i64 sum, .pointer (some ⟨0, 5, none⟩), .slice none 0 0, .pointer (some ⟨1, 0, none⟩), .bool begun, .bool last, .int .i64 lacks] 51 none), some (.cells [.int .i64 left, .int .u8 low, .int .u8 high, .int .i32 x, .int .i64 at', .bool cbad] 77 none)] (b2F_v lim bad op sum begun last lacks left low high x at' cbad l o n) (b2F_h lim bad op sum begun last lacks left low high x at' cbad l o n) := by
  have w := b2_all lim bad op sum begun last lacks left low high x at' cbad l o n hp.2
  obtain c0 := hp.1
  have e1 : b_v2 lim bad op sum begun last lacks left low high x at' cbad l o n = b2F_v lim bad op sum begun last lacks left low high x at' cbad l o n := by
    unfold b_v2 b2F_v
    first | rfl | (rw [c0]; simp only [cond_true, cond_false]) | (rw [c0]; rfl)
  have e2 : b_h2 lim bad op sum begun last lacks left low high x at' cbad l o n = b2F_h lim bad op sum begun last lacks left low high x at' cbad l o n := by
    unfold b_h2 b2F_h
    first | rfl | (rw [c0]; simp only [cond_true, cond_false]) | (rw [c0]; rfl)
  rw [e1, e2] at w
  exact w

def b2F_ex (a : List Value) (h : Heap) : Int × Int × Int × Int × Bool × Bool × Int × Int × Int × Int × Int × Int × Bool × Bool × Int × Int := ((toInt ((cellsOf h 0).getD 0 undef)), (toInt ((cellsOf h 0).getD 2 undef)), (toInt ((cellsOf h 0).getD 3 undef)), (toInt ((cellsOf h 0).getD 4 undef)), (toBool ((cellsOf h 0).getD 8 undef)), (toBool ((cellsOf h 0).getD 9 undef)), (toInt ((cellsOf h 0).getD 10 undef)), (toInt ((cellsOf h 1).getD 0 undef)), (toInt ((cellsOf h 1).getD 1 undef)), (toInt ((cellsOf h 1).getD 2 undef)), (toInt ((cellsOf h 1).getD 3 undef)), (toInt ((cellsOf h 1).getD 4 undef)), (toBool ((cellsOf h 1).getD 5 undef)), (toBool (a.getD 1 undef)), (toInt (a.getD 2 undef)), (toInt (a.getD 3 undef)))
noncomputable def b2F_k : Ct := kS b2F_ex [.ptr 0 0, .bool, .int .i64, .int .i64] [.cells [.int .i64, .boolC true, .int .i64, .int .i64, .int .i64, .ptr 0 5, .nilS, .ptr 1 0, .bool, .bool, .int .i64] 51 none, .cells [.int .i64, .int .u8, .int .u8, .int .i32, .int .i64, .bool] 77 none] (fun (a0, a1, a2, a3, a4, a5, a6, a7, a8, a9, a10, a11, a12, a13, a14, a15) => b2F_pre a0 a1 a2 a3 a4 a5 a6 a7 a8 a9 a10 a11 a12 a13 a14 a15) (fun (a0, a1, a2, a3, a4, a5, a6, a7, a8, a9, a10, a11, a12, a13, a14, a15) => b2F_v a0 a1 a2 a3 a4 a5 a6 a7 a8 a9 a10 a11 a12 a13 a14 a15) (fun (a0, a1, a2, a3, a4, a5, a6, a7, a8, a9, a10, a11, a12, a13, a14, a15) => b2F_h a0 a1 a2 a3 a4 a5 a6 a7 a8 a9 a10 a11 a12 a13 a14 a15)
theorem b2F_k_ok : KFor E 12 b2F_k := kS_ok (fun x hx => b2F_call (x.1) (x.2.1) (x.2.2.1) (x.2.2.2.1) (x.2.2.2.2.1) (x.2.2.2.2.2.1) (x.2.2.2.2.2.2.1) (x.2.2.2.2.2.2.2.1) (x.2.2.2.2.2.2.2.2.1) (x.2.2.2.2.2.2.2.2.2.1) (x.2.2.2.2.2.2.2.2.2.2.1) (x.2.2.2.2.2.2.2.2.2.2.2.1) (x.2.2.2.2.2.2.2.2.2.2.2.2.1) (x.2.2.2.2.2.2.2.2.2.2.2.2.2.1) (x.2.2.2.2.2.2.2.2.2.2.2.2.2.2.1) (x.2.2.2.2.2.2.2.2.2.2.2.2.2.2.2) hx) (fun _ _ => rfl) (fun _ _ => rfl)


def b3M_pre (lim bad : Int) (op sum : Int) (begun last : Bool) (lacks : Int) (bn : Nat) (B : List Value) (left low : Int) (high x at' : Int) (cbad l : Bool) (o n : Int) : Prop := ((bcode lim bad op sum begun o n == 0) = true ∧ (o == 0) = true) ∧ b_pr3 lim bad op sum begun last lacks bn B left low high x at' cbad l o n
def b3M_v (lim bad : Int) (op sum : Int) (begun last : Bool) (lacks : Int) (bn : Nat) (B : List Value) (left low : Int) (high x at' : Int) (cbad l : Bool) (o n : Int) : Value := .int .i64 0
def b3M_h (lim bad : Int) (op sum : Int) (begun last : Bool) (lacks : Int) (bn : Nat) (B : List Value) (left low : Int) (high x at' : Int) (cbad l : Bool) (o n : Int) : Heap := [some (.cells [.int .i64 lim, .bool true, .int .i64 bad, .int .i64 op, .int .i64 (IntKind.wrap .i64 (sum + n)), .pointer (some ⟨0, 5, none⟩), .slice (some ⟨1, 0, none⟩) bn 0, .pointer (some ⟨2, 0, none⟩), .bool true, .bool l, .int .i64 n] 51 none), some (.cells B 5 (some 1)), some (.cells [.int .i64 left, .int .u8 low, .int .u8 high, .int .i32 x, .int .i64 at', .bool cbad] 77 none)]
theorem b3M_call (lim bad : Int) (op sum : Int) (begun last : Bool) (lacks : Int) (bn : Nat) (B : List Value) (left low : Int) (high x at' : Int) (cbad l : Bool) (o n : Int) (hp : b3M_pre lim bad op sum begun last lacks bn B left low high x at' cbad l o n) : CallOk E 12 [.pointer (some ⟨0, 0, none⟩), .bool l, .int .i64 o, .int .i64 n] [some (.cells [.int .i64 lim, .bool true, .int .i64 bad, .int .i64 op, .int .i64 sum, .pointer (some ⟨0, 5, none⟩), .slice (some ⟨1, 0, none⟩) bn 0, .pointer (some ⟨2, 0, none⟩), .bool begun, .bool last, .int .i64 lacks] 51 none), some (.cells B 5 (some 1)), some (.cells [.int .i64 left, .int .u8 low, .int .u8 high, .int .i32 x, .int .i64 at', .bool cbad] 77 none)] (b3M_v lim bad op sum begun last lacks bn B left low high x at' cbad l o n) (b3M_h lim bad op sum begun last lacks bn B left low high x at' cbad l o n) := by
  have w := b3_all lim bad op sum begun last lacks bn B left low high x at' cbad l o n hp.2
  obtain ⟨c0, c1⟩ := hp.1
  have e1 : b_v3 lim bad op sum begun last lacks bn B left low high x at' cbad l o n = b3M_v lim bad op sum begun last lacks bn B left low high x at' cbad l o n := by
    unfold b_v3 b3M_v
    first | rfl | (rw [c0]; simp only [cond_true, cond_false]; rw [c1]; simp only [cond_true, cond_false]) | (rw [c0]; rw [c1]; rfl)
  have e2 : b_h3 lim bad op sum begun last lacks bn B left low high x at' cbad l o n = b3M_h lim bad op sum begun last lacks bn B left low high x at' cbad l o n := by
    unfold b_h3 b3M_h
    first | rfl | (rw [c0]; simp only [cond_true, cond_false]; rw [c1]; simp only [cond_true, cond_false]) | (rw [c0]; rw [c1]; rfl)
  rw [e1, e2] at w
  exact w

def b3M_ex (a : List Value) (h : Heap) : Int × Int × Int × Int × Bool × Bool × Int × Nat × List Value × Int × Int × Int × Int × Int × Bool × Bool × Int × Int := ((toInt ((cellsOf h 0).getD 0 undef)), (toInt ((cellsOf h 0).getD 2 undef)), (toInt ((cellsOf h 0).getD 3 undef)), (toInt ((cellsOf h 0).getD 4 undef)), (toBool ((cellsOf h 0).getD 8 undef)), (toBool ((cellsOf h 0).getD 9 undef)), (toInt ((cellsOf h 0).getD 10 undef)), (sliceLen ((cellsOf h 0).getD 6 undef)), (cellsOf h 1), (toInt ((cellsOf h 2).getD 0 undef)), (toInt ((cellsOf h 2).getD 1 undef)), (toInt ((cellsOf h 2).getD 2 undef)), (toInt ((cellsOf h 2).getD 3 undef)), (toInt ((cellsOf h 2).getD 4 undef)), (toBool ((cellsOf h 2).getD 5 undef)), (toBool (a.getD 1 undef)), (toInt (a.getD 2 undef)), (toInt (a.getD 3 undef)))
noncomputable def b3M_k : Ct := kS b3M_ex [.ptr 0 0, .bool, .int .i64, .int .i64] [.cells [.int .i64, .boolC true, .int .i64, .int .i64, .int .i64, .ptr 0 5, .sl 1 (some 0) (some 0), .ptr 2 0, .bool, .bool, .int .i64] 51 none, .any 5 (some 1), .cells [.int .i64, .int .u8, .int .u8, .int .i32, .int .i64, .bool] 77 none] (fun (a0, a1, a2, a3, a4, a5, a6, a7, a8, a9, a10, a11, a12, a13, a14, a15, a16, a17) => b3M_pre a0 a1 a2 a3 a4 a5 a6 a7 a8 a9 a10 a11 a12 a13 a14 a15 a16 a17) (fun (a0, a1, a2, a3, a4, a5, a6, a7, a8, a9, a10, a11, a12, a13, a14, a15, a16, a17) => b3M_v a0 a1 a2 a3 a4 a5 a6 a7 a8 a9 a10 a11 a12 a13 a14 a15 a16 a17) (fun (a0, a1, a2, a3, a4, a5, a6, a7, a8, a9, a10, a11, a12, a13, a14, a15, a16, a17) => b3M_h a0 a1 a2 a3 a4 a5 a6 a7 a8 a9 a10 a11 a12 a13 a14 a15 a16 a17)
theorem b3M_k_ok : KFor E 12 b3M_k := kS_ok (fun x hx => b3M_call (x.1) (x.2.1) (x.2.2.1) (x.2.2.2.1) (x.2.2.2.2.1) (x.2.2.2.2.2.1) (x.2.2.2.2.2.2.1) (x.2.2.2.2.2.2.2.1) (x.2.2.2.2.2.2.2.2.1) (x.2.2.2.2.2.2.2.2.2.1) (x.2.2.2.2.2.2.2.2.2.2.1) (x.2.2.2.2.2.2.2.2.2.2.2.1) (x.2.2.2.2.2.2.2.2.2.2.2.2.1) (x.2.2.2.2.2.2.2.2.2.2.2.2.2.1) (x.2.2.2.2.2.2.2.2.2.2.2.2.2.2.1) (x.2.2.2.2.2.2.2.2.2.2.2.2.2.2.2.1) (x.2.2.2.2.2.2.2.2.2.2.2.2.2.2.2.2.1) (x.2.2.2.2.2.2.2.2.2.2.2.2.2.2.2.2.2) hx) (fun _ _ => rfl) (fun _ _ => rfl)


def b3N_pre (lim bad : Int) (op sum : Int) (begun last : Bool) (lacks : Int) (bn : Nat) (B : List Value) (left low : Int) (high x at' : Int) (cbad l : Bool) (o n : Int) : Prop := ((bcode lim bad op sum begun o n == 0) = true ∧ (o == 0) = false) ∧ b_pr3 lim bad op sum begun last lacks bn B left low high x at' cbad l o n
def b3N_v (lim bad : Int) (op sum : Int) (begun last : Bool) (lacks : Int) (bn : Nat) (B : List Value) (left low : Int) (high x at' : Int) (cbad l : Bool) (o n : Int) : Value := .int .i64 0
def b3N_h (lim bad : Int) (op sum : Int) (begun last : Bool) (lacks : Int) (bn : Nat) (B : List Value) (left low : Int) (high x at' : Int) (cbad l : Bool) (o n : Int) : Heap := [some (.cells [.int .i64 lim, .bool true, .int .i64 bad, .int .i64 o, .int .i64 (IntKind.wrap .i64 (sum + n)), .pointer (some ⟨0, 5, none⟩), .slice (some ⟨1, 0, none⟩) bn 0, .pointer (some ⟨3, 0, none⟩), .bool true, .bool l, .int .i64 n] 51 none), some (.cells B 5 (some 1)), some (.cells [.int .i64 left, .int .u8 low, .int .u8 high, .int .i32 x, .int .i64 at', .bool cbad] 77 none), some (.cells [.int .i64 0, .int .u8 0, .int .u8 0, .int .i32 0, .int .i64 0, .bool false] 77 none)]
theorem b3N_call (lim bad : Int) (op sum : Int) (begun last : Bool) (lacks : Int) (bn : Nat) (B : List Value) (left low : Int) (high x at' : Int) (cbad l : Bool) (o n : Int) (hp : b3N_pre lim bad op sum begun last lacks bn B left low high x at' cbad l o n) : CallOk E 12 [.pointer (some ⟨0, 0, none⟩), .bool l, .int .i64 o, .int .i64 n] [some (.cells [.int .i64 lim, .bool true, .int .i64 bad, .int .i64 op, .int .i64 sum, .pointer (some ⟨0, 5, none⟩), .slice (some ⟨1, 0, none⟩) bn 0, .pointer (some ⟨2, 0, none⟩), .bool begun, .bool last, .int .i64 lacks] 51 none), some (.cells B 5 (some 1)), some (.cells [.int .i64 left, .int .u8 low, .int .u8 high, .int .i32 x, .int .i64 at', .bool cbad] 77 none)] (b3N_v lim bad op sum begun last lacks bn B left low high x at' cbad l o n) (b3N_h lim bad op sum begun last lacks bn B left low high x at' cbad l o n) := by
  have w := b3_all lim bad op sum begun last lacks bn B left low high x at' cbad l o n hp.2
  obtain ⟨c0, c1⟩ := hp.1
  have e1 : b_v3 lim bad op sum begun last lacks bn B left low high x at' cbad l o n = b3N_v lim bad op sum begun last lacks bn B left low high x at' cbad l o n := by
    unfold b_v3 b3N_v
    first | rfl | (rw [c0]; simp only [cond_true, cond_false]; rw [c1]; simp only [cond_true, cond_false]) | (rw [c0]; rw [c1]; rfl)
  have e2 : b_h3 lim bad op sum begun last lacks bn B left low high x at' cbad l o n = b3N_h lim bad op sum begun last lacks bn B left low high x at' cbad l o n := by
    unfold b_h3 b3N_h
    first | rfl | (rw [c0]; simp only [cond_true, cond_false]; rw [c1]; simp only [cond_true, cond_false]) | (rw [c0]; rw [c1]; rfl)
  rw [e1, e2] at w
  exact w

def b3N_ex (a : List Value) (h : Heap) : Int × Int × Int × Int × Bool × Bool × Int × Nat × List Value × Int × Int × Int × Int × Int × Bool × Bool × Int × Int := ((toInt ((cellsOf h 0).getD 0 undef)), (toInt ((cellsOf h 0).getD 2 undef)), (toInt ((cellsOf h 0).getD 3 undef)), (toInt ((cellsOf h 0).getD 4 undef)), (toBool ((cellsOf h 0).getD 8 undef)), (toBool ((cellsOf h 0).getD 9 undef)), (toInt ((cellsOf h 0).getD 10 undef)), (sliceLen ((cellsOf h 0).getD 6 undef)), (cellsOf h 1), (toInt ((cellsOf h 2).getD 0 undef)), (toInt ((cellsOf h 2).getD 1 undef)), (toInt ((cellsOf h 2).getD 2 undef)), (toInt ((cellsOf h 2).getD 3 undef)), (toInt ((cellsOf h 2).getD 4 undef)), (toBool ((cellsOf h 2).getD 5 undef)), (toBool (a.getD 1 undef)), (toInt (a.getD 2 undef)), (toInt (a.getD 3 undef)))
noncomputable def b3N_k : Ct := kS b3N_ex [.ptr 0 0, .bool, .int .i64, .int .i64] [.cells [.int .i64, .boolC true, .int .i64, .int .i64, .int .i64, .ptr 0 5, .sl 1 (some 0) (some 0), .ptr 2 0, .bool, .bool, .int .i64] 51 none, .any 5 (some 1), .cells [.int .i64, .int .u8, .int .u8, .int .i32, .int .i64, .bool] 77 none] (fun (a0, a1, a2, a3, a4, a5, a6, a7, a8, a9, a10, a11, a12, a13, a14, a15, a16, a17) => b3N_pre a0 a1 a2 a3 a4 a5 a6 a7 a8 a9 a10 a11 a12 a13 a14 a15 a16 a17) (fun (a0, a1, a2, a3, a4, a5, a6, a7, a8, a9, a10, a11, a12, a13, a14, a15, a16, a17) => b3N_v a0 a1 a2 a3 a4 a5 a6 a7 a8 a9 a10 a11 a12 a13 a14 a15 a16 a17) (fun (a0, a1, a2, a3, a4, a5, a6, a7, a8, a9, a10, a11, a12, a13, a14, a15, a16, a17) => b3N_h a0 a1 a2 a3 a4 a5 a6 a7 a8 a9 a10 a11 a12 a13 a14 a15 a16 a17)
theorem b3N_k_ok : KFor E 12 b3N_k := kS_ok (fun x hx => b3N_call (x.1) (x.2.1) (x.2.2.1) (x.2.2.2.1) (x.2.2.2.2.1) (x.2.2.2.2.2.1) (x.2.2.2.2.2.2.1) (x.2.2.2.2.2.2.2.1) (x.2.2.2.2.2.2.2.2.1) (x.2.2.2.2.2.2.2.2.2.1) (x.2.2.2.2.2.2.2.2.2.2.1) (x.2.2.2.2.2.2.2.2.2.2.2.1) (x.2.2.2.2.2.2.2.2.2.2.2.2.1) (x.2.2.2.2.2.2.2.2.2.2.2.2.2.1) (x.2.2.2.2.2.2.2.2.2.2.2.2.2.2.1) (x.2.2.2.2.2.2.2.2.2.2.2.2.2.2.2.1) (x.2.2.2.2.2.2.2.2.2.2.2.2.2.2.2.2.1) (x.2.2.2.2.2.2.2.2.2.2.2.2.2.2.2.2.2) hx) (fun _ _ => rfl) (fun _ _ => rfl)


def b3F_pre (lim bad : Int) (op sum : Int) (begun last : Bool) (lacks : Int) (bn : Nat) (B : List Value) (left low : Int) (high x at' : Int) (cbad l : Bool) (o n : Int) : Prop := ((bcode lim bad op sum begun o n == 0) = false) ∧ b_pr3 lim bad op sum begun last lacks bn B left low high x at' cbad l o n
def b3F_v (lim bad : Int) (op sum : Int) (begun last : Bool) (lacks : Int) (bn : Nat) (B : List Value) (left low : Int) (high x at' : Int) (cbad l : Bool) (o n : Int) : Value := .int .i64 (bcode lim bad op sum begun o n)
def b3F_h (lim bad : Int) (op sum : Int) (begun last : Bool) (lacks : Int) (bn : Nat) (B : List Value) (left low : Int) (high x at' : Int) (cbad l : Bool) (o n : Int) : Heap := [some (.cells [.int .i64 lim, .bool true, .int .i64 (bcode lim bad op sum begun o n), .int .i64 op, .int .i64 sum, .pointer (some ⟨0, 5, none⟩), .slice (some ⟨1, 0, none⟩) bn 0, .pointer (some ⟨2, 0, none⟩), .bool begun, .bool last, .int .i64 lacks] 51 none), some (.cells B 5 (some 1)), some (.cells [.int .i64 left, .int .u8 low, .int .u8 high, .int .i32 x, .int .i64 at', .bool cbad] 77 none)]
theorem b3F_call (lim bad : Int) (op sum : Int) (begun last : Bool) (lacks : Int) (bn : Nat) (B : List Value) (left low : Int) (high x at' : Int) (cbad l : Bool) (o n : Int) (hp : b3F_pre lim bad op sum begun last lacks bn B left low high x at' cbad l o n) : CallOk E 12 [.pointer (some ⟨0, 0, none⟩), .bool l, .int .i64 o, .int .i64 n] [some (.cells [.int .i64 lim, .bool true, .int .i64 bad, .int .i64 op, .int .i64 sum, .pointer (some ⟨0, 5, none⟩), .slice (some ⟨1, 0, none⟩) bn 0, .pointer (some ⟨2, 0, none⟩), .bool begun, .bool last, .int .i64 lacks] 51 none), some (.cells B 5 (some 1)), some (.cells [.int .i64 left, .int .u8 low, .int .u8 high, .int .i32 x, .int .i64 at', .bool cbad] 77 none)] (b3F_v lim bad op sum begun last lacks bn B left low high x at' cbad l o n) (b3F_h lim bad op sum begun last lacks bn B left low high x at' cbad l o n) := by
  have w := b3_all lim bad op sum begun last lacks bn B left low high x at' cbad l o n hp.2
  obtain c0 := hp.1
  have e1 : b_v3 lim bad op sum begun last lacks bn B left low high x at' cbad l o n = b3F_v lim bad op sum begun last lacks bn B left low high x at' cbad l o n := by
    unfold b_v3 b3F_v
    first | rfl | (rw [c0]; simp only [cond_true, cond_false]) | (rw [c0]; rfl)
  have e2 : b_h3 lim bad op sum begun last lacks bn B left low high x at' cbad l o n = b3F_h lim bad op sum begun last lacks bn B left low high x at' cbad l o n := by
    unfold b_h3 b3F_h
    first | rfl | (rw [c0]; simp only [cond_true, cond_false]) | (rw [c0]; rfl)
  rw [e1, e2] at w
  exact w

def b3F_ex (a : List Value) (h : Heap) : Int × Int × Int × Int × Bool × Bool × Int × Nat × List Value × Int × Int × Int × Int × Int × Bool × Bool × Int × Int := ((toInt ((cellsOf h 0).getD 0 undef)), (toInt ((cellsOf h 0).getD 2 undef)), (toInt ((cellsOf h 0).getD 3 undef)), (toInt ((cellsOf h 0).getD 4 undef)), (toBool ((cellsOf h 0).getD 8 undef)), (toBool ((cellsOf h 0).getD 9 undef)), (toInt ((cellsOf h 0).getD 10 undef)), (sliceLen ((cellsOf h 0).getD 6 undef)), (cellsOf h 1), (toInt ((cellsOf h 2).getD 0 undef)), (toInt ((cellsOf h 2).getD 1 undef)), (toInt ((cellsOf h 2).getD 2 undef)), (toInt ((cellsOf h 2).getD 3 undef)), (toInt ((cellsOf h 2).getD 4 undef)), (toBool ((cellsOf h 2).getD 5 undef)), (toBool (a.getD 1 undef)), (toInt (a.getD 2 undef)), (toInt (a.getD 3 undef)))
noncomputable def b3F_k : Ct := kS b3F_ex [.ptr 0 0, .bool, .int .i64, .int .i64] [.cells [.int .i64, .boolC true, .int .i64, .int .i64, .int .i64, .ptr 0 5, .sl 1 (some 0) (some 0), .ptr 2 0, .bool, .bool, .int .i64] 51 none, .any 5 (some 1), .cells [.int .i64, .int .u8, .int .u8, .int .i32, .int .i64, .bool] 77 none] (fun (a0, a1, a2, a3, a4, a5, a6, a7, a8, a9, a10, a11, a12, a13, a14, a15, a16, a17) => b3F_pre a0 a1 a2 a3 a4 a5 a6 a7 a8 a9 a10 a11 a12 a13 a14 a15 a16 a17) (fun (a0, a1, a2, a3, a4, a5, a6, a7, a8, a9, a10, a11, a12, a13, a14, a15, a16, a17) => b3F_v a0 a1 a2 a3 a4 a5 a6 a7 a8 a9 a10 a11 a12 a13 a14 a15 a16 a17) (fun (a0, a1, a2, a3, a4, a5, a6, a7, a8, a9, a10, a11, a12, a13, a14, a15, a16, a17) => b3F_h a0 a1 a2 a3 a4 a5 a6 a7 a8 a9 a10 a11 a12 a13 a14 a15 a16 a17)
theorem b3F_k_ok : KFor E 12 b3F_k := kS_ok (fun x hx => b3F_call (x.1) (x.2.1) (x.2.2.1) (x.2.2.2.1) (x.2.2.2.2.1) (x.2.2.2.2.2.1) (x.2.2.2.2.2.2.1) (x.2.2.2.2.2.2.2.1) (x.2.2.2.2.2.2.2.2.1) (x.2.2.2.2.2.2.2.2.2.1) (x.2.2.2.2.2.2.2.2.2.2.1) (x.2.2.2.2.2.2.2.2.2.2.2.1) (x.2.2.2.2.2.2.2.2.2.2.2.2.1) (x.2.2.2.2.2.2.2.2.2.2.2.2.2.1) (x.2.2.2.2.2.2.2.2.2.2.2.2.2.2.1) (x.2.2.2.2.2.2.2.2.2.2.2.2.2.2.2.1) (x.2.2.2.2.2.2.2.2.2.2.2.2.2.2.2.2.1) (x.2.2.2.2.2.2.2.2.2.2.2.2.2.2.2.2.2) hx) (fun _ _ => rfl) (fun _ _ => rfl)


def b0_ask1_f (lim bad : Int) (op sum : Int) (begun last : Bool) (lacks : Int) (l : Bool) (o n : Int) : Bool := (o == 0)
def b0_ask1_ex (a : List Value) (h : Heap) : Bool := (fun x => ((x.2.2.2.2.2.2.2.2.1) == 0)) (b0M_ex a h)
def b0_ask0_f (lim bad : Int) (op sum : Int) (begun last : Bool) (lacks : Int) (l : Bool) (o n : Int) : Bool := (bcode lim bad op sum begun o n == 0)
def b0_ask0_ex (a : List Value) (h : Heap) : Bool := (fun x => (bcode (x.1) (x.2.1) (x.2.2.1) (x.2.2.2.1) (x.2.2.2.2.1) (x.2.2.2.2.2.2.2.2.1) (x.2.2.2.2.2.2.2.2.2) == 0)) (b0M_ex a h)
def b1_ask1_f (lim bad : Int) (op sum : Int) (begun last : Bool) (lacks left : Int) (low high : Int) (x at' : Int) (cbad l : Bool) (o n : Int) : Bool := (o == 0)
def b1_ask1_ex (a : List Value) (h : Heap) : Bool := (fun x => ((x.2.2.2.2.2.2.2.2.2.2.2.2.2.2.1) == 0)) (b1M_ex a h)
def b1_ask0_f (lim bad : Int) (op sum : Int) (begun last : Bool) (lacks left : Int) (low high : Int) (x at' : Int) (cbad l : Bool) (o n : Int) : Bool := (bcode lim bad op sum begun o n == 0)
def b1_ask0_ex (a : List Value) (h : Heap) : Bool := (fun x => (bcode (x.1) (x.2.1) (x.2.2.1) (x.2.2.2.1) (x.2.2.2.2.1) (x.2.2.2.2.2.2.2.2.2.2.2.2.2.2.1) (x.2.2.2.2.2.2.2.2.2.2.2.2.2.2.2) == 0)) (b1M_ex a h)
def b2_ask1_f (lim bad : Int) (op sum : Int) (begun last : Bool) (lacks left : Int) (low high : Int) (x at' : Int) (cbad l : Bool) (o n : Int) : Bool := (o == 0)
def b2_ask1_ex (a : List Value) (h : Heap) : Bool := (fun x => ((x.2.2.2.2.2.2.2.2.2.2.2.2.2.2.1) == 0)) (b2M_ex a h)
def b2_ask0_f (lim bad : Int) (op sum : Int) (begun last : Bool) (lacks left : Int) (low high : Int) (x at' : Int) (cbad l : Bool) (o n : Int) : Bool := (bcode lim bad op sum begun o n == 0)
def b2_ask0_ex (a : List Value) (h : Heap) : Bool := (fun x => (bcode (x.1) (x.2.1) (x.2.2.1) (x.2.2.2.1) (x.2.2.2.2.1) (x.2.2.2.2.2.2.2.2.2.2.2.2.2.2.1) (x.2.2.2.2.2.2.2.2.2.2.2.2.2.2.2) == 0)) (b2M_ex a h)
def b3_ask1_f (lim bad : Int) (op sum : Int) (begun last : Bool) (lacks : Int) (bn : Nat) (B : List Value) (left low : Int) (high x at' : Int) (cbad l : Bool) (o n : Int) : Bool := (o == 0)
def b3_ask1_ex (a : List Value) (h : Heap) : Bool := (fun x => ((x.2.2.2.2.2.2.2.2.2.2.2.2.2.2.2.2.1) == 0)) (b3M_ex a h)
def b3_ask0_f (lim bad : Int) (op sum : Int) (begun last : Bool) (lacks : Int) (bn : Nat) (B : List Value) (left low : Int) (high x at' : Int) (cbad l : Bool) (o n : Int) : Bool := (bcode lim bad op sum begun o n == 0)
def b3_ask0_ex (a : List Value) (h : Heap) : Bool := (fun x => (bcode (x.1) (x.2.1) (x.2.2.1) (x.2.2.2.1) (x.2.2.2.2.1) (x.2.2.2.2.2.2.2.2.2.2.2.2.2.2.2.2.1) (x.2.2.2.2.2.2.2.2.2.2.2.2.2.2.2.2.2) == 0)) (b3M_ex a h)
noncomputable def b_kk : CtD := kOrD (fun _ H => nilP 7 H) (kAsk b0_ask0_ex (kAsk b0_ask1_ex (kFin b0M_k) (kFin b0N_k)) (kFin b0F_k)) (kOrD (fun _ H => nilP 5 H) (kAsk b1_ask0_ex (kAsk b1_ask1_ex (kFin b1M_k) (kFin b1N_k)) (kFin b1F_k)) (kOrD (fun _ H => nilAt 6 H) (kAsk b2_ask0_ex (kAsk b2_ask1_ex (kFin b2M_k) (kFin b2N_k)) (kFin b2F_k)) (kAsk b3_ask0_ex (kAsk b3_ask1_ex (kFin b3M_k) (kFin b3N_k)) (kFin b3F_k))))
theorem b_kk_ok : KForD E 12 b_kk := kOrD_ok (kAsk_ok (kAsk_ok (kFin_ok b0M_k_ok) (kFin_ok b0N_k_ok)) (kFin_ok b0F_k_ok)) (kOrD_ok (kAsk_ok (kAsk_ok (kFin_ok b1M_k_ok) (kFin_ok b1N_k_ok)) (kFin_ok b1F_k_ok)) (kOrD_ok (kAsk_ok (kAsk_ok (kFin_ok b2M_k_ok) (kFin_ok b2N_k_ok)) (kFin_ok b2F_k_ok)) (kAsk_ok (kAsk_ok (kFin_ok b3M_k_ok) (kFin_ok b3N_k_ok)) (kFin_ok b3F_k_ok))))

end Go.Proofs.Ytgaedhpeiamdfaa
