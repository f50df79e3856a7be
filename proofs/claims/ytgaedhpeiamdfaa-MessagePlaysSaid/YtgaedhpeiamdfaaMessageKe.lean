/-
  A joiner of frames: what Begin does, as contracts, by the shapes of its memory, and by what comes of it.
-/
import Derived.Test.YtgaedhpeiamdfaaMessageKea
set_option linter.unusedVariables false
set_option linter.unusedSimpArgs false
set_option maxRecDepth 10000
open Go Go.Am
namespace Go.Proofs.Ytgaedhpeiamdfaa

def b0M_pre (lim bad : Int) (op sum : Int) (begun last : Bool) (lacks : Int) (l : Bool) (o n : Int) : Prop := ((bcode lim bad op sum begun o n == 0) = true ∧ (o == 0) = true) ∧ b_pr0 lim bad op sum begun last lacks l o n
def b0M_v (lim bad : Int) (op sum : Int) (begun last : Bool) (lacks : Int) (l : Bool) (o n : Int) : Value := .int .i64 0
abbrev zhkb0 (v0 : Int) (v1 : Bool) (v2 : Int) (v3 : Int) (v4 : Int) (v5 : Bool) (v6 : Bool) (v7 : Int) : Heap := [some (.cells [.int .i64 v0, .bool v1, .int .i64 v2, .int .i64 v3, .int .i64 v4, .pointer none, .slice none 0 0, .pointer none, .bool v5, .bool v6, .int .i64 v7] 51 none)]
def b0M_h (lim bad : Int) (op sum : Int) (begun last : Bool) (lacks : Int) (l : Bool) (o n : Int) : Heap := (zhkb0 lim true bad op (IntKind.wrap .i64 (sum + n)) true l n)
theorem b0M_call (lim bad : Int) (op sum : Int) (begun last : Bool) (lacks : Int) (l : Bool) (o n : Int) (hp : b0M_pre lim bad op sum begun last lacks l o n) : CallOk E 12 [.pointer (some ⟨0, 0, none⟩), .bool l, .int .i64 o, .int .i64 n] (zhkb0 lim true bad op sum begun last lacks) (b0M_v lim bad op sum begun last lacks l o n) (b0M_h lim bad op sum begun last lacks l o n) := by
 have w := b0_all lim bad op sum begun last lacks l o n hp.2
 obtain ⟨c0, c1⟩ := hp.1
 have e1 : b_v0 lim bad op sum begun last lacks l o n = b0M_v lim bad op sum begun last lacks l o n := by
  unfold b_v0 b0M_v
  first | rfl | (rw [c0]; simp only [cond_true, cond_false]; rw [c1]; simp only [cond_true, cond_false]) | (rw [c0]; rw [c1]; rfl)
 have e2 : b_h0 lim bad op sum begun last lacks l o n = b0M_h lim bad op sum begun last lacks l o n := by
  unfold b_h0 b0M_h
  first | rfl | (rw [c0]; simp only [cond_true, cond_false]; rw [c1]; simp only [cond_true, cond_false]) | (rw [c0]; rw [c1]; rfl)
 rw [e1, e2] at w
 exact w

def b0M_ex (a : List Value) (h : Heap) : Int × Int × Int × Int × Bool × Bool × Int × Bool × Int × Int := ((toInt ((cellsOf h 0).getD 0 undef)), (toInt ((cellsOf h 0).getD 2 undef)), (toInt ((cellsOf h 0).getD 3 undef)), (toInt ((cellsOf h 0).getD 4 undef)), (toBool ((cellsOf h 0).getD 8 undef)), (toBool ((cellsOf h 0).getD 9 undef)), (toInt ((cellsOf h 0).getD 10 undef)), (toBool (a.getD 1 undef)), (toInt (a.getD 2 undef)), (toInt (a.getD 3 undef)))
noncomputable def b0M_k : Ct := kS b0M_ex [.ptr 0 0, .bool, .int .i64, .int .i64] [.cells [.int .i64, .boolC true, .int .i64, .int .i64, .int .i64, .nilP, .nilS, .nilP, .bool, .bool, .int .i64] 51 none] (fun (a0, a1, a2, a3, a4, a5, a6, a7, a8, a9) => b0M_pre a0 a1 a2 a3 a4 a5 a6 a7 a8 a9) (fun (a0, a1, a2, a3, a4, a5, a6, a7, a8, a9) => b0M_v a0 a1 a2 a3 a4 a5 a6 a7 a8 a9) (fun (a0, a1, a2, a3, a4, a5, a6, a7, a8, a9) => b0M_h a0 a1 a2 a3 a4 a5 a6 a7 a8 a9)
theorem b0M_k_ok : KFor E 12 b0M_k := kS_ok (fun x hx => b0M_call (x.1) (x.2.1) (x.2.2.1) (x.2.2.2.1) (x.2.2.2.2.1) (x.2.2.2.2.2.1) (x.2.2.2.2.2.2.1) (x.2.2.2.2.2.2.2.1) (x.2.2.2.2.2.2.2.2.1) (x.2.2.2.2.2.2.2.2.2) hx) (fun _ _ => rfl) (fun _ _ => rfl)


def b0N_pre (lim bad : Int) (op sum : Int) (begun last : Bool) (lacks : Int) (l : Bool) (o n : Int) : Prop := ((bcode lim bad op sum begun o n == 0) = true ∧ (o == 0) = false) ∧ b_pr0 lim bad op sum begun last lacks l o n
def b0N_v (lim bad : Int) (op sum : Int) (begun last : Bool) (lacks : Int) (l : Bool) (o n : Int) : Value := .int .i64 0
abbrev zhkb1 (v0 : Int) (v1 : Bool) (v2 : Int) (v3 : Int) (v4 : Int) (v5 : Bool) (v6 : Bool) (v7 : Int) (v8 : Int) (v9 : Int) (v10 : Int) (v11 : Int) (v12 : Int) (v13 : Bool) : Heap := [some (.cells [.int .i64 v0, .bool v1, .int .i64 v2, .int .i64 v3, .int .i64 v4, .pointer none, .slice none 0 0, .pointer (some ⟨1, 0, none⟩), .bool v5, .bool v6, .int .i64 v7] 51 none), some (.cells [.int .i64 v8, .int .u8 v9, .int .u8 v10, .int .i32 v11, .int .i64 v12, .bool v13] 77 none)]
def b0N_h (lim bad : Int) (op sum : Int) (begun last : Bool) (lacks : Int) (l : Bool) (o n : Int) : Heap := (zhkb1 lim true bad o (IntKind.wrap .i64 (sum + n)) true l n 0 0 0 0 0 false)
theorem b0N_call (lim bad : Int) (op sum : Int) (begun last : Bool) (lacks : Int) (l : Bool) (o n : Int) (hp : b0N_pre lim bad op sum begun last lacks l o n) : CallOk E 12 [.pointer (some ⟨0, 0, none⟩), .bool l, .int .i64 o, .int .i64 n] (zhkb0 lim true bad op sum begun last lacks) (b0N_v lim bad op sum begun last lacks l o n) (b0N_h lim bad op sum begun last lacks l o n) := by
 have w := b0_all lim bad op sum begun last lacks l o n hp.2
 obtain ⟨c0, c1⟩ := hp.1
 have e1 : b_v0 lim bad op sum begun last lacks l o n = b0N_v lim bad op sum begun last lacks l o n := by
  unfold b_v0 b0N_v
  first | rfl | (rw [c0]; simp only [cond_true, cond_false]; rw [c1]; simp only [cond_true, cond_false]) | (rw [c0]; rw [c1]; rfl)
 have e2 : b_h0 lim bad op sum begun last lacks l o n = b0N_h lim bad op sum begun last lacks l o n := by
  unfold b_h0 b0N_h
  first | rfl | (rw [c0]; simp only [cond_true, cond_false]; rw [c1]; simp only [cond_true, cond_false]) | (rw [c0]; rw [c1]; rfl)
 rw [e1, e2] at w
 exact w

abbrev b0N_ex := b0M_ex
noncomputable def b0N_k : Ct := kS b0N_ex [.ptr 0 0, .bool, .int .i64, .int .i64] [.cells [.int .i64, .boolC true, .int .i64, .int .i64, .int .i64, .nilP, .nilS, .nilP, .bool, .bool, .int .i64] 51 none] (fun (a0, a1, a2, a3, a4, a5, a6, a7, a8, a9) => b0N_pre a0 a1 a2 a3 a4 a5 a6 a7 a8 a9) (fun (a0, a1, a2, a3, a4, a5, a6, a7, a8, a9) => b0N_v a0 a1 a2 a3 a4 a5 a6 a7 a8 a9) (fun (a0, a1, a2, a3, a4, a5, a6, a7, a8, a9) => b0N_h a0 a1 a2 a3 a4 a5 a6 a7 a8 a9)
theorem b0N_k_ok : KFor E 12 b0N_k := kS_ok (fun x hx => b0N_call (x.1) (x.2.1) (x.2.2.1) (x.2.2.2.1) (x.2.2.2.2.1) (x.2.2.2.2.2.1) (x.2.2.2.2.2.2.1) (x.2.2.2.2.2.2.2.1) (x.2.2.2.2.2.2.2.2.1) (x.2.2.2.2.2.2.2.2.2) hx) (fun _ _ => rfl) (fun _ _ => rfl)


def b0F_pre (lim bad : Int) (op sum : Int) (begun last : Bool) (lacks : Int) (l : Bool) (o n : Int) : Prop := ((bcode lim bad op sum begun o n == 0) = false) ∧ b_pr0 lim bad op sum begun last lacks l o n
def b0F_v (lim bad : Int) (op sum : Int) (begun last : Bool) (lacks : Int) (l : Bool) (o n : Int) : Value := .int .i64 (bcode lim bad op sum begun o n)
def b0F_h (lim bad : Int) (op sum : Int) (begun last : Bool) (lacks : Int) (l : Bool) (o n : Int) : Heap := (zhkb0 lim true (bcode lim bad op sum begun o n) op sum begun last lacks)
theorem b0F_call (lim bad : Int) (op sum : Int) (begun last : Bool) (lacks : Int) (l : Bool) (o n : Int) (hp : b0F_pre lim bad op sum begun last lacks l o n) : CallOk E 12 [.pointer (some ⟨0, 0, none⟩), .bool l, .int .i64 o, .int .i64 n] (zhkb0 lim true bad op sum begun last lacks) (b0F_v lim bad op sum begun last lacks l o n) (b0F_h lim bad op sum begun last lacks l o n) := by
 have w := b0_all lim bad op sum begun last lacks l o n hp.2
 obtain c0 := hp.1
 have e1 : b_v0 lim bad op sum begun last lacks l o n = b0F_v lim bad op sum begun last lacks l o n := by
  unfold b_v0 b0F_v
  first | rfl | (rw [c0]; simp only [cond_true, cond_false]) | (rw [c0]; rfl)
 have e2 : b_h0 lim bad op sum begun last lacks l o n = b0F_h lim bad op sum begun last lacks l o n := by
  unfold b_h0 b0F_h
  first | rfl | (rw [c0]; simp only [cond_true, cond_false]) | (rw [c0]; rfl)
 rw [e1, e2] at w
 exact w

abbrev b0F_ex := b0M_ex
noncomputable def b0F_k : Ct := kS b0F_ex [.ptr 0 0, .bool, .int .i64, .int .i64] [.cells [.int .i64, .boolC true, .int .i64, .int .i64, .int .i64, .nilP, .nilS, .nilP, .bool, .bool, .int .i64] 51 none] (fun (a0, a1, a2, a3, a4, a5, a6, a7, a8, a9) => b0F_pre a0 a1 a2 a3 a4 a5 a6 a7 a8 a9) (fun (a0, a1, a2, a3, a4, a5, a6, a7, a8, a9) => b0F_v a0 a1 a2 a3 a4 a5 a6 a7 a8 a9) (fun (a0, a1, a2, a3, a4, a5, a6, a7, a8, a9) => b0F_h a0 a1 a2 a3 a4 a5 a6 a7 a8 a9)
theorem b0F_k_ok : KFor E 12 b0F_k := kS_ok (fun x hx => b0F_call (x.1) (x.2.1) (x.2.2.1) (x.2.2.2.1) (x.2.2.2.2.1) (x.2.2.2.2.2.1) (x.2.2.2.2.2.2.1) (x.2.2.2.2.2.2.2.1) (x.2.2.2.2.2.2.2.2.1) (x.2.2.2.2.2.2.2.2.2) hx) (fun _ _ => rfl) (fun _ _ => rfl)


def b1M_pre (lim bad : Int) (op sum : Int) (begun last : Bool) (lacks left : Int) (low high : Int) (x at' : Int) (cbad l : Bool) (o n : Int) : Prop := ((bcode lim bad op sum begun o n == 0) = true ∧ (o == 0) = true) ∧ b_pr1 lim bad op sum begun last lacks left low high x at' cbad l o n
def b1M_v (lim bad : Int) (op sum : Int) (begun last : Bool) (lacks left : Int) (low high : Int) (x at' : Int) (cbad l : Bool) (o n : Int) : Value := .int .i64 0
def b1M_h (lim bad : Int) (op sum : Int) (begun last : Bool) (lacks left : Int) (low high : Int) (x at' : Int) (cbad l : Bool) (o n : Int) : Heap := (zhkb1 lim true bad op (IntKind.wrap .i64 (sum + n)) true l n left low high x at' cbad)
theorem b1M_call (lim bad : Int) (op sum : Int) (begun last : Bool) (lacks left : Int) (low high : Int) (x at' : Int) (cbad l : Bool) (o n : Int) (hp : b1M_pre lim bad op sum begun last lacks left low high x at' cbad l o n) : CallOk E 12 [.pointer (some ⟨0, 0, none⟩), .bool l, .int .i64 o, .int .i64 n] (zhkb1 lim true bad op sum begun last lacks left low high x at' cbad) (b1M_v lim bad op sum begun last lacks left low high x at' cbad l o n) (b1M_h lim bad op sum begun last lacks left low high x at' cbad l o n) := by
 have w := b1_all lim bad op sum begun last lacks left low high x at' cbad l o n hp.2
 obtain ⟨c0, c1⟩ := hp.1
 have e1 : b_v1 lim bad op sum begun last lacks left low high x at' cbad l o n = b1M_v lim bad op sum begun last lacks left low high x at' cbad l o n := by
  unfold b_v1 b1M_v
  first | rfl | (rw [c0]; simp only [cond_true, cond_false]; rw [c1]; simp only [cond_true, cond_false]) | (rw [c0]; rw [c1]; rfl)
 have e2 : b_h1 lim bad op sum begun last lacks left low high x at' cbad l o n = b1M_h lim bad op sum begun last lacks left low high x at' cbad l o n := by
  unfold b_h1 b1M_h
  first | rfl | (rw [c0]; simp only [cond_true, cond_false]; rw [c1]; simp only [cond_true, cond_false]) | (rw [c0]; rw [c1]; rfl)
 rw [e1, e2] at w
 exact w

def b1M_ex (a : List Value) (h : Heap) : Int × Int × Int × Int × Bool × Bool × Int × Int × Int × Int × Int × Int × Bool × Bool × Int × Int := ((toInt ((cellsOf h 0).getD 0 undef)), (toInt ((cellsOf h 0).getD 2 undef)), (toInt ((cellsOf h 0).getD 3 undef)), (toInt ((cellsOf h 0).getD 4 undef)), (toBool ((cellsOf h 0).getD 8 undef)), (toBool ((cellsOf h 0).getD 9 undef)), (toInt ((cellsOf h 0).getD 10 undef)), (toInt ((cellsOf h 1).getD 0 undef)), (toInt ((cellsOf h 1).getD 1 undef)), (toInt ((cellsOf h 1).getD 2 undef)), (toInt ((cellsOf h 1).getD 3 undef)), (toInt ((cellsOf h 1).getD 4 undef)), (toBool ((cellsOf h 1).getD 5 undef)), (toBool (a.getD 1 undef)), (toInt (a.getD 2 undef)), (toInt (a.getD 3 undef)))
noncomputable def b1M_k : Ct := kS b1M_ex [.ptr 0 0, .bool, .int .i64, .int .i64] [.cells [.int .i64, .boolC true, .int .i64, .int .i64, .int .i64, .nilP, .nilS, .ptr 1 0, .bool, .bool, .int .i64] 51 none, .cells [.int .i64, .int .u8, .int .u8, .int .i32, .int .i64, .bool] 77 none] (fun (a0, a1, a2, a3, a4, a5, a6, a7, a8, a9, a10, a11, a12, a13, a14, a15) => b1M_pre a0 a1 a2 a3 a4 a5 a6 a7 a8 a9 a10 a11 a12 a13 a14 a15) (fun (a0, a1, a2, a3, a4, a5, a6, a7, a8, a9, a10, a11, a12, a13, a14, a15) => b1M_v a0 a1 a2 a3 a4 a5 a6 a7 a8 a9 a10 a11 a12 a13 a14 a15) (fun (a0, a1, a2, a3, a4, a5, a6, a7, a8, a9, a10, a11, a12, a13, a14, a15) => b1M_h a0 a1 a2 a3 a4 a5 a6 a7 a8 a9 a10 a11 a12 a13 a14 a15)
theorem b1M_k_ok : KFor E 12 b1M_k := kS_ok (fun x hx => b1M_call (x.1) (x.2.1) (x.2.2.1) (x.2.2.2.1) (x.2.2.2.2.1) (x.2.2.2.2.2.1) (x.2.2.2.2.2.2.1) (x.2.2.2.2.2.2.2.1) (x.2.2.2.2.2.2.2.2.1) (x.2.2.2.2.2.2.2.2.2.1) (x.2.2.2.2.2.2.2.2.2.2.1) (x.2.2.2.2.2.2.2.2.2.2.2.1) (x.2.2.2.2.2.2.2.2.2.2.2.2.1) (x.2.2.2.2.2.2.2.2.2.2.2.2.2.1) (x.2.2.2.2.2.2.2.2.2.2.2.2.2.2.1) (x.2.2.2.2.2.2.2.2.2.2.2.2.2.2.2) hx) (fun _ _ => rfl) (fun _ _ => rfl)


def b1N_pre (lim bad : Int) (op sum : Int) (begun last : Bool) (lacks left : Int) (low high : Int) (x at' : Int) (cbad l : Bool) (o n : Int) : Prop := ((bcode lim bad op sum begun o n == 0) = true ∧ (o == 0) = false) ∧ b_pr1 lim bad op sum begun last lacks left low high x at' cbad l o n
def b1N_v (lim bad : Int) (op sum : Int) (begun last : Bool) (lacks left : Int) (low high : Int) (x at' : Int) (cbad l : Bool) (o n : Int) : Value := .int .i64 0
def b1N_h (lim bad : Int) (op sum : Int) (begun last : Bool) (lacks left : Int) (low high : Int) (x at' : Int) (cbad l : Bool) (o n : Int) : Heap := [some (.cells [.int .i64 lim, .bool true, .int .i64 bad, .int .i64 o, .int .i64 (IntKind.wrap .i64 (sum + n)), .pointer none, .slice none 0 0, .pointer (some ⟨2, 0, none⟩), .bool true, .bool l, .int .i64 n] 51 none), some (.cells [.int .i64 left, .int .u8 low, .int .u8 high, .int .i32 x, .int .i64 at', .bool cbad] 77 none), some (.cells [.int .i64 0, .int .u8 0, .int .u8 0, .int .i32 0, .int .i64 0, .bool false] 77 none)]
theorem b1N_call (lim bad : Int) (op sum : Int) (begun last : Bool) (lacks left : Int) (low high : Int) (x at' : Int) (cbad l : Bool) (o n : Int) (hp : b1N_pre lim bad op sum begun last lacks left low high x at' cbad l o n) : CallOk E 12 [.pointer (some ⟨0, 0, none⟩), .bool l, .int .i64 o, .int .i64 n] (zhkb1 lim true bad op sum begun last lacks left low high x at' cbad) (b1N_v lim bad op sum begun last lacks left low high x at' cbad l o n) (b1N_h lim bad op sum begun last lacks left low high x at' cbad l o n) := by
 have w := b1_all lim bad op sum begun last lacks left low high x at' cbad l o n hp.2
 obtain ⟨c0, c1⟩ := hp.1
 have e1 : b_v1 lim bad op sum begun last lacks left low high x at' cbad l o n = b1N_v lim bad op sum begun last lacks left low high x at' cbad l o n := by
  unfold b_v1 b1N_v
  first | rfl | (rw [c0]; simp only [cond_true, cond_false]; rw [c1]; simp only [cond_true, cond_false]) | (rw [c0]; rw [c1]; rfl)
 have e2 : b_h1 lim bad op sum begun last lacks left low high x at' cbad l o n = b1N_h lim bad op sum begun last lacks left low high x at' cbad l o n := by
  unfold b_h1 b1N_h
  first | rfl | (rw [c0]; simp only [cond_true, cond_false]; rw [c1]; simp only [cond_true, cond_false]) | (rw [c0]; rw [c1]; rfl)
 rw [e1, e2] at w
 exact w

abbrev b1N_ex := b1M_ex
noncomputable def b1N_k : Ct := kS b1N_ex [.ptr 0 0, .bool, .int .i64, .int .i64] [.cells [.int .i64, .boolC true, .int .i64, .int .i64, .int .i64, .nilP, .nilS, .ptr 1 0, .bool, .bool, .int .i64] 51 none, .cells [.int .i64, .int .u8, .int .u8, .int .i32, .int .i64, .bool] 77 none] (fun (a0, a1, a2, a3, a4, a5, a6, a7, a8, a9, a10, a11, a12, a13, a14, a15) => b1N_pre a0 a1 a2 a3 a4 a5 a6 a7 a8 a9 a10 a11 a12 a13 a14 a15) (fun (a0, a1, a2, a3, a4, a5, a6, a7, a8, a9, a10, a11, a12, a13, a14, a15) => b1N_v a0 a1 a2 a3 a4 a5 a6 a7 a8 a9 a10 a11 a12 a13 a14 a15) (fun (a0, a1, a2, a3, a4, a5, a6, a7, a8, a9, a10, a11, a12, a13, a14, a15) => b1N_h a0 a1 a2 a3 a4 a5 a6 a7 a8 a9 a10 a11 a12 a13 a14 a15)
theorem b1N_k_ok : KFor E 12 b1N_k := kS_ok (fun x hx => b1N_call (x.1) (x.2.1) (x.2.2.1) (x.2.2.2.1) (x.2.2.2.2.1) (x.2.2.2.2.2.1) (x.2.2.2.2.2.2.1) (x.2.2.2.2.2.2.2.1) (x.2.2.2.2.2.2.2.2.1) (x.2.2.2.2.2.2.2.2.2.1) (x.2.2.2.2.2.2.2.2.2.2.1) (x.2.2.2.2.2.2.2.2.2.2.2.1) (x.2.2.2.2.2.2.2.2.2.2.2.2.1) (x.2.2.2.2.2.2.2.2.2.2.2.2.2.1) (x.2.2.2.2.2.2.2.2.2.2.2.2.2.2.1) (x.2.2.2.2.2.2.2.2.2.2.2.2.2.2.2) hx) (fun _ _ => rfl) (fun _ _ => rfl)


def b1F_pre (lim bad : Int) (op sum : Int) (begun last : Bool) (lacks left : Int) (low high : Int) (x at' : Int) (cbad l : Bool) (o n : Int) : Prop := ((bcode lim bad op sum begun o n == 0) = false) ∧ b_pr1 lim bad op sum begun last lacks left low high x at' cbad l o n
def b1F_v (lim bad : Int) (op sum : Int) (begun last : Bool) (lacks left : Int) (low high : Int) (x at' : Int) (cbad l : Bool) (o n : Int) : Value := .int .i64 (bcode lim bad op sum begun o n)
def b1F_h (lim bad : Int) (op sum : Int) (begun last : Bool) (lacks left : Int) (low high : Int) (x at' : Int) (cbad l : Bool) (o n : Int) : Heap := (zhkb1 lim true (bcode lim bad op sum begun o n) op sum begun last lacks left low high x at' cbad)
theorem b1F_call (lim bad : Int) (op sum : Int) (begun last : Bool) (lacks left : Int) (low high : Int) (x at' : Int) (cbad l : Bool) (o n : Int) (hp : b1F_pre lim bad op sum begun last lacks left low high x at' cbad l o n) : CallOk E 12 [.pointer (some ⟨0, 0, none⟩), .bool l, .int .i64 o, .int .i64 n] (zhkb1 lim true bad op sum begun last lacks left low high x at' cbad) (b1F_v lim bad op sum begun last lacks left low high x at' cbad l o n) (b1F_h lim bad op sum begun last lacks left low high x at' cbad l o n) := by
 have w := b1_all lim bad op sum begun last lacks left low high x at' cbad l o n hp.2
 obtain c0 := hp.1
 have e1 : b_v1 lim bad op sum begun last lacks left low high x at' cbad l o n = b1F_v lim bad op sum begun last lacks left low high x at' cbad l o n := by
  unfold b_v1 b1F_v
  first | rfl | (rw [c0]; simp only [cond_true, cond_false]) | (rw [c0]; rfl)
 have e2 : b_h1 lim bad op sum begun last lacks left low high x at' cbad l o n = b1F_h lim bad op sum begun last lacks left low high x at' cbad l o n := by
  unfold b_h1 b1F_h
  first | rfl | (rw [c0]; simp only [cond_true, cond_false]) | (rw [c0]; rfl)
 rw [e1, e2] at w
 exact w

abbrev b1F_ex := b1M_ex
noncomputable def b1F_k : Ct := kS b1F_ex [.ptr 0 0, .bool, .int .i64, .int .i64] [.cells [.int .i64, .boolC true, .int .i64, .int .i64, .int .i64, .nilP, .nilS, .ptr 1 0, .bool, .bool, .int .i64] 51 none, .cells [.int .i64, .int .u8, .int .u8, .int .i32, .int .i64, .bool] 77 none] (fun (a0, a1, a2, a3, a4, a5, a6, a7, a8, a9, a10, a11, a12, a13, a14, a15) => b1F_pre a0 a1 a2 a3 a4 a5 a6 a7 a8 a9 a10 a11 a12 a13 a14 a15) (fun (a0, a1, a2, a3, a4, a5, a6, a7, a8, a9, a10, a11, a12, a13, a14, a15) => b1F_v a0 a1 a2 a3 a4 a5 a6 a7 a8 a9 a10 a11 a12 a13 a14 a15) (fun (a0, a1, a2, a3, a4, a5, a6, a7, a8, a9, a10, a11, a12, a13, a14, a15) => b1F_h a0 a1 a2 a3 a4 a5 a6 a7 a8 a9 a10 a11 a12 a13 a14 a15)
theorem b1F_k_ok : KFor E 12 b1F_k := kS_ok (fun x hx => b1F_call (x.1) (x.2.1) (x.2.2.1) (x.2.2.2.1) (x.2.2.2.2.1) (x.2.2.2.2.2.1) (x.2.2.2.2.2.2.1) (x.2.2.2.2.2.2.2.1) (x.2.2.2.2.2.2.2.2.1) (x.2.2.2.2.2.2.2.2.2.1) (x.2.2.2.2.2.2.2.2.2.2.1) (x.2.2.2.2.2.2.2.2.2.2.2.1) (x.2.2.2.2.2.2.2.2.2.2.2.2.1) (x.2.2.2.2.2.2.2.2.2.2.2.2.2.1) (x.2.2.2.2.2.2.2.2.2.2.2.2.2.2.1) (x.2.2.2.2.2.2.2.2.2.2.2.2.2.2.2) hx) (fun _ _ => rfl) (fun _ _ => rfl)


def b2M_pre (lim bad : Int) (op sum : Int) (begun last : Bool) (lacks left : Int) (low high : Int) (x at' : Int) (cbad l : Bool) (o n : Int) : Prop := ((bcode lim bad op sum begun o n == 0) = true ∧ (o == 0) = true) ∧ b_pr2 lim bad op sum begun last lacks left low high x at' cbad l o n
def b2M_v (lim bad : Int) (op sum : Int) (begun last : Bool) (lacks left : Int) (low high : Int) (x at' : Int) (cbad l : Bool) (o n : Int) : Value := .int .i64 0
abbrev zhkb2 (v0 : Int) (v1 : Bool) (v2 : Int) (v3 : Int) (v4 : Int) (v5 : Bool) (v6 : Bool) (v7 : Int) (v8 : Int) (v9 : Int) (v10 : Int) (v11 : Int) (v12 : Int) (v13 : Bool) : Heap := [some (.cells [.int .i64 v0, .bool v1, .int .i64 v2, .int .i64 v3, .int .i64 v4, .pointer (some ⟨0, 5, none⟩), .slice none 0 0, .pointer (some ⟨1, 0, none⟩), .bool v5, .bool v6, .int .i64 v7] 51 none), some (.cells [.int .i64 v8, .int .u8 v9, .int .u8 v10, .int .i32 v11, .int .i64 v12, .bool v13] 77 none)]
def b2M_h (lim bad : Int) (op sum : Int) (begun last : Bool) (lacks left : Int) (low high : Int) (x at' : Int) (cbad l : Bool) (o n : Int) : Heap := (zhkb2 lim true bad op (IntKind.wrap .i64 (sum + n)) true l n left low high x at' cbad)
theorem b2M_call (lim bad : Int) (op sum : Int) (begun last : Bool) (lacks left : Int) (low high : Int) (x at' : Int) (cbad l : Bool) (o n : Int) (hp : b2M_pre lim bad op sum begun last lacks left low high x at' cbad l o n) : CallOk E 12 [.pointer (some ⟨0, 0, none⟩), .bool l, .int .i64 o, .int .i64 n] (zhkb2 lim true bad op sum begun last lacks left low high x at' cbad) (b2M_v lim bad op sum begun last lacks left low high x at' cbad l o n) (b2M_h lim bad op sum begun last lacks left low high x at' cbad l o n) := by
 have w := b2_all lim bad op sum begun last lacks left low high x at' cbad l o n hp.2
 obtain ⟨c0, c1⟩ := hp.1
 have e1 : b_v2 lim bad op sum begun last lacks left low high x at' cbad l o n = b2M_v lim bad op sum begun last lacks left low high x at' cbad l o n := by
  unfold b_v2 b2M_v
  first | rfl | (rw [c0]; simp only [cond_true, cond_false]; rw [c1]; simp only [cond_true, cond_false]) | (rw [c0]; rw [c1]; rfl)
 have e2 : b_h2 lim bad op sum begun last lacks left low high x at' cbad l o n = b2M_h lim bad op sum begun last lacks left low high x at' cbad l o n := by
  unfold b_h2 b2M_h
  first | rfl | (rw [c0]; simp only [cond_true, cond_false]; rw [c1]; simp only [cond_true, cond_false]) | (rw [c0]; rw [c1]; rfl)
 rw [e1, e2] at w
 exact w

abbrev b2M_ex := b1M_ex
noncomputable def b2M_k : Ct := kS b2M_ex [.ptr 0 0, .bool, .int .i64, .int .i64] [.cells [.int .i64, .boolC true, .int .i64, .int .i64, .int .i64, .ptr 0 5, .nilS, .ptr 1 0, .bool, .bool, .int .i64] 51 none, .cells [.int .i64, .int .u8, .int .u8, .int .i32, .int .i64, .bool] 77 none] (fun (a0, a1, a2, a3, a4, a5, a6, a7, a8, a9, a10, a11, a12, a13, a14, a15) => b2M_pre a0 a1 a2 a3 a4 a5 a6 a7 a8 a9 a10 a11 a12 a13 a14 a15) (fun (a0, a1, a2, a3, a4, a5, a6, a7, a8, a9, a10, a11, a12, a13, a14, a15) => b2M_v a0 a1 a2 a3 a4 a5 a6 a7 a8 a9 a10 a11 a12 a13 a14 a15) (fun (a0, a1, a2, a3, a4, a5, a6, a7, a8, a9, a10, a11, a12, a13, a14, a15) => b2M_h a0 a1 a2 a3 a4 a5 a6 a7 a8 a9 a10 a11 a12 a13 a14 a15)
theorem b2M_k_ok : KFor E 12 b2M_k := kS_ok (fun x hx => b2M_call (x.1) (x.2.1) (x.2.2.1) (x.2.2.2.1) (x.2.2.2.2.1) (x.2.2.2.2.2.1) (x.2.2.2.2.2.2.1) (x.2.2.2.2.2.2.2.1) (x.2.2.2.2.2.2.2.2.1) (x.2.2.2.2.2.2.2.2.2.1) (x.2.2.2.2.2.2.2.2.2.2.1) (x.2.2.2.2.2.2.2.2.2.2.2.1) (x.2.2.2.2.2.2.2.2.2.2.2.2.1) (x.2.2.2.2.2.2.2.2.2.2.2.2.2.1) (x.2.2.2.2.2.2.2.2.2.2.2.2.2.2.1) (x.2.2.2.2.2.2.2.2.2.2.2.2.2.2.2) hx) (fun _ _ => rfl) (fun _ _ => rfl)


def b2N_pre (lim bad : Int) (op sum : Int) (begun last : Bool) (lacks left : Int) (low high : Int) (x at' : Int) (cbad l : Bool) (o n : Int) : Prop := ((bcode lim bad op sum begun o n == 0) = true ∧ (o == 0) = false) ∧ b_pr2 lim bad op sum begun last lacks left low high x at' cbad l o n
def b2N_v (lim bad : Int) (op sum : Int) (begun last : Bool) (lacks left : Int) (low high : Int) (x at' : Int) (cbad l : Bool) (o n : Int) : Value := .int .i64 0
def b2N_h (lim bad : Int) (op sum : Int) (begun last : Bool) (lacks left : Int) (low high : Int) (x at' : Int) (cbad l : Bool) (o n : Int) : Heap := [some (.cells [.int .i64 lim, .bool true, .int .i64 bad, .int .i64 o, .int .i64 (IntKind.wrap .i64 (sum + n)), .pointer (some ⟨0, 5, none⟩), .slice none 0 0, .pointer (some ⟨2, 0, none⟩), .bool true, .bool l, .int .i64 n] 51 none), some (.cells [.int .i64 left, .int .u8 low, .int .u8 high, .int .i32 x, .int .i64 at', .bool cbad] 77 none), some (.cells [.int .i64 0, .int .u8 0, .int .u8 0, .int .i32 0, .int .i64 0, .bool false] 77 none)]
theorem b2N_call (lim bad : Int) (op sum : Int) (begun last : Bool) (lacks left : Int) (low high : Int) (x at' : Int) (cbad l : Bool) (o n : Int) (hp : b2N_pre lim bad op sum begun last lacks left low high x at' cbad l o n) : CallOk E 12 [.pointer (some ⟨0, 0, none⟩), .bool l, .int .i64 o, .int .i64 n] (zhkb2 lim true bad op sum begun last lacks left low high x at' cbad) (b2N_v lim bad op sum begun last lacks left low high x at' cbad l o n) (b2N_h lim bad op sum begun last lacks left low high x at' cbad l o n) := by
 have w := b2_all lim bad op sum begun last lacks left low high x at' cbad l o n hp.2
 obtain ⟨c0, c1⟩ := hp.1
 have e1 : b_v2 lim bad op sum begun last lacks left low high x at' cbad l o n = b2N_v lim bad op sum begun last lacks left low high x at' cbad l o n := by
  unfold b_v2 b2N_v
  first | rfl | (rw [c0]; simp only [cond_true, cond_false]; rw [c1]; simp only [cond_true, cond_false]) | (rw [c0]; rw [c1]; rfl)
 have e2 : b_h2 lim bad op sum begun last lacks left low high x at' cbad l o n = b2N_h lim bad op sum begun last lacks left low high x at' cbad l o n := by
  unfold b_h2 b2N_h
  first | rfl | (rw [c0]; simp only [cond_true, cond_false]; rw [c1]; simp only [cond_true, cond_false]) | (rw [c0]; rw [c1]; rfl)
 rw [e1, e2] at w
 exact w

abbrev b2N_ex := b1M_ex
noncomputable def b2N_k : Ct := kS b2N_ex [.ptr 0 0, .bool, .int .i64, .int .i64] [.cells [.int .i64, .boolC true, .int .i64, .int .i64, .int .i64, .ptr 0 5, .nilS, .ptr 1 0, .bool, .bool, .int .i64] 51 none, .cells [.int .i64, .int .u8, .int .u8, .int .i32, .int .i64, .bool] 77 none] (fun (a0, a1, a2, a3, a4, a5, a6, a7, a8, a9, a10, a11, a12, a13, a14, a15) => b2N_pre a0 a1 a2 a3 a4 a5 a6 a7 a8 a9 a10 a11 a12 a13 a14 a15) (fun (a0, a1, a2, a3, a4, a5, a6, a7, a8, a9, a10, a11, a12, a13, a14, a15) => b2N_v a0 a1 a2 a3 a4 a5 a6 a7 a8 a9 a10 a11 a12 a13 a14 a15) (fun (a0, a1, a2, a3, a4, a5, a6, a7, a8, a9, a10, a11, a12, a13, a14, a15) => b2N_h a0 a1 a2 a3 a4 a5 a6 a7 a8 a9 a10 a11 a12 a13 a14 a15)
theorem b2N_k_ok : KFor E 12 b2N_k := kS_ok (fun x hx => b2N_call (x.1) (x.2.1) (x.2.2.1) (x.2.2.2.1) (x.2.2.2.2.1) (x.2.2.2.2.2.1) (x.2.2.2.2.2.2.1) (x.2.2.2.2.2.2.2.1) (x.2.2.2.2.2.2.2.2.1) (x.2.2.2.2.2.2.2.2.2.1) (x.2.2.2.2.2.2.2.2.2.2.1) (x.2.2.2.2.2.2.2.2.2.2.2.1) (x.2.2.2.2.2.2.2.2.2.2.2.2.1) (x.2.2.2.2.2.2.2.2.2.2.2.2.2.1) (x.2.2.2.2.2.2.2.2.2.2.2.2.2.2.1) (x.2.2.2.2.2.2.2.2.2.2.2.2.2.2.2) hx) (fun _ _ => rfl) (fun _ _ => rfl)


def b2F_pre (lim bad : Int) (op sum : Int) (begun last : Bool) (lacks left : Int) (low high : Int) (x at' : Int) (cbad l : Bool) (o n : Int) : Prop := ((bcode lim bad op sum begun o n == 0) = false) ∧ b_pr2 lim bad op sum begun last lacks left low high x at' cbad l o n
def b2F_v (lim bad : Int) (op sum : Int) (begun last : Bool) (lacks left : Int) (low high : Int) (x at' : Int) (cbad l : Bool) (o n : Int) : Value := .int .i64 (bcode lim bad op sum begun o n)
def b2F_h (lim bad : Int) (op sum : Int) (begun last : Bool) (lacks left : Int) (low high : Int) (x at' : Int) (cbad l : Bool) (o n : Int) : Heap := (zhkb2 lim true (bcode lim bad op sum begun o n) op sum begun last lacks left low high x at' cbad)
theorem b2F_call (lim bad : Int) (op sum : Int) (begun last : Bool) (lacks left : Int) (low high : Int) (x at' : Int) (cbad l : Bool) (o n : Int) (hp : b2F_pre lim bad op sum begun last lacks left low high x at' cbad l o n) : CallOk E 12 [.pointer (some ⟨0, 0, none⟩), .bool l, .int .i64 o, .int .i64 n] (zhkb2 lim true bad op sum begun last lacks left low high x at' cbad) (b2F_v lim bad op sum begun last lacks left low high x at' cbad l o n) (b2F_h lim bad op sum begun last lacks left low high x at' cbad l o n) := by
 have w := b2_all lim bad op sum begun last lacks left low high x at' cbad l o n hp.2
 obtain c0 := hp.1
 have e1 : b_v2 lim bad op sum begun last lacks left low high x at' cbad l o n = b2F_v lim bad op sum begun last lacks left low high x at' cbad l o n := by
  unfold b_v2 b2F_v
  first | rfl | (rw [c0]; simp only [cond_true, cond_false]) | (rw [c0]; rfl)
 have e2 : b_h2 lim bad op sum begun last lacks left low high x at' cbad l o n = b2F_h lim bad op sum begun last lacks left low high x at' cbad l o n := by
  unfold b_h2 b2F_h
  first | rfl | (rw [c0]; simp only [cond_true, cond_false]) | (rw [c0]; rfl)
 rw [e1, e2] at w
 exact w

abbrev b2F_ex := b1M_ex
noncomputable def b2F_k : Ct := kS b2F_ex [.ptr 0 0, .bool, .int .i64, .int .i64] [.cells [.int .i64, .boolC true, .int .i64, .int .i64, .int .i64, .ptr 0 5, .nilS, .ptr 1 0, .bool, .bool, .int .i64] 51 none, .cells [.int .i64, .int .u8, .int .u8, .int .i32, .int .i64, .bool] 77 none] (fun (a0, a1, a2, a3, a4, a5, a6, a7, a8, a9, a10, a11, a12, a13, a14, a15) => b2F_pre a0 a1 a2 a3 a4 a5 a6 a7 a8 a9 a10 a11 a12 a13 a14 a15) (fun (a0, a1, a2, a3, a4, a5, a6, a7, a8, a9, a10, a11, a12, a13, a14, a15) => b2F_v a0 a1 a2 a3 a4 a5 a6 a7 a8 a9 a10 a11 a12 a13 a14 a15) (fun (a0, a1, a2, a3, a4, a5, a6, a7, a8, a9, a10, a11, a12, a13, a14, a15) => b2F_h a0 a1 a2 a3 a4 a5 a6 a7 a8 a9 a10 a11 a12 a13 a14 a15)
theorem b2F_k_ok : KFor E 12 b2F_k := kS_ok (fun x hx => b2F_call (x.1) (x.2.1) (x.2.2.1) (x.2.2.2.1) (x.2.2.2.2.1) (x.2.2.2.2.2.1) (x.2.2.2.2.2.2.1) (x.2.2.2.2.2.2.2.1) (x.2.2.2.2.2.2.2.2.1) (x.2.2.2.2.2.2.2.2.2.1) (x.2.2.2.2.2.2.2.2.2.2.1) (x.2.2.2.2.2.2.2.2.2.2.2.1) (x.2.2.2.2.2.2.2.2.2.2.2.2.1) (x.2.2.2.2.2.2.2.2.2.2.2.2.2.1) (x.2.2.2.2.2.2.2.2.2.2.2.2.2.2.1) (x.2.2.2.2.2.2.2.2.2.2.2.2.2.2.2) hx) (fun _ _ => rfl) (fun _ _ => rfl)


def b3M_pre (lim bad : Int) (op sum : Int) (begun last : Bool) (lacks : Int) (bn : Nat) (B : List Value) (left low : Int) (high x at' : Int) (cbad l : Bool) (o n : Int) : Prop := ((bcode lim bad op sum begun o n == 0) = true ∧ (o == 0) = true) ∧ b_pr3 lim bad op sum begun last lacks bn B left low high x at' cbad l o n
def b3M_v (lim bad : Int) (op sum : Int) (begun last : Bool) (lacks : Int) (bn : Nat) (B : List Value) (left low : Int) (high x at' : Int) (cbad l : Bool) (o n : Int) : Value := .int .i64 0
abbrev zhkb3 (v0 : Int) (v1 : Bool) (v2 : Int) (v3 : Int) (v4 : Int) (v5 : Bool) (v6 : Bool) (v7 : Int) (v8 : Int) (v9 : Int) (v10 : Int) (v11 : Int) (v12 : Int) (v13 : Bool) (B : List Value) (bn : Nat) : Heap := [some (.cells [.int .i64 v0, .bool v1, .int .i64 v2, .int .i64 v3, .int .i64 v4, .pointer (some ⟨0, 5, none⟩), .slice (some ⟨1, 0, none⟩) bn 0, .pointer (some ⟨2, 0, none⟩), .bool v5, .bool v6, .int .i64 v7] 51 none), some (.cells B 5 (some 1)), some (.cells [.int .i64 v8, .int .u8 v9, .int .u8 v10, .int .i32 v11, .int .i64 v12, .bool v13] 77 none)]
def b3M_h (lim bad : Int) (op sum : Int) (begun last : Bool) (lacks : Int) (bn : Nat) (B : List Value) (left low : Int) (high x at' : Int) (cbad l : Bool) (o n : Int) : Heap := (zhkb3 lim true bad op (IntKind.wrap .i64 (sum + n)) true l n left low high x at' cbad B bn)
theorem b3M_call (lim bad : Int) (op sum : Int) (begun last : Bool) (lacks : Int) (bn : Nat) (B : List Value) (left low : Int) (high x at' : Int) (cbad l : Bool) (o n : Int) (hp : b3M_pre lim bad op sum begun last lacks bn B left low high x at' cbad l o n) : CallOk E 12 [.pointer (some ⟨0, 0, none⟩), .bool l, .int .i64 o, .int .i64 n] (zhkb3 lim true bad op sum begun last lacks left low high x at' cbad B bn) (b3M_v lim bad op sum begun last lacks bn B left low high x at' cbad l o n) (b3M_h lim bad op sum begun last lacks bn B left low high x at' cbad l o n) := by
 have w := b3_all lim bad op sum begun last lacks bn B left low high x at' cbad l o n hp.2
 obtain ⟨c0, c1⟩ := hp.1
 have e1 : b_v3 lim bad op sum begun last lacks bn B left low high x at' cbad l o n = b3M_v lim bad op sum begun last lacks bn B left low high x at' cbad l o n := by
  unfold b_v3 b3M_v
  first | rfl | (rw [c0]; simp only [cond_true, cond_false]; rw [c1]; simp only [cond_true, cond_false]) | (rw [c0]; rw [c1]; rfl)
 have e2 : b_h3 lim bad op sum begun last lacks bn B left low high x at' cbad l o n = b3M_h lim bad op sum begun last lacks bn B left low high x at' cbad l o n := by
  unfold b_h3 b3M_h
  first | rfl | (rw [c0]; simp only [cond_true, cond_false]; rw [c1]; simp only [cond_true, cond_false]) | (rw [c0]; rw [c1]; rfl)
 rw [e1, e2] at w
 exact w

def b3M_ex (a : List Value) (h : Heap) : Int × Int × Int × Int × Bool × Bool × Int × Nat × List Value × Int × Int × Int × Int × Int × Bool × Bool × Int × Int := ((toInt ((cellsOf h 0).getD 0 undef)), (toInt ((cellsOf h 0).getD 2 undef)), (toInt ((cellsOf h 0).getD 3 undef)), (toInt ((cellsOf h 0).getD 4 undef)), (toBool ((cellsOf h 0).getD 8 undef)), (toBool ((cellsOf h 0).getD 9 undef)), (toInt ((cellsOf h 0).getD 10 undef)), (sliceLen ((cellsOf h 0).getD 6 undef)), (cellsOf h 1), (toInt ((cellsOf h 2).getD 0 undef)), (toInt ((cellsOf h 2).getD 1 undef)), (toInt ((cellsOf h 2).getD 2 undef)), (toInt ((cellsOf h 2).getD 3 undef)), (toInt ((cellsOf h 2).getD 4 undef)), (toBool ((cellsOf h 2).getD 5 undef)), (toBool (a.getD 1 undef)), (toInt (a.getD 2 undef)), (toInt (a.getD 3 undef)))
noncomputable def b3M_k : Ct := kS b3M_ex [.ptr 0 0, .bool, .int .i64, .int .i64] [.cells [.int .i64, .boolC true, .int .i64, .int .i64, .int .i64, .ptr 0 5, .sl 1 (some 0) (some 0), .ptr 2 0, .bool, .bool, .int .i64] 51 none, .any 5 (some 1), .cells [.int .i64, .int .u8, .int .u8, .int .i32, .int .i64, .bool] 77 none] (fun (a0, a1, a2, a3, a4, a5, a6, a7, a8, a9, a10, a11, a12, a13, a14, a15, a16, a17) => b3M_pre a0 a1 a2 a3 a4 a5 a6 a7 a8 a9 a10 a11 a12 a13 a14 a15 a16 a17) (fun (a0, a1, a2, a3, a4, a5, a6, a7, a8, a9, a10, a11, a12, a13, a14, a15, a16, a17) => b3M_v a0 a1 a2 a3 a4 a5 a6 a7 a8 a9 a10 a11 a12 a13 a14 a15 a16 a17) (fun (a0, a1, a2, a3, a4, a5, a6, a7, a8, a9, a10, a11, a12, a13, a14, a15, a16, a17) => b3M_h a0 a1 a2 a3 a4 a5 a6 a7 a8 a9 a10 a11 a12 a13 a14 a15 a16 a17)
theorem b3M_k_ok : KFor E 12 b3M_k := kS_ok (fun x hx => b3M_call (x.1) (x.2.1) (x.2.2.1) (x.2.2.2.1) (x.2.2.2.2.1) (x.2.2.2.2.2.1) (x.2.2.2.2.2.2.1) (x.2.2.2.2.2.2.2.1) (x.2.2.2.2.2.2.2.2.1) (x.2.2.2.2.2.2.2.2.2.1) (x.2.2.2.2.2.2.2.2.2.2.1) (x.2.2.2.2.2.2.2.2.2.2.2.1) (x.2.2.2.2.2.2.2.2.2.2.2.2.1) (x.2.2.2.2.2.2.2.2.2.2.2.2.2.1) (x.2.2.2.2.2.2.2.2.2.2.2.2.2.2.1) (x.2.2.2.2.2.2.2.2.2.2.2.2.2.2.2.1) (x.2.2.2.2.2.2.2.2.2.2.2.2.2.2.2.2.1) (x.2.2.2.2.2.2.2.2.2.2.2.2.2.2.2.2.2) hx) (fun _ _ => rfl) (fun _ _ => rfl)


def b3N_pre (lim bad : Int) (op sum : Int) (begun last : Bool) (lacks : Int) (bn : Nat) (B : List Value) (left low : Int) (high x at' : Int) (cbad l : Bool) (o n : Int) : Prop := ((bcode lim bad op sum begun o n == 0) = true ∧ (o == 0) = false) ∧ b_pr3 lim bad op sum begun last lacks bn B left low high x at' cbad l o n
def b3N_v (lim bad : Int) (op sum : Int) (begun last : Bool) (lacks : Int) (bn : Nat) (B : List Value) (left low : Int) (high x at' : Int) (cbad l : Bool) (o n : Int) : Value := .int .i64 0
def b3N_h (lim bad : Int) (op sum : Int) (begun last : Bool) (lacks : Int) (bn : Nat) (B : List Value) (left low : Int) (high x at' : Int) (cbad l : Bool) (o n : Int) : Heap := [some (.cells [.int .i64 lim, .bool true, .int .i64 bad, .int .i64 o, .int .i64 (IntKind.wrap .i64 (sum + n)), .pointer (some ⟨0, 5, none⟩), .slice (some ⟨1, 0, none⟩) bn 0, .pointer (some ⟨3, 0, none⟩), .bool true, .bool l, .int .i64 n] 51 none), some (.cells B 5 (some 1)), some (.cells [.int .i64 left, .int .u8 low, .int .u8 high, .int .i32 x, .int .i64 at', .bool cbad] 77 none), some (.cells [.int .i64 0, .int .u8 0, .int .u8 0, .int .i32 0, .int .i64 0, .bool false] 77 none)]
theorem b3N_call (lim bad : Int) (op sum : Int) (begun last : Bool) (lacks : Int) (bn : Nat) (B : List Value) (left low : Int) (high x at' : Int) (cbad l : Bool) (o n : Int) (hp : b3N_pre lim bad op sum begun last lacks bn B left low high x at' cbad l o n) : CallOk E 12 [.pointer (some ⟨0, 0, none⟩), .bool l, .int .i64 o, .int .i64 n] (zhkb3 lim true bad op sum begun last lacks left low high x at' cbad B bn) (b3N_v lim bad op sum begun last lacks bn B left low high x at' cbad l o n) (b3N_h lim bad op sum begun last lacks bn B left low high x at' cbad l o n) := by
 have w := b3_all lim bad op sum begun last lacks bn B left low high x at' cbad l o n hp.2
 obtain ⟨c0, c1⟩ := hp.1
 have e1 : b_v3 lim bad op sum begun last lacks bn B left low high x at' cbad l o n = b3N_v lim bad op sum begun last lacks bn B left low high x at' cbad l o n := by
  unfold b_v3 b3N_v
  first | rfl | (rw [c0]; simp only [cond_true, cond_false]; rw [c1]; simp only [cond_true, cond_false]) | (rw [c0]; rw [c1]; rfl)
 have e2 : b_h3 lim bad op sum begun last lacks bn B left low high x at' cbad l o n = b3N_h lim bad op sum begun last lacks bn B left low high x at' cbad l o n := by
  unfold b_h3 b3N_h
  first | rfl | (rw [c0]; simp only [cond_true, cond_false]; rw [c1]; simp only [cond_true, cond_false]) | (rw [c0]; rw [c1]; rfl)
 rw [e1, e2] at w
 exact w

abbrev b3N_ex := b3M_ex
noncomputable def b3N_k : Ct := kS b3N_ex [.ptr 0 0, .bool, .int .i64, .int .i64] [.cells [.int .i64, .boolC true, .int .i64, .int .i64, .int .i64, .ptr 0 5, .sl 1 (some 0) (some 0), .ptr 2 0, .bool, .bool, .int .i64] 51 none, .any 5 (some 1), .cells [.int .i64, .int .u8, .int .u8, .int .i32, .int .i64, .bool] 77 none] (fun (a0, a1, a2, a3, a4, a5, a6, a7, a8, a9, a10, a11, a12, a13, a14, a15, a16, a17) => b3N_pre a0 a1 a2 a3 a4 a5 a6 a7 a8 a9 a10 a11 a12 a13 a14 a15 a16 a17) (fun (a0, a1, a2, a3, a4, a5, a6, a7, a8, a9, a10, a11, a12, a13, a14, a15, a16, a17) => b3N_v a0 a1 a2 a3 a4 a5 a6 a7 a8 a9 a10 a11 a12 a13 a14 a15 a16 a17) (fun (a0, a1, a2, a3, a4, a5, a6, a7, a8, a9, a10, a11, a12, a13, a14, a15, a16, a17) => b3N_h a0 a1 a2 a3 a4 a5 a6 a7 a8 a9 a10 a11 a12 a13 a14 a15 a16 a17)
theorem b3N_k_ok : KFor E 12 b3N_k := kS_ok (fun x hx => b3N_call (x.1) (x.2.1) (x.2.2.1) (x.2.2.2.1) (x.2.2.2.2.1) (x.2.2.2.2.2.1) (x.2.2.2.2.2.2.1) (x.2.2.2.2.2.2.2.1) (x.2.2.2.2.2.2.2.2.1) (x.2.2.2.2.2.2.2.2.2.1) (x.2.2.2.2.2.2.2.2.2.2.1) (x.2.2.2.2.2.2.2.2.2.2.2.1) (x.2.2.2.2.2.2.2.2.2.2.2.2.1) (x.2.2.2.2.2.2.2.2.2.2.2.2.2.1) (x.2.2.2.2.2.2.2.2.2.2.2.2.2.2.1) (x.2.2.2.2.2.2.2.2.2.2.2.2.2.2.2.1) (x.2.2.2.2.2.2.2.2.2.2.2.2.2.2.2.2.1) (x.2.2.2.2.2.2.2.2.2.2.2.2.2.2.2.2.2) hx) (fun _ _ => rfl) (fun _ _ => rfl)


def b3F_pre (lim bad : Int) (op sum : Int) (begun last : Bool) (lacks : Int) (bn : Nat) (B : List Value) (left low : Int) (high x at' : Int) (cbad l : Bool) (o n : Int) : Prop := ((bcode lim bad op sum begun o n == 0) = false) ∧ b_pr3 lim bad op sum begun last lacks bn B left low high x at' cbad l o n
def b3F_v (lim bad : Int) (op sum : Int) (begun last : Bool) (lacks : Int) (bn : Nat) (B : List Value) (left low : Int) (high x at' : Int) (cbad l : Bool) (o n : Int) : Value := .int .i64 (bcode lim bad op sum begun o n)
def b3F_h (lim bad : Int) (op sum : Int) (begun last : Bool) (lacks : Int) (bn : Nat) (B : List Value) (left low : Int) (high x at' : Int) (cbad l : Bool) (o n : Int) : Heap := (zhkb3 lim true (bcode lim bad op sum begun o n) op sum begun last lacks left low high x at' cbad B bn)
theorem b3F_call (lim bad : Int) (op sum : Int) (begun last : Bool) (lacks : Int) (bn : Nat) (B : List Value) (left low : Int) (high x at' : Int) (cbad l : Bool) (o n : Int) (hp : b3F_pre lim bad op sum begun last lacks bn B left low high x at' cbad l o n) : CallOk E 12 [.pointer (some ⟨0, 0, none⟩), .bool l, .int .i64 o, .int .i64 n] (zhkb3 lim true bad op sum begun last lacks left low high x at' cbad B bn) (b3F_v lim bad op sum begun last lacks bn B left low high x at' cbad l o n) (b3F_h lim bad op sum begun last lacks bn B left low high x at' cbad l o n) := by
 have w := b3_all lim bad op sum begun last lacks bn B left low high x at' cbad l o n hp.2
 obtain c0 := hp.1
 have e1 : b_v3 lim bad op sum begun last lacks bn B left low high x at' cbad l o n = b3F_v lim bad op sum begun last lacks bn B left low high x at' cbad l o n := by
  unfold b_v3 b3F_v
  first | rfl | (rw [c0]; simp only [cond_true, cond_false]) | (rw [c0]; rfl)
 have e2 : b_h3 lim bad op sum begun last lacks bn B left low high x at' cbad l o n = b3F_h lim bad op sum begun last lacks bn B left low high x at' cbad l o n := by
  unfold b_h3 b3F_h
  first | rfl | (rw [c0]; simp only [cond_true, cond_false]) | (rw [c0]; rfl)
 rw [e1, e2] at w
 exact w

abbrev b3F_ex := b3M_ex
noncomputable def b3F_k : Ct := kS b3F_ex [.ptr 0 0, .bool, .int .i64, .int .i64] [.cells [.int .i64, .boolC true, .int .i64, .int .i64, .int .i64, .ptr 0 5, .sl 1 (some 0) (some 0), .ptr 2 0, .bool, .bool, .int .i64] 51 none, .any 5 (some 1), .cells [.int .i64, .int .u8, .int .u8, .int .i32, .int .i64, .bool] 77 none] (fun (a0, a1, a2, a3, a4, a5, a6, a7, a8, a9, a10, a11, a12, a13, a14, a15, a16, a17) => b3F_pre a0 a1 a2 a3 a4 a5 a6 a7 a8 a9 a10 a11 a12 a13 a14 a15 a16 a17) (fun (a0, a1, a2, a3, a4, a5, a6, a7, a8, a9, a10, a11, a12, a13, a14, a15, a16, a17) => b3F_v a0 a1 a2 a3 a4 a5 a6 a7 a8 a9 a10 a11 a12 a13 a14 a15 a16 a17) (fun (a0, a1, a2, a3, a4, a5, a6, a7, a8, a9, a10, a11, a12, a13, a14, a15, a16, a17) => b3F_h a0 a1 a2 a3 a4 a5 a6 a7 a8 a9 a10 a11 a12 a13 a14 a15 a16 a17)
theorem b3F_k_ok : KFor E 12 b3F_k := kS_ok (fun x hx => b3F_call (x.1) (x.2.1) (x.2.2.1) (x.2.2.2.1) (x.2.2.2.2.1) (x.2.2.2.2.2.1) (x.2.2.2.2.2.2.1) (x.2.2.2.2.2.2.2.1) (x.2.2.2.2.2.2.2.2.1) (x.2.2.2.2.2.2.2.2.2.1) (x.2.2.2.2.2.2.2.2.2.2.1) (x.2.2.2.2.2.2.2.2.2.2.2.1) (x.2.2.2.2.2.2.2.2.2.2.2.2.1) (x.2.2.2.2.2.2.2.2.2.2.2.2.2.1) (x.2.2.2.2.2.2.2.2.2.2.2.2.2.2.1) (x.2.2.2.2.2.2.2.2.2.2.2.2.2.2.2.1) (x.2.2.2.2.2.2.2.2.2.2.2.2.2.2.2.2.1) (x.2.2.2.2.2.2.2.2.2.2.2.2.2.2.2.2.2) hx) (fun _ _ => rfl) (fun _ _ => rfl)


def b0_ask1_ex (a : List Value) (h : Heap) : Bool := (fun x => ((x.2.2.2.2.2.2.2.2.1) == 0)) (b0M_ex a h)
def b0_ask0_ex (a : List Value) (h : Heap) : Bool := (fun x => (bcode (x.1) (x.2.1) (x.2.2.1) (x.2.2.2.1) (x.2.2.2.2.1) (x.2.2.2.2.2.2.2.2.1) (x.2.2.2.2.2.2.2.2.2) == 0)) (b0M_ex a h)
def b1_ask1_ex (a : List Value) (h : Heap) : Bool := (fun x => ((x.2.2.2.2.2.2.2.2.2.2.2.2.2.2.1) == 0)) (b1M_ex a h)
def b1_ask0_ex (a : List Value) (h : Heap) : Bool := (fun x => (bcode (x.1) (x.2.1) (x.2.2.1) (x.2.2.2.1) (x.2.2.2.2.1) (x.2.2.2.2.2.2.2.2.2.2.2.2.2.2.1) (x.2.2.2.2.2.2.2.2.2.2.2.2.2.2.2) == 0)) (b1M_ex a h)
def b2_ask1_ex (a : List Value) (h : Heap) : Bool := (fun x => ((x.2.2.2.2.2.2.2.2.2.2.2.2.2.2.1) == 0)) (b2M_ex a h)
def b2_ask0_ex (a : List Value) (h : Heap) : Bool := (fun x => (bcode (x.1) (x.2.1) (x.2.2.1) (x.2.2.2.1) (x.2.2.2.2.1) (x.2.2.2.2.2.2.2.2.2.2.2.2.2.2.1) (x.2.2.2.2.2.2.2.2.2.2.2.2.2.2.2) == 0)) (b2M_ex a h)
def b3_ask1_ex (a : List Value) (h : Heap) : Bool := (fun x => ((x.2.2.2.2.2.2.2.2.2.2.2.2.2.2.2.2.1) == 0)) (b3M_ex a h)
def b3_ask0_ex (a : List Value) (h : Heap) : Bool := (fun x => (bcode (x.1) (x.2.1) (x.2.2.1) (x.2.2.2.1) (x.2.2.2.2.1) (x.2.2.2.2.2.2.2.2.2.2.2.2.2.2.2.2.1) (x.2.2.2.2.2.2.2.2.2.2.2.2.2.2.2.2.2) == 0)) (b3M_ex a h)
noncomputable def b_kk : CtD := kOrD (fun _ H => nilP 7 H) (kAsk b0_ask0_ex (kAsk b0_ask1_ex (kFin b0M_k) (kFin b0N_k)) (kFin b0F_k)) (kOrD (fun _ H => nilP 5 H) (kAsk b1_ask0_ex (kAsk b1_ask1_ex (kFin b1M_k) (kFin b1N_k)) (kFin b1F_k)) (kOrD (fun _ H => nilAt 6 H) (kAsk b2_ask0_ex (kAsk b2_ask1_ex (kFin b2M_k) (kFin b2N_k)) (kFin b2F_k)) (kAsk b3_ask0_ex (kAsk b3_ask1_ex (kFin b3M_k) (kFin b3N_k)) (kFin b3F_k))))
theorem b_kk_ok : KForD E 12 b_kk := kOrD_ok (kAsk_ok (kAsk_ok (kFin_ok b0M_k_ok) (kFin_ok b0N_k_ok)) (kFin_ok b0F_k_ok)) (kOrD_ok (kAsk_ok (kAsk_ok (kFin_ok b1M_k_ok) (kFin_ok b1N_k_ok)) (kFin_ok b1F_k_ok)) (kOrD_ok (kAsk_ok (kAsk_ok (kFin_ok b2M_k_ok) (kFin_ok b2N_k_ok)) (kFin_ok b2F_k_ok)) (kAsk_ok (kAsk_ok (kFin_ok b3M_k_ok) (kFin_ok b3N_k_ok)) (kFin_ok b3F_k_ok))))

end Go.Proofs.Ytgaedhpeiamdfaa

/-
  A joiner of frames: what Piece does, as contracts, by the shapes of its memory, and by what comes of it.
-/
set_option linter.unusedVariables false
set_option linter.unusedSimpArgs false
set_option maxRecDepth 10000
open Go Go.Am
namespace Go.Proofs.Ytgaedhpeiamdfaa

def p0F_pre (lim bad : Int) (op sum : Int) (begun last : Bool) (lacks : Int) (s : ByteArray) : Prop := ((pcode bad lacks begun s == 0) = false) ∧ p_pr0 lim bad op sum begun last lacks s
def p0F_v (lim bad : Int) (op sum : Int) (begun last : Bool) (lacks : Int) (s : ByteArray) : Value := .int .i64 (pcode bad lacks begun s)
def p0F_h (lim bad : Int) (op sum : Int) (begun last : Bool) (lacks : Int) (s : ByteArray) : Heap := [some (.cells [.int .i64 lim, .bool true, .int .i64 (pcode bad lacks begun s), .int .i64 op, .int .i64 sum, .pointer none, .slice none 0 0, .pointer none, .bool begun, .bool last, .int .i64 lacks] 51 none)]
theorem p0F_call (lim bad : Int) (op sum : Int) (begun last : Bool) (lacks : Int) (s : ByteArray) (hp : p0F_pre lim bad op sum begun last lacks s) : CallOk E 14 [.pointer (some ⟨0, 0, none⟩), .string s] [some (.cells [.int .i64 lim, .bool true, .int .i64 bad, .int .i64 op, .int .i64 sum, .pointer none, .slice none 0 0, .pointer none, .bool begun, .bool last, .int .i64 lacks] 51 none)] (p0F_v lim bad op sum begun last lacks s) (p0F_h lim bad op sum begun last lacks s) := by
 have w := p0_all lim bad op sum begun last lacks s hp.2
 obtain c0 := hp.1
 have e1 : p_v0 lim bad op sum begun last lacks s = p0F_v lim bad op sum begun last lacks s := by
  unfold p_v0 p0F_v
  first | rfl | (rw [c0]; simp only [cond_true, cond_false]) | (rw [c0]; rfl)
 have e2 : p_h0 lim bad op sum begun last lacks s = p0F_h lim bad op sum begun last lacks s := by
  unfold p_h0 p0F_h
  first | rfl | (rw [c0]; simp only [cond_true, cond_false]) | (rw [c0]; rfl)
 rw [e1, e2] at w
 exact w

def p0F_ex (a : List Value) (h : Heap) : Int × Int × Int × Int × Bool × Bool × Int × ByteArray := ((toInt ((cellsOf h 0).getD 0 undef)), (toInt ((cellsOf h 0).getD 2 undef)), (toInt ((cellsOf h 0).getD 3 undef)), (toInt ((cellsOf h 0).getD 4 undef)), (toBool ((cellsOf h 0).getD 8 undef)), (toBool ((cellsOf h 0).getD 9 undef)), (toInt ((cellsOf h 0).getD 10 undef)), (toStr (a.getD 1 undef)))
noncomputable def p0F_k : Ct := kS p0F_ex [.ptr 0 0, .str] [.cells [.int .i64, .boolC true, .int .i64, .int .i64, .int .i64, .nilP, .nilS, .nilP, .bool, .bool, .int .i64] 51 none] (fun (a0, a1, a2, a3, a4, a5, a6, a7) => p0F_pre a0 a1 a2 a3 a4 a5 a6 a7) (fun (a0, a1, a2, a3, a4, a5, a6, a7) => p0F_v a0 a1 a2 a3 a4 a5 a6 a7) (fun (a0, a1, a2, a3, a4, a5, a6, a7) => p0F_h a0 a1 a2 a3 a4 a5 a6 a7)
theorem p0F_k_ok : KFor E 14 p0F_k := kS_ok (fun x hx => p0F_call (x.1) (x.2.1) (x.2.2.1) (x.2.2.2.1) (x.2.2.2.2.1) (x.2.2.2.2.2.1) (x.2.2.2.2.2.2.1) (x.2.2.2.2.2.2.2) hx) (fun _ _ => rfl) (fun _ _ => rfl)


def p1S_pre (lim bad : Int) (op sum : Int) (begun last : Bool) (lacks left : Int) (low high : Int) (x at' : Int) (cbad : Bool) (s : ByteArray) : Prop := ((pcode bad lacks begun s == 0) = true ∧ ((op == 1) && (fedP op left low high x at' cbad s).2.2) = false ∧ (decide (slen s = 0)) = true) ∧ p_pr1 lim bad op sum begun last lacks left low high x at' cbad s
def p1S_v (lim bad : Int) (op sum : Int) (begun last : Bool) (lacks left : Int) (low high : Int) (x at' : Int) (cbad : Bool) (s : ByteArray) : Value := .int .i64 0
abbrev zhkp0 (v0 : Int) (v1 : Bool) (v2 : Int) (v3 : Int) (v4 : Int) (v5 : Bool) (v6 : Bool) (v7 : Int) (v8 : Int) (v9 : Int) (v10 : Int) (v11 : Int) (v12 : Int) (v13 : Bool) : Heap := [some (.cells [.int .i64 v0, .bool v1, .int .i64 v2, .int .i64 v3, .int .i64 v4, .pointer (some ⟨0, 5, none⟩), .slice none 0 0, .pointer (some ⟨1, 0, none⟩), .bool v5, .bool v6, .int .i64 v7] 51 none), some (.cells [.int .i64 v8, .int .u8 v9, .int .u8 v10, .int .i32 v11, .int .i64 v12, .bool v13] 77 none)]
def p1S_h (lim bad : Int) (op sum : Int) (begun last : Bool) (lacks left : Int) (low high : Int) (x at' : Int) (cbad : Bool) (s : ByteArray) : Heap := (zhkp0 lim true bad op sum begun last (IntKind.wrap .i64 (lacks - (slen s : Int))) (fedP op left low high x at' cbad s).1.1 (fedP op left low high x at' cbad s).1.2.1 (fedP op left low high x at' cbad s).1.2.2.1 (fedP op left low high x at' cbad s).1.2.2.2 (fedP op left low high x at' cbad s).2.1 (fedP op left low high x at' cbad s).2.2)
abbrev zhkp1 (v0 : Int) (v1 : Bool) (v2 : Int) (v3 : Int) (v4 : Int) (v5 : Bool) (v6 : Bool) (v7 : Int) (v8 : Int) (v9 : Int) (v10 : Int) (v11 : Int) (v12 : Int) (v13 : Bool) : Heap := [some (.cells [.int .i64 v0, .bool v1, .int .i64 v2, .int .i64 v3, .int .i64 v4, .pointer none, .slice none 0 0, .pointer (some ⟨1, 0, none⟩), .bool v5, .bool v6, .int .i64 v7] 51 none), some (.cells [.int .i64 v8, .int .u8 v9, .int .u8 v10, .int .i32 v11, .int .i64 v12, .bool v13] 77 none)]
theorem p1S_call (lim bad : Int) (op sum : Int) (begun last : Bool) (lacks left : Int) (low high : Int) (x at' : Int) (cbad : Bool) (s : ByteArray) (hp : p1S_pre lim bad op sum begun last lacks left low high x at' cbad s) : CallOk E 14 [.pointer (some ⟨0, 0, none⟩), .string s] (zhkp1 lim true bad op sum begun last lacks left low high x at' cbad) (p1S_v lim bad op sum begun last lacks left low high x at' cbad s) (p1S_h lim bad op sum begun last lacks left low high x at' cbad s) := by
 have w := p1_all lim bad op sum begun last lacks left low high x at' cbad s hp.2
 obtain ⟨c0, c1, c2⟩ := hp.1
 have e1 : p_v1 lim bad op sum begun last lacks left low high x at' cbad s = p1S_v lim bad op sum begun last lacks left low high x at' cbad s := by
  unfold p_v1 p1S_v
  first | rfl | (rw [c0]; simp only [cond_true, cond_false]; rw [c1]; simp only [cond_true, cond_false]; rw [c2]; simp only [cond_true, cond_false]) | (rw [c0]; rw [c1]; rw [c2]; rfl)
 have e2 : p_h1 lim bad op sum begun last lacks left low high x at' cbad s = p1S_h lim bad op sum begun last lacks left low high x at' cbad s := by
  unfold p_h1 p1S_h
  first | rfl | (rw [c0]; simp only [cond_true, cond_false]; rw [c1]; simp only [cond_true, cond_false]; rw [c2]; simp only [cond_true, cond_false]) | (rw [c0]; rw [c1]; rw [c2]; rfl)
 rw [e1, e2] at w
 exact w

def p1S_ex (a : List Value) (h : Heap) : Int × Int × Int × Int × Bool × Bool × Int × Int × Int × Int × Int × Int × Bool × ByteArray := ((toInt ((cellsOf h 0).getD 0 undef)), (toInt ((cellsOf h 0).getD 2 undef)), (toInt ((cellsOf h 0).getD 3 undef)), (toInt ((cellsOf h 0).getD 4 undef)), (toBool ((cellsOf h 0).getD 8 undef)), (toBool ((cellsOf h 0).getD 9 undef)), (toInt ((cellsOf h 0).getD 10 undef)), (toInt ((cellsOf h 1).getD 0 undef)), (toInt ((cellsOf h 1).getD 1 undef)), (toInt ((cellsOf h 1).getD 2 undef)), (toInt ((cellsOf h 1).getD 3 undef)), (toInt ((cellsOf h 1).getD 4 undef)), (toBool ((cellsOf h 1).getD 5 undef)), (toStr (a.getD 1 undef)))
noncomputable def p1S_k : Ct := kS p1S_ex [.ptr 0 0, .str] [.cells [.int .i64, .boolC true, .int .i64, .int .i64, .int .i64, .nilP, .nilS, .ptr 1 0, .bool, .bool, .int .i64] 51 none, .cells [.int .i64, .int .u8, .int .u8, .int .i32, .int .i64, .bool] 77 none] (fun (a0, a1, a2, a3, a4, a5, a6, a7, a8, a9, a10, a11, a12, a13) => p1S_pre a0 a1 a2 a3 a4 a5 a6 a7 a8 a9 a10 a11 a12 a13) (fun (a0, a1, a2, a3, a4, a5, a6, a7, a8, a9, a10, a11, a12, a13) => p1S_v a0 a1 a2 a3 a4 a5 a6 a7 a8 a9 a10 a11 a12 a13) (fun (a0, a1, a2, a3, a4, a5, a6, a7, a8, a9, a10, a11, a12, a13) => p1S_h a0 a1 a2 a3 a4 a5 a6 a7 a8 a9 a10 a11 a12 a13)
theorem p1S_k_ok : KFor E 14 p1S_k := kS_ok (fun x hx => p1S_call (x.1) (x.2.1) (x.2.2.1) (x.2.2.2.1) (x.2.2.2.2.1) (x.2.2.2.2.2.1) (x.2.2.2.2.2.2.1) (x.2.2.2.2.2.2.2.1) (x.2.2.2.2.2.2.2.2.1) (x.2.2.2.2.2.2.2.2.2.1) (x.2.2.2.2.2.2.2.2.2.2.1) (x.2.2.2.2.2.2.2.2.2.2.2.1) (x.2.2.2.2.2.2.2.2.2.2.2.2.1) (x.2.2.2.2.2.2.2.2.2.2.2.2.2) hx) (fun _ _ => rfl) (fun _ _ => rfl)


def p1T_pre (lim bad : Int) (op sum : Int) (begun last : Bool) (lacks left : Int) (low high : Int) (x at' : Int) (cbad : Bool) (s : ByteArray) : Prop := ((pcode bad lacks begun s == 0) = true ∧ ((op == 1) && (fedP op left low high x at' cbad s).2.2) = false ∧ (decide (slen s = 0)) = false) ∧ p_pr1 lim bad op sum begun last lacks left low high x at' cbad s
def p1T_v (lim bad : Int) (op sum : Int) (begun last : Bool) (lacks left : Int) (low high : Int) (x at' : Int) (cbad : Bool) (s : ByteArray) : Value := .int .i64 0
def p1T_h (lim bad : Int) (op sum : Int) (begun last : Bool) (lacks left : Int) (low high : Int) (x at' : Int) (cbad : Bool) (s : ByteArray) : Heap := [some (.cells [.int .i64 lim, .bool true, .int .i64 bad, .int .i64 op, .int .i64 sum, .pointer (some ⟨0, 5, none⟩), .slice (some ⟨2, 0, none⟩) (slen s) 0, .pointer (some ⟨1, 0, none⟩), .bool begun, .bool last, .int .i64 (IntKind.wrap .i64 (lacks - (slen s : Int)))] 51 none), some (.cells [.int .i64 (fedP op left low high x at' cbad s).1.1, .int .u8 (fedP op left low high x at' cbad s).1.2.1, .int .u8 (fedP op left low high x at' cbad s).1.2.2.1, .int .i32 (fedP op left low high x at' cbad s).1.2.2.2, .int .i64 (fedP op left low high x at' cbad s).2.1, .bool (fedP op left low high x at' cbad s).2.2] 77 none), some (.cells (ofBytes s) 5 (some 1))]
theorem p1T_call (lim bad : Int) (op sum : Int) (begun last : Bool) (lacks left : Int) (low high : Int) (x at' : Int) (cbad : Bool) (s : ByteArray) (hp : p1T_pre lim bad op sum begun last lacks left low high x at' cbad s) : CallOk E 14 [.pointer (some ⟨0, 0, none⟩), .string s] (zhkp1 lim true bad op sum begun last lacks left low high x at' cbad) (p1T_v lim bad op sum begun last lacks left low high x at' cbad s) (p1T_h lim bad op sum begun last lacks left low high x at' cbad s) := by
 have w := p1_all lim bad op sum begun last lacks left low high x at' cbad s hp.2
 obtain ⟨c0, c1, c2⟩ := hp.1
 have e1 : p_v1 lim bad op sum begun last lacks left low high x at' cbad s = p1T_v lim bad op sum begun last lacks left low high x at' cbad s := by
  unfold p_v1 p1T_v
  first | rfl | (rw [c0]; simp only [cond_true, cond_false]; rw [c1]; simp only [cond_true, cond_false]; rw [c2]; simp only [cond_true, cond_false]) | (rw [c0]; rw [c1]; rw [c2]; rfl)
 have e2 : p_h1 lim bad op sum begun last lacks left low high x at' cbad s = p1T_h lim bad op sum begun last lacks left low high x at' cbad s := by
  unfold p_h1 p1T_h
  first | rfl | (rw [c0]; simp only [cond_true, cond_false]; rw [c1]; simp only [cond_true, cond_false]; rw [c2]; simp only [cond_true, cond_false]) | (rw [c0]; rw [c1]; rw [c2]; rfl)
 rw [e1, e2] at w
 exact w

abbrev p1T_ex := p1S_ex
noncomputable def p1T_k : Ct := kS p1T_ex [.ptr 0 0, .str] [.cells [.int .i64, .boolC true, .int .i64, .int .i64, .int .i64, .nilP, .nilS, .ptr 1 0, .bool, .bool, .int .i64] 51 none, .cells [.int .i64, .int .u8, .int .u8, .int .i32, .int .i64, .bool] 77 none] (fun (a0, a1, a2, a3, a4, a5, a6, a7, a8, a9, a10, a11, a12, a13) => p1T_pre a0 a1 a2 a3 a4 a5 a6 a7 a8 a9 a10 a11 a12 a13) (fun (a0, a1, a2, a3, a4, a5, a6, a7, a8, a9, a10, a11, a12, a13) => p1T_v a0 a1 a2 a3 a4 a5 a6 a7 a8 a9 a10 a11 a12 a13) (fun (a0, a1, a2, a3, a4, a5, a6, a7, a8, a9, a10, a11, a12, a13) => p1T_h a0 a1 a2 a3 a4 a5 a6 a7 a8 a9 a10 a11 a12 a13)
theorem p1T_k_ok : KFor E 14 p1T_k := kS_ok (fun x hx => p1T_call (x.1) (x.2.1) (x.2.2.1) (x.2.2.2.1) (x.2.2.2.2.1) (x.2.2.2.2.2.1) (x.2.2.2.2.2.2.1) (x.2.2.2.2.2.2.2.1) (x.2.2.2.2.2.2.2.2.1) (x.2.2.2.2.2.2.2.2.2.1) (x.2.2.2.2.2.2.2.2.2.2.1) (x.2.2.2.2.2.2.2.2.2.2.2.1) (x.2.2.2.2.2.2.2.2.2.2.2.2.1) (x.2.2.2.2.2.2.2.2.2.2.2.2.2) hx) (fun _ _ => rfl) (fun _ _ => rfl)


def p1B_pre (lim bad : Int) (op sum : Int) (begun last : Bool) (lacks left : Int) (low high : Int) (x at' : Int) (cbad : Bool) (s : ByteArray) : Prop := ((pcode bad lacks begun s == 0) = true ∧ ((op == 1) && (fedP op left low high x at' cbad s).2.2) = true) ∧ p_pr1 lim bad op sum begun last lacks left low high x at' cbad s
def p1B_v (lim bad : Int) (op sum : Int) (begun last : Bool) (lacks left : Int) (low high : Int) (x at' : Int) (cbad : Bool) (s : ByteArray) : Value := .int .i64 1007
def p1B_h (lim bad : Int) (op sum : Int) (begun last : Bool) (lacks left : Int) (low high : Int) (x at' : Int) (cbad : Bool) (s : ByteArray) : Heap := (zhkp1 lim true 1007 op sum begun last lacks (fedP op left low high x at' cbad s).1.1 (fedP op left low high x at' cbad s).1.2.1 (fedP op left low high x at' cbad s).1.2.2.1 (fedP op left low high x at' cbad s).1.2.2.2 (fedP op left low high x at' cbad s).2.1 (fedP op left low high x at' cbad s).2.2)
theorem p1B_call (lim bad : Int) (op sum : Int) (begun last : Bool) (lacks left : Int) (low high : Int) (x at' : Int) (cbad : Bool) (s : ByteArray) (hp : p1B_pre lim bad op sum begun last lacks left low high x at' cbad s) : CallOk E 14 [.pointer (some ⟨0, 0, none⟩), .string s] (zhkp1 lim true bad op sum begun last lacks left low high x at' cbad) (p1B_v lim bad op sum begun last lacks left low high x at' cbad s) (p1B_h lim bad op sum begun last lacks left low high x at' cbad s) := by
 have w := p1_all lim bad op sum begun last lacks left low high x at' cbad s hp.2
 obtain ⟨c0, c1⟩ := hp.1
 have e1 : p_v1 lim bad op sum begun last lacks left low high x at' cbad s = p1B_v lim bad op sum begun last lacks left low high x at' cbad s := by
  unfold p_v1 p1B_v
  first | rfl | (rw [c0]; simp only [cond_true, cond_false]; rw [c1]; simp only [cond_true, cond_false]) | (rw [c0]; rw [c1]; rfl)
 have e2 : p_h1 lim bad op sum begun last lacks left low high x at' cbad s = p1B_h lim bad op sum begun last lacks left low high x at' cbad s := by
  unfold p_h1 p1B_h
  first | rfl | (rw [c0]; simp only [cond_true, cond_false]; rw [c1]; simp only [cond_true, cond_false]) | (rw [c0]; rw [c1]; rfl)
 rw [e1, e2] at w
 exact w

abbrev p1B_ex := p1S_ex
noncomputable def p1B_k : Ct := kS p1B_ex [.ptr 0 0, .str] [.cells [.int .i64, .boolC true, .int .i64, .int .i64, .int .i64, .nilP, .nilS, .ptr 1 0, .bool, .bool, .int .i64] 51 none, .cells [.int .i64, .int .u8, .int .u8, .int .i32, .int .i64, .bool] 77 none] (fun (a0, a1, a2, a3, a4, a5, a6, a7, a8, a9, a10, a11, a12, a13) => p1B_pre a0 a1 a2 a3 a4 a5 a6 a7 a8 a9 a10 a11 a12 a13) (fun (a0, a1, a2, a3, a4, a5, a6, a7, a8, a9, a10, a11, a12, a13) => p1B_v a0 a1 a2 a3 a4 a5 a6 a7 a8 a9 a10 a11 a12 a13) (fun (a0, a1, a2, a3, a4, a5, a6, a7, a8, a9, a10, a11, a12, a13) => p1B_h a0 a1 a2 a3 a4 a5 a6 a7 a8 a9 a10 a11 a12 a13)
theorem p1B_k_ok : KFor E 14 p1B_k := kS_ok (fun x hx => p1B_call (x.1) (x.2.1) (x.2.2.1) (x.2.2.2.1) (x.2.2.2.2.1) (x.2.2.2.2.2.1) (x.2.2.2.2.2.2.1) (x.2.2.2.2.2.2.2.1) (x.2.2.2.2.2.2.2.2.1) (x.2.2.2.2.2.2.2.2.2.1) (x.2.2.2.2.2.2.2.2.2.2.1) (x.2.2.2.2.2.2.2.2.2.2.2.1) (x.2.2.2.2.2.2.2.2.2.2.2.2.1) (x.2.2.2.2.2.2.2.2.2.2.2.2.2) hx) (fun _ _ => rfl) (fun _ _ => rfl)


def p1F_pre (lim bad : Int) (op sum : Int) (begun last : Bool) (lacks left : Int) (low high : Int) (x at' : Int) (cbad : Bool) (s : ByteArray) : Prop := ((pcode bad lacks begun s == 0) = false) ∧ p_pr1 lim bad op sum begun last lacks left low high x at' cbad s
def p1F_v (lim bad : Int) (op sum : Int) (begun last : Bool) (lacks left : Int) (low high : Int) (x at' : Int) (cbad : Bool) (s : ByteArray) : Value := .int .i64 (pcode bad lacks begun s)
def p1F_h (lim bad : Int) (op sum : Int) (begun last : Bool) (lacks left : Int) (low high : Int) (x at' : Int) (cbad : Bool) (s : ByteArray) : Heap := (zhkp1 lim true (pcode bad lacks begun s) op sum begun last lacks left low high x at' cbad)
theorem p1F_call (lim bad : Int) (op sum : Int) (begun last : Bool) (lacks left : Int) (low high : Int) (x at' : Int) (cbad : Bool) (s : ByteArray) (hp : p1F_pre lim bad op sum begun last lacks left low high x at' cbad s) : CallOk E 14 [.pointer (some ⟨0, 0, none⟩), .string s] (zhkp1 lim true bad op sum begun last lacks left low high x at' cbad) (p1F_v lim bad op sum begun last lacks left low high x at' cbad s) (p1F_h lim bad op sum begun last lacks left low high x at' cbad s) := by
 have w := p1_all lim bad op sum begun last lacks left low high x at' cbad s hp.2
 obtain c0 := hp.1
 have e1 : p_v1 lim bad op sum begun last lacks left low high x at' cbad s = p1F_v lim bad op sum begun last lacks left low high x at' cbad s := by
  unfold p_v1 p1F_v
  first | rfl | (rw [c0]; simp only [cond_true, cond_false]) | (rw [c0]; rfl)
 have e2 : p_h1 lim bad op sum begun last lacks left low high x at' cbad s = p1F_h lim bad op sum begun last lacks left low high x at' cbad s := by
  unfold p_h1 p1F_h
  first | rfl | (rw [c0]; simp only [cond_true, cond_false]) | (rw [c0]; rfl)
 rw [e1, e2] at w
 exact w

abbrev p1F_ex := p1S_ex
noncomputable def p1F_k : Ct := kS p1F_ex [.ptr 0 0, .str] [.cells [.int .i64, .boolC true, .int .i64, .int .i64, .int .i64, .nilP, .nilS, .ptr 1 0, .bool, .bool, .int .i64] 51 none, .cells [.int .i64, .int .u8, .int .u8, .int .i32, .int .i64, .bool] 77 none] (fun (a0, a1, a2, a3, a4, a5, a6, a7, a8, a9, a10, a11, a12, a13) => p1F_pre a0 a1 a2 a3 a4 a5 a6 a7 a8 a9 a10 a11 a12 a13) (fun (a0, a1, a2, a3, a4, a5, a6, a7, a8, a9, a10, a11, a12, a13) => p1F_v a0 a1 a2 a3 a4 a5 a6 a7 a8 a9 a10 a11 a12 a13) (fun (a0, a1, a2, a3, a4, a5, a6, a7, a8, a9, a10, a11, a12, a13) => p1F_h a0 a1 a2 a3 a4 a5 a6 a7 a8 a9 a10 a11 a12 a13)
theorem p1F_k_ok : KFor E 14 p1F_k := kS_ok (fun x hx => p1F_call (x.1) (x.2.1) (x.2.2.1) (x.2.2.2.1) (x.2.2.2.2.1) (x.2.2.2.2.2.1) (x.2.2.2.2.2.2.1) (x.2.2.2.2.2.2.2.1) (x.2.2.2.2.2.2.2.2.1) (x.2.2.2.2.2.2.2.2.2.1) (x.2.2.2.2.2.2.2.2.2.2.1) (x.2.2.2.2.2.2.2.2.2.2.2.1) (x.2.2.2.2.2.2.2.2.2.2.2.2.1) (x.2.2.2.2.2.2.2.2.2.2.2.2.2) hx) (fun _ _ => rfl) (fun _ _ => rfl)


def p2S_pre (lim bad : Int) (op sum : Int) (begun last : Bool) (lacks left : Int) (low high : Int) (x at' : Int) (cbad : Bool) (s : ByteArray) : Prop := ((pcode bad lacks begun s == 0) = true ∧ ((op == 1) && (fedP op left low high x at' cbad s).2.2) = false ∧ (decide (slen s = 0)) = true) ∧ p_pr2 lim bad op sum begun last lacks left low high x at' cbad s
def p2S_v (lim bad : Int) (op sum : Int) (begun last : Bool) (lacks left : Int) (low high : Int) (x at' : Int) (cbad : Bool) (s : ByteArray) : Value := .int .i64 0
def p2S_h (lim bad : Int) (op sum : Int) (begun last : Bool) (lacks left : Int) (low high : Int) (x at' : Int) (cbad : Bool) (s : ByteArray) : Heap := (zhkp0 lim true bad op sum begun last (IntKind.wrap .i64 (lacks - (slen s : Int))) (fedP op left low high x at' cbad s).1.1 (fedP op left low high x at' cbad s).1.2.1 (fedP op left low high x at' cbad s).1.2.2.1 (fedP op left low high x at' cbad s).1.2.2.2 (fedP op left low high x at' cbad s).2.1 (fedP op left low high x at' cbad s).2.2)
theorem p2S_call (lim bad : Int) (op sum : Int) (begun last : Bool) (lacks left : Int) (low high : Int) (x at' : Int) (cbad : Bool) (s : ByteArray) (hp : p2S_pre lim bad op sum begun last lacks left low high x at' cbad s) : CallOk E 14 [.pointer (some ⟨0, 0, none⟩), .string s] (zhkp0 lim true bad op sum begun last lacks left low high x at' cbad) (p2S_v lim bad op sum begun last lacks left low high x at' cbad s) (p2S_h lim bad op sum begun last lacks left low high x at' cbad s) := by
 have w := p2_all lim bad op sum begun last lacks left low high x at' cbad s hp.2
 obtain ⟨c0, c1, c2⟩ := hp.1
 have e1 : p_v2 lim bad op sum begun last lacks left low high x at' cbad s = p2S_v lim bad op sum begun last lacks left low high x at' cbad s := by
  unfold p_v2 p2S_v
  first | rfl | (rw [c0]; simp only [cond_true, cond_false]; rw [c1]; simp only [cond_true, cond_false]; rw [c2]; simp only [cond_true, cond_false]) | (rw [c0]; rw [c1]; rw [c2]; rfl)
 have e2 : p_h2 lim bad op sum begun last lacks left low high x at' cbad s = p2S_h lim bad op sum begun last lacks left low high x at' cbad s := by
  unfold p_h2 p2S_h
  first | rfl | (rw [c0]; simp only [cond_true, cond_false]; rw [c1]; simp only [cond_true, cond_false]; rw [c2]; simp only [cond_true, cond_false]) | (rw [c0]; rw [c1]; rw [c2]; rfl)
 rw [e1, e2] at w
 exact w

abbrev p2S_ex := p1S_ex
noncomputable def p2S_k : Ct := kS p2S_ex [.ptr 0 0, .str] [.cells [.int .i64, .boolC true, .int .i64, .int .i64, .int .i64, .ptr 0 5, .nilS, .ptr 1 0, .bool, .bool, .int .i64] 51 none, .cells [.int .i64, .int .u8, .int .u8, .int .i32, .int .i64, .bool] 77 none] (fun (a0, a1, a2, a3, a4, a5, a6, a7, a8, a9, a10, a11, a12, a13) => p2S_pre a0 a1 a2 a3 a4 a5 a6 a7 a8 a9 a10 a11 a12 a13) (fun (a0, a1, a2, a3, a4, a5, a6, a7, a8, a9, a10, a11, a12, a13) => p2S_v a0 a1 a2 a3 a4 a5 a6 a7 a8 a9 a10 a11 a12 a13) (fun (a0, a1, a2, a3, a4, a5, a6, a7, a8, a9, a10, a11, a12, a13) => p2S_h a0 a1 a2 a3 a4 a5 a6 a7 a8 a9 a10 a11 a12 a13)
theorem p2S_k_ok : KFor E 14 p2S_k := kS_ok (fun x hx => p2S_call (x.1) (x.2.1) (x.2.2.1) (x.2.2.2.1) (x.2.2.2.2.1) (x.2.2.2.2.2.1) (x.2.2.2.2.2.2.1) (x.2.2.2.2.2.2.2.1) (x.2.2.2.2.2.2.2.2.1) (x.2.2.2.2.2.2.2.2.2.1) (x.2.2.2.2.2.2.2.2.2.2.1) (x.2.2.2.2.2.2.2.2.2.2.2.1) (x.2.2.2.2.2.2.2.2.2.2.2.2.1) (x.2.2.2.2.2.2.2.2.2.2.2.2.2) hx) (fun _ _ => rfl) (fun _ _ => rfl)


def p2T_pre (lim bad : Int) (op sum : Int) (begun last : Bool) (lacks left : Int) (low high : Int) (x at' : Int) (cbad : Bool) (s : ByteArray) : Prop := ((pcode bad lacks begun s == 0) = true ∧ ((op == 1) && (fedP op left low high x at' cbad s).2.2) = false ∧ (decide (slen s = 0)) = false) ∧ p_pr2 lim bad op sum begun last lacks left low high x at' cbad s
def p2T_v (lim bad : Int) (op sum : Int) (begun last : Bool) (lacks left : Int) (low high : Int) (x at' : Int) (cbad : Bool) (s : ByteArray) : Value := .int .i64 0
def p2T_h (lim bad : Int) (op sum : Int) (begun last : Bool) (lacks left : Int) (low high : Int) (x at' : Int) (cbad : Bool) (s : ByteArray) : Heap := [some (.cells [.int .i64 lim, .bool true, .int .i64 bad, .int .i64 op, .int .i64 sum, .pointer (some ⟨0, 5, none⟩), .slice (some ⟨2, 0, none⟩) (slen s) 0, .pointer (some ⟨1, 0, none⟩), .bool begun, .bool last, .int .i64 (IntKind.wrap .i64 (lacks - (slen s : Int)))] 51 none), some (.cells [.int .i64 (fedP op left low high x at' cbad s).1.1, .int .u8 (fedP op left low high x at' cbad s).1.2.1, .int .u8 (fedP op left low high x at' cbad s).1.2.2.1, .int .i32 (fedP op left low high x at' cbad s).1.2.2.2, .int .i64 (fedP op left low high x at' cbad s).2.1, .bool (fedP op left low high x at' cbad s).2.2] 77 none), some (.cells (ofBytes s) 5 (some 1))]
theorem p2T_call (lim bad : Int) (op sum : Int) (begun last : Bool) (lacks left : Int) (low high : Int) (x at' : Int) (cbad : Bool) (s : ByteArray) (hp : p2T_pre lim bad op sum begun last lacks left low high x at' cbad s) : CallOk E 14 [.pointer (some ⟨0, 0, none⟩), .string s] (zhkp0 lim true bad op sum begun last lacks left low high x at' cbad) (p2T_v lim bad op sum begun last lacks left low high x at' cbad s) (p2T_h lim bad op sum begun last lacks left low high x at' cbad s) := by
 have w := p2_all lim bad op sum begun last lacks left low high x at' cbad s hp.2
 obtain ⟨c0, c1, c2⟩ := hp.1
 have e1 : p_v2 lim bad op sum begun last lacks left low high x at' cbad s = p2T_v lim bad op sum begun last lacks left low high x at' cbad s := by
  unfold p_v2 p2T_v
  first | rfl | (rw [c0]; simp only [cond_true, cond_false]; rw [c1]; simp only [cond_true, cond_false]; rw [c2]; simp only [cond_true, cond_false]) | (rw [c0]; rw [c1]; rw [c2]; rfl)
 have e2 : p_h2 lim bad op sum begun last lacks left low high x at' cbad s = p2T_h lim bad op sum begun last lacks left low high x at' cbad s := by
  unfold p_h2 p2T_h
  first | rfl | (rw [c0]; simp only [cond_true, cond_false]; rw [c1]; simp only [cond_true, cond_false]; rw [c2]; simp only [cond_true, cond_false]) | (rw [c0]; rw [c1]; rw [c2]; rfl)
 rw [e1, e2] at w
 exact w

abbrev p2T_ex := p1S_ex
noncomputable def p2T_k : Ct := kS p2T_ex [.ptr 0 0, .str] [.cells [.int .i64, .boolC true, .int .i64, .int .i64, .int .i64, .ptr 0 5, .nilS, .ptr 1 0, .bool, .bool, .int .i64] 51 none, .cells [.int .i64, .int .u8, .int .u8, .int .i32, .int .i64, .bool] 77 none] (fun (a0, a1, a2, a3, a4, a5, a6, a7, a8, a9, a10, a11, a12, a13) => p2T_pre a0 a1 a2 a3 a4 a5 a6 a7 a8 a9 a10 a11 a12 a13) (fun (a0, a1, a2, a3, a4, a5, a6, a7, a8, a9, a10, a11, a12, a13) => p2T_v a0 a1 a2 a3 a4 a5 a6 a7 a8 a9 a10 a11 a12 a13) (fun (a0, a1, a2, a3, a4, a5, a6, a7, a8, a9, a10, a11, a12, a13) => p2T_h a0 a1 a2 a3 a4 a5 a6 a7 a8 a9 a10 a11 a12 a13)
theorem p2T_k_ok : KFor E 14 p2T_k := kS_ok (fun x hx => p2T_call (x.1) (x.2.1) (x.2.2.1) (x.2.2.2.1) (x.2.2.2.2.1) (x.2.2.2.2.2.1) (x.2.2.2.2.2.2.1) (x.2.2.2.2.2.2.2.1) (x.2.2.2.2.2.2.2.2.1) (x.2.2.2.2.2.2.2.2.2.1) (x.2.2.2.2.2.2.2.2.2.2.1) (x.2.2.2.2.2.2.2.2.2.2.2.1) (x.2.2.2.2.2.2.2.2.2.2.2.2.1) (x.2.2.2.2.2.2.2.2.2.2.2.2.2) hx) (fun _ _ => rfl) (fun _ _ => rfl)


def p2B_pre (lim bad : Int) (op sum : Int) (begun last : Bool) (lacks left : Int) (low high : Int) (x at' : Int) (cbad : Bool) (s : ByteArray) : Prop := ((pcode bad lacks begun s == 0) = true ∧ ((op == 1) && (fedP op left low high x at' cbad s).2.2) = true) ∧ p_pr2 lim bad op sum begun last lacks left low high x at' cbad s
def p2B_v (lim bad : Int) (op sum : Int) (begun last : Bool) (lacks left : Int) (low high : Int) (x at' : Int) (cbad : Bool) (s : ByteArray) : Value := .int .i64 1007
def p2B_h (lim bad : Int) (op sum : Int) (begun last : Bool) (lacks left : Int) (low high : Int) (x at' : Int) (cbad : Bool) (s : ByteArray) : Heap := (zhkp0 lim true 1007 op sum begun last lacks (fedP op left low high x at' cbad s).1.1 (fedP op left low high x at' cbad s).1.2.1 (fedP op left low high x at' cbad s).1.2.2.1 (fedP op left low high x at' cbad s).1.2.2.2 (fedP op left low high x at' cbad s).2.1 (fedP op left low high x at' cbad s).2.2)
theorem p2B_call (lim bad : Int) (op sum : Int) (begun last : Bool) (lacks left : Int) (low high : Int) (x at' : Int) (cbad : Bool) (s : ByteArray) (hp : p2B_pre lim bad op sum begun last lacks left low high x at' cbad s) : CallOk E 14 [.pointer (some ⟨0, 0, none⟩), .string s] (zhkp0 lim true bad op sum begun last lacks left low high x at' cbad) (p2B_v lim bad op sum begun last lacks left low high x at' cbad s) (p2B_h lim bad op sum begun last lacks left low high x at' cbad s) := by
 have w := p2_all lim bad op sum begun last lacks left low high x at' cbad s hp.2
 obtain ⟨c0, c1⟩ := hp.1
 have e1 : p_v2 lim bad op sum begun last lacks left low high x at' cbad s = p2B_v lim bad op sum begun last lacks left low high x at' cbad s := by
  unfold p_v2 p2B_v
  first | rfl | (rw [c0]; simp only [cond_true, cond_false]; rw [c1]; simp only [cond_true, cond_false]) | (rw [c0]; rw [c1]; rfl)
 have e2 : p_h2 lim bad op sum begun last lacks left low high x at' cbad s = p2B_h lim bad op sum begun last lacks left low high x at' cbad s := by
  unfold p_h2 p2B_h
  first | rfl | (rw [c0]; simp only [cond_true, cond_false]; rw [c1]; simp only [cond_true, cond_false]) | (rw [c0]; rw [c1]; rfl)
 rw [e1, e2] at w
 exact w

abbrev p2B_ex := p1S_ex
noncomputable def p2B_k : Ct := kS p2B_ex [.ptr 0 0, .str] [.cells [.int .i64, .boolC true, .int .i64, .int .i64, .int .i64, .ptr 0 5, .nilS, .ptr 1 0, .bool, .bool, .int .i64] 51 none, .cells [.int .i64, .int .u8, .int .u8, .int .i32, .int .i64, .bool] 77 none] (fun (a0, a1, a2, a3, a4, a5, a6, a7, a8, a9, a10, a11, a12, a13) => p2B_pre a0 a1 a2 a3 a4 a5 a6 a7 a8 a9 a10 a11 a12 a13) (fun (a0, a1, a2, a3, a4, a5, a6, a7, a8, a9, a10, a11, a12, a13) => p2B_v a0 a1 a2 a3 a4 a5 a6 a7 a8 a9 a10 a11 a12 a13) (fun (a0, a1, a2, a3, a4, a5, a6, a7, a8, a9, a10, a11, a12, a13) => p2B_h a0 a1 a2 a3 a4 a5 a6 a7 a8 a9 a10 a11 a12 a13)
theorem p2B_k_ok : KFor E 14 p2B_k := kS_ok (fun x hx => p2B_call (x.1) (x.2.1) (x.2.2.1) (x.2.2.2.1) (x.2.2.2.2.1) (x.2.2.2.2.2.1) (x.2.2.2.2.2.2.1) (x.2.2.2.2.2.2.2.1) (x.2.2.2.2.2.2.2.2.1) (x.2.2.2.2.2.2.2.2.2.1) (x.2.2.2.2.2.2.2.2.2.2.1) (x.2.2.2.2.2.2.2.2.2.2.2.1) (x.2.2.2.2.2.2.2.2.2.2.2.2.1) (x.2.2.2.2.2.2.2.2.2.2.2.2.2) hx) (fun _ _ => rfl) (fun _ _ => rfl)


def p2F_pre (lim bad : Int) (op sum : Int) (begun last : Bool) (lacks left : Int) (low high : Int) (x at' : Int) (cbad : Bool) (s : ByteArray) : Prop := ((pcode bad lacks begun s == 0) = false) ∧ p_pr2 lim bad op sum begun last lacks left low high x at' cbad s
def p2F_v (lim bad : Int) (op sum : Int) (begun last : Bool) (lacks left : Int) (low high : Int) (x at' : Int) (cbad : Bool) (s : ByteArray) : Value := .int .i64 (pcode bad lacks begun s)
def p2F_h (lim bad : Int) (op sum : Int) (begun last : Bool) (lacks left : Int) (low high : Int) (x at' : Int) (cbad : Bool) (s : ByteArray) : Heap := (zhkp0 lim true (pcode bad lacks begun s) op sum begun last lacks left low high x at' cbad)
theorem p2F_call (lim bad : Int) (op sum : Int) (begun last : Bool) (lacks left : Int) (low high : Int) (x at' : Int) (cbad : Bool) (s : ByteArray) (hp : p2F_pre lim bad op sum begun last lacks left low high x at' cbad s) : CallOk E 14 [.pointer (some ⟨0, 0, none⟩), .string s] (zhkp0 lim true bad op sum begun last lacks left low high x at' cbad) (p2F_v lim bad op sum begun last lacks left low high x at' cbad s) (p2F_h lim bad op sum begun last lacks left low high x at' cbad s) := by
 have w := p2_all lim bad op sum begun last lacks left low high x at' cbad s hp.2
 obtain c0 := hp.1
 have e1 : p_v2 lim bad op sum begun last lacks left low high x at' cbad s = p2F_v lim bad op sum begun last lacks left low high x at' cbad s := by
  unfold p_v2 p2F_v
  first | rfl | (rw [c0]; simp only [cond_true, cond_false]) | (rw [c0]; rfl)
 have e2 : p_h2 lim bad op sum begun last lacks left low high x at' cbad s = p2F_h lim bad op sum begun last lacks left low high x at' cbad s := by
  unfold p_h2 p2F_h
  first | rfl | (rw [c0]; simp only [cond_true, cond_false]) | (rw [c0]; rfl)
 rw [e1, e2] at w
 exact w

abbrev p2F_ex := p1S_ex
noncomputable def p2F_k : Ct := kS p2F_ex [.ptr 0 0, .str] [.cells [.int .i64, .boolC true, .int .i64, .int .i64, .int .i64, .ptr 0 5, .nilS, .ptr 1 0, .bool, .bool, .int .i64] 51 none, .cells [.int .i64, .int .u8, .int .u8, .int .i32, .int .i64, .bool] 77 none] (fun (a0, a1, a2, a3, a4, a5, a6, a7, a8, a9, a10, a11, a12, a13) => p2F_pre a0 a1 a2 a3 a4 a5 a6 a7 a8 a9 a10 a11 a12 a13) (fun (a0, a1, a2, a3, a4, a5, a6, a7, a8, a9, a10, a11, a12, a13) => p2F_v a0 a1 a2 a3 a4 a5 a6 a7 a8 a9 a10 a11 a12 a13) (fun (a0, a1, a2, a3, a4, a5, a6, a7, a8, a9, a10, a11, a12, a13) => p2F_h a0 a1 a2 a3 a4 a5 a6 a7 a8 a9 a10 a11 a12 a13)
theorem p2F_k_ok : KFor E 14 p2F_k := kS_ok (fun x hx => p2F_call (x.1) (x.2.1) (x.2.2.1) (x.2.2.2.1) (x.2.2.2.2.1) (x.2.2.2.2.2.1) (x.2.2.2.2.2.2.1) (x.2.2.2.2.2.2.2.1) (x.2.2.2.2.2.2.2.2.1) (x.2.2.2.2.2.2.2.2.2.1) (x.2.2.2.2.2.2.2.2.2.2.1) (x.2.2.2.2.2.2.2.2.2.2.2.1) (x.2.2.2.2.2.2.2.2.2.2.2.2.1) (x.2.2.2.2.2.2.2.2.2.2.2.2.2) hx) (fun _ _ => rfl) (fun _ _ => rfl)


def p3T_pre (lim bad : Int) (op sum : Int) (begun last : Bool) (lacks : Int) (bn : Nat) (B : List Value) (left low : Int) (high x at' : Int) (cbad : Bool) (s : ByteArray) : Prop := ((pcode bad lacks begun s == 0) = true ∧ ((op == 1) && (fedP op left low high x at' cbad s).2.2) = false) ∧ p_pr3 lim bad op sum begun last lacks bn B left low high x at' cbad s
def p3T_v (lim bad : Int) (op sum : Int) (begun last : Bool) (lacks : Int) (bn : Nat) (B : List Value) (left low : Int) (high x at' : Int) (cbad : Bool) (s : ByteArray) : Value := .int .i64 0
def p3T_h (lim bad : Int) (op sum : Int) (begun last : Bool) (lacks : Int) (bn : Nat) (B : List Value) (left low : Int) (high x at' : Int) (cbad : Bool) (s : ByteArray) : Heap := [some (.cells [.int .i64 lim, .bool true, .int .i64 bad, .int .i64 op, .int .i64 sum, .pointer (some ⟨0, 5, none⟩), .slice (some ⟨3, 0, none⟩) (bn + slen s) 0, .pointer (some ⟨2, 0, none⟩), .bool begun, .bool last, .int .i64 (IntKind.wrap .i64 (lacks - (slen s : Int)))] 51 none), none, some (.cells [.int .i64 (fedP op left low high x at' cbad s).1.1, .int .u8 (fedP op left low high x at' cbad s).1.2.1, .int .u8 (fedP op left low high x at' cbad s).1.2.2.1, .int .i32 (fedP op left low high x at' cbad s).1.2.2.2, .int .i64 (fedP op left low high x at' cbad s).2.1, .bool (fedP op left low high x at' cbad s).2.2] 77 none), some (.cells (B ++ ofBytes s) 5 (some 1))]
abbrev zhkp2 (v0 : Int) (v1 : Bool) (v2 : Int) (v3 : Int) (v4 : Int) (v5 : Bool) (v6 : Bool) (v7 : Int) (v8 : Int) (v9 : Int) (v10 : Int) (v11 : Int) (v12 : Int) (v13 : Bool) (B : List Value) (bn : Nat) : Heap := [some (.cells [.int .i64 v0, .bool v1, .int .i64 v2, .int .i64 v3, .int .i64 v4, .pointer (some ⟨0, 5, none⟩), .slice (some ⟨1, 0, none⟩) bn 0, .pointer (some ⟨2, 0, none⟩), .bool v5, .bool v6, .int .i64 v7] 51 none), some (.cells B 5 (some 1)), some (.cells [.int .i64 v8, .int .u8 v9, .int .u8 v10, .int .i32 v11, .int .i64 v12, .bool v13] 77 none)]
theorem p3T_call (lim bad : Int) (op sum : Int) (begun last : Bool) (lacks : Int) (bn : Nat) (B : List Value) (left low : Int) (high x at' : Int) (cbad : Bool) (s : ByteArray) (hp : p3T_pre lim bad op sum begun last lacks bn B left low high x at' cbad s) : CallOk E 14 [.pointer (some ⟨0, 0, none⟩), .string s] (zhkp2 lim true bad op sum begun last lacks left low high x at' cbad B bn) (p3T_v lim bad op sum begun last lacks bn B left low high x at' cbad s) (p3T_h lim bad op sum begun last lacks bn B left low high x at' cbad s) := by
 have w := p3_all lim bad op sum begun last lacks bn B left low high x at' cbad s hp.2
 obtain ⟨c0, c1⟩ := hp.1
 have e1 : p_v3 lim bad op sum begun last lacks bn B left low high x at' cbad s = p3T_v lim bad op sum begun last lacks bn B left low high x at' cbad s := by
  unfold p_v3 p3T_v
  first | rfl | (rw [c0]; simp only [cond_true, cond_false]; rw [c1]; simp only [cond_true, cond_false]) | (rw [c0]; rw [c1]; rfl)
 have e2 : p_h3 lim bad op sum begun last lacks bn B left low high x at' cbad s = p3T_h lim bad op sum begun last lacks bn B left low high x at' cbad s := by
  unfold p_h3 p3T_h
  first | rfl | (rw [c0]; simp only [cond_true, cond_false]; rw [c1]; simp only [cond_true, cond_false]) | (rw [c0]; rw [c1]; rfl)
 rw [e1, e2] at w
 exact w

def p3T_ex (a : List Value) (h : Heap) : Int × Int × Int × Int × Bool × Bool × Int × Nat × List Value × Int × Int × Int × Int × Int × Bool × ByteArray := ((toInt ((cellsOf h 0).getD 0 undef)), (toInt ((cellsOf h 0).getD 2 undef)), (toInt ((cellsOf h 0).getD 3 undef)), (toInt ((cellsOf h 0).getD 4 undef)), (toBool ((cellsOf h 0).getD 8 undef)), (toBool ((cellsOf h 0).getD 9 undef)), (toInt ((cellsOf h 0).getD 10 undef)), (sliceLen ((cellsOf h 0).getD 6 undef)), (cellsOf h 1), (toInt ((cellsOf h 2).getD 0 undef)), (toInt ((cellsOf h 2).getD 1 undef)), (toInt ((cellsOf h 2).getD 2 undef)), (toInt ((cellsOf h 2).getD 3 undef)), (toInt ((cellsOf h 2).getD 4 undef)), (toBool ((cellsOf h 2).getD 5 undef)), (toStr (a.getD 1 undef)))
noncomputable def p3T_k : Ct := kS p3T_ex [.ptr 0 0, .str] [.cells [.int .i64, .boolC true, .int .i64, .int .i64, .int .i64, .ptr 0 5, .sl 1 (some 0) (some 0), .ptr 2 0, .bool, .bool, .int .i64] 51 none, .any 5 (some 1), .cells [.int .i64, .int .u8, .int .u8, .int .i32, .int .i64, .bool] 77 none] (fun (a0, a1, a2, a3, a4, a5, a6, a7, a8, a9, a10, a11, a12, a13, a14, a15) => p3T_pre a0 a1 a2 a3 a4 a5 a6 a7 a8 a9 a10 a11 a12 a13 a14 a15) (fun (a0, a1, a2, a3, a4, a5, a6, a7, a8, a9, a10, a11, a12, a13, a14, a15) => p3T_v a0 a1 a2 a3 a4 a5 a6 a7 a8 a9 a10 a11 a12 a13 a14 a15) (fun (a0, a1, a2, a3, a4, a5, a6, a7, a8, a9, a10, a11, a12, a13, a14, a15) => p3T_h a0 a1 a2 a3 a4 a5 a6 a7 a8 a9 a10 a11 a12 a13 a14 a15)
theorem p3T_k_ok : KFor E 14 p3T_k := kS_ok (fun x hx => p3T_call (x.1) (x.2.1) (x.2.2.1) (x.2.2.2.1) (x.2.2.2.2.1) (x.2.2.2.2.2.1) (x.2.2.2.2.2.2.1) (x.2.2.2.2.2.2.2.1) (x.2.2.2.2.2.2.2.2.1) (x.2.2.2.2.2.2.2.2.2.1) (x.2.2.2.2.2.2.2.2.2.2.1) (x.2.2.2.2.2.2.2.2.2.2.2.1) (x.2.2.2.2.2.2.2.2.2.2.2.2.1) (x.2.2.2.2.2.2.2.2.2.2.2.2.2.1) (x.2.2.2.2.2.2.2.2.2.2.2.2.2.2.1) (x.2.2.2.2.2.2.2.2.2.2.2.2.2.2.2) hx) (fun _ _ => rfl) (fun _ _ => rfl)


def p3B_pre (lim bad : Int) (op sum : Int) (begun last : Bool) (lacks : Int) (bn : Nat) (B : List Value) (left low : Int) (high x at' : Int) (cbad : Bool) (s : ByteArray) : Prop := ((pcode bad lacks begun s == 0) = true ∧ ((op == 1) && (fedP op left low high x at' cbad s).2.2) = true) ∧ p_pr3 lim bad op sum begun last lacks bn B left low high x at' cbad s
def p3B_v (lim bad : Int) (op sum : Int) (begun last : Bool) (lacks : Int) (bn : Nat) (B : List Value) (left low : Int) (high x at' : Int) (cbad : Bool) (s : ByteArray) : Value := .int .i64 1007
def p3B_h (lim bad : Int) (op sum : Int) (begun last : Bool) (lacks : Int) (bn : Nat) (B : List Value) (left low : Int) (high x at' : Int) (cbad : Bool) (s : ByteArray) : Heap := (zhkp2 lim true 1007 op sum begun last lacks (fedP op left low high x at' cbad s).1.1 (fedP op left low high x at' cbad s).1.2.1 (fedP op left low high x at' cbad s).1.2.2.1 (fedP op left low high x at' cbad s).1.2.2.2 (fedP op left low high x at' cbad s).2.1 (fedP op left low high x at' cbad s).2.2 B bn)
theorem p3B_call (lim bad : Int) (op sum : Int) (begun last : Bool) (lacks : Int) (bn : Nat) (B : List Value) (left low : Int) (high x at' : Int) (cbad : Bool) (s : ByteArray) (hp : p3B_pre lim bad op sum begun last lacks bn B left low high x at' cbad s) : CallOk E 14 [.pointer (some ⟨0, 0, none⟩), .string s] (zhkp2 lim true bad op sum begun last lacks left low high x at' cbad B bn) (p3B_v lim bad op sum begun last lacks bn B left low high x at' cbad s) (p3B_h lim bad op sum begun last lacks bn B left low high x at' cbad s) := by
 have w := p3_all lim bad op sum begun last lacks bn B left low high x at' cbad s hp.2
 obtain ⟨c0, c1⟩ := hp.1
 have e1 : p_v3 lim bad op sum begun last lacks bn B left low high x at' cbad s = p3B_v lim bad op sum begun last lacks bn B left low high x at' cbad s := by
  unfold p_v3 p3B_v
  first | rfl | (rw [c0]; simp only [cond_true, cond_false]; rw [c1]; simp only [cond_true, cond_false]) | (rw [c0]; rw [c1]; rfl)
 have e2 : p_h3 lim bad op sum begun last lacks bn B left low high x at' cbad s = p3B_h lim bad op sum begun last lacks bn B left low high x at' cbad s := by
  unfold p_h3 p3B_h
  first | rfl | (rw [c0]; simp only [cond_true, cond_false]; rw [c1]; simp only [cond_true, cond_false]) | (rw [c0]; rw [c1]; rfl)
 rw [e1, e2] at w
 exact w

abbrev p3B_ex := p3T_ex
noncomputable def p3B_k : Ct := kS p3B_ex [.ptr 0 0, .str] [.cells [.int .i64, .boolC true, .int .i64, .int .i64, .int .i64, .ptr 0 5, .sl 1 (some 0) (some 0), .ptr 2 0, .bool, .bool, .int .i64] 51 none, .any 5 (some 1), .cells [.int .i64, .int .u8, .int .u8, .int .i32, .int .i64, .bool] 77 none] (fun (a0, a1, a2, a3, a4, a5, a6, a7, a8, a9, a10, a11, a12, a13, a14, a15) => p3B_pre a0 a1 a2 a3 a4 a5 a6 a7 a8 a9 a10 a11 a12 a13 a14 a15) (fun (a0, a1, a2, a3, a4, a5, a6, a7, a8, a9, a10, a11, a12, a13, a14, a15) => p3B_v a0 a1 a2 a3 a4 a5 a6 a7 a8 a9 a10 a11 a12 a13 a14 a15) (fun (a0, a1, a2, a3, a4, a5, a6, a7, a8, a9, a10, a11, a12, a13, a14, a15) => p3B_h a0 a1 a2 a3 a4 a5 a6 a7 a8 a9 a10 a11 a12 a13 a14 a15)
theorem p3B_k_ok : KFor E 14 p3B_k := kS_ok (fun x hx => p3B_call (x.1) (x.2.1) (x.2.2.1) (x.2.2.2.1) (x.2.2.2.2.1) (x.2.2.2.2.2.1) (x.2.2.2.2.2.2.1) (x.2.2.2.2.2.2.2.1) (x.2.2.2.2.2.2.2.2.1) (x.2.2.2.2.2.2.2.2.2.1) (x.2.2.2.2.2.2.2.2.2.2.1) (x.2.2.2.2.2.2.2.2.2.2.2.1) (x.2.2.2.2.2.2.2.2.2.2.2.2.1) (x.2.2.2.2.2.2.2.2.2.2.2.2.2.1) (x.2.2.2.2.2.2.2.2.2.2.2.2.2.2.1) (x.2.2.2.2.2.2.2.2.2.2.2.2.2.2.2) hx) (fun _ _ => rfl) (fun _ _ => rfl)


def p3F_pre (lim bad : Int) (op sum : Int) (begun last : Bool) (lacks : Int) (bn : Nat) (B : List Value) (left low : Int) (high x at' : Int) (cbad : Bool) (s : ByteArray) : Prop := ((pcode bad lacks begun s == 0) = false) ∧ p_pr3 lim bad op sum begun last lacks bn B left low high x at' cbad s
def p3F_v (lim bad : Int) (op sum : Int) (begun last : Bool) (lacks : Int) (bn : Nat) (B : List Value) (left low : Int) (high x at' : Int) (cbad : Bool) (s : ByteArray) : Value := .int .i64 (pcode bad lacks begun s)
def p3F_h (lim bad : Int) (op sum : Int) (begun last : Bool) (lacks : Int) (bn : Nat) (B : List Value) (left low : Int) (high x at' : Int) (cbad : Bool) (s : ByteArray) : Heap := (zhkp2 lim true (pcode bad lacks begun s) op sum begun last lacks left low high x at' cbad B bn)
theorem p3F_call (lim bad : Int) (op sum : Int) (begun last : Bool) (lacks : Int) (bn : Nat) (B : List Value) (left low : Int) (high x at' : Int) (cbad : Bool) (s : ByteArray) (hp : p3F_pre lim bad op sum begun last lacks bn B left low high x at' cbad s) : CallOk E 14 [.pointer (some ⟨0, 0, none⟩), .string s] (zhkp2 lim true bad op sum begun last lacks left low high x at' cbad B bn) (p3F_v lim bad op sum begun last lacks bn B left low high x at' cbad s) (p3F_h lim bad op sum begun last lacks bn B left low high x at' cbad s) := by
 have w := p3_all lim bad op sum begun last lacks bn B left low high x at' cbad s hp.2
 obtain c0 := hp.1
 have e1 : p_v3 lim bad op sum begun last lacks bn B left low high x at' cbad s = p3F_v lim bad op sum begun last lacks bn B left low high x at' cbad s := by
  unfold p_v3 p3F_v
  first | rfl | (rw [c0]; simp only [cond_true, cond_false]) | (rw [c0]; rfl)
 have e2 : p_h3 lim bad op sum begun last lacks bn B left low high x at' cbad s = p3F_h lim bad op sum begun last lacks bn B left low high x at' cbad s := by
  unfold p_h3 p3F_h
  first | rfl | (rw [c0]; simp only [cond_true, cond_false]) | (rw [c0]; rfl)
 rw [e1, e2] at w
 exact w

abbrev p3F_ex := p3T_ex
noncomputable def p3F_k : Ct := kS p3F_ex [.ptr 0 0, .str] [.cells [.int .i64, .boolC true, .int .i64, .int .i64, .int .i64, .ptr 0 5, .sl 1 (some 0) (some 0), .ptr 2 0, .bool, .bool, .int .i64] 51 none, .any 5 (some 1), .cells [.int .i64, .int .u8, .int .u8, .int .i32, .int .i64, .bool] 77 none] (fun (a0, a1, a2, a3, a4, a5, a6, a7, a8, a9, a10, a11, a12, a13, a14, a15) => p3F_pre a0 a1 a2 a3 a4 a5 a6 a7 a8 a9 a10 a11 a12 a13 a14 a15) (fun (a0, a1, a2, a3, a4, a5, a6, a7, a8, a9, a10, a11, a12, a13, a14, a15) => p3F_v a0 a1 a2 a3 a4 a5 a6 a7 a8 a9 a10 a11 a12 a13 a14 a15) (fun (a0, a1, a2, a3, a4, a5, a6, a7, a8, a9, a10, a11, a12, a13, a14, a15) => p3F_h a0 a1 a2 a3 a4 a5 a6 a7 a8 a9 a10 a11 a12 a13 a14 a15)
theorem p3F_k_ok : KFor E 14 p3F_k := kS_ok (fun x hx => p3F_call (x.1) (x.2.1) (x.2.2.1) (x.2.2.2.1) (x.2.2.2.2.1) (x.2.2.2.2.2.1) (x.2.2.2.2.2.2.1) (x.2.2.2.2.2.2.2.1) (x.2.2.2.2.2.2.2.2.1) (x.2.2.2.2.2.2.2.2.2.1) (x.2.2.2.2.2.2.2.2.2.2.1) (x.2.2.2.2.2.2.2.2.2.2.2.1) (x.2.2.2.2.2.2.2.2.2.2.2.2.1) (x.2.2.2.2.2.2.2.2.2.2.2.2.2.1) (x.2.2.2.2.2.2.2.2.2.2.2.2.2.2.1) (x.2.2.2.2.2.2.2.2.2.2.2.2.2.2.2) hx) (fun _ _ => rfl) (fun _ _ => rfl)


def p1_ask2_ex (a : List Value) (h : Heap) : Bool := (fun x => (decide (slen (x.2.2.2.2.2.2.2.2.2.2.2.2.2) = 0))) (p1S_ex a h)
def p1_ask1_ex (a : List Value) (h : Heap) : Bool := (fun x => (((x.2.2.1) == 1) && (fedP (x.2.2.1) (x.2.2.2.2.2.2.2.1) (x.2.2.2.2.2.2.2.2.1) (x.2.2.2.2.2.2.2.2.2.1) (x.2.2.2.2.2.2.2.2.2.2.1) (x.2.2.2.2.2.2.2.2.2.2.2.1) (x.2.2.2.2.2.2.2.2.2.2.2.2.1) (x.2.2.2.2.2.2.2.2.2.2.2.2.2)).2.2)) (p1S_ex a h)
def p1_ask0_ex (a : List Value) (h : Heap) : Bool := (fun x => (pcode (x.2.1) (x.2.2.2.2.2.2.1) (x.2.2.2.2.1) (x.2.2.2.2.2.2.2.2.2.2.2.2.2) == 0)) (p1S_ex a h)
def p2_ask2_ex (a : List Value) (h : Heap) : Bool := (fun x => (decide (slen (x.2.2.2.2.2.2.2.2.2.2.2.2.2) = 0))) (p2S_ex a h)
def p2_ask1_ex (a : List Value) (h : Heap) : Bool := (fun x => (((x.2.2.1) == 1) && (fedP (x.2.2.1) (x.2.2.2.2.2.2.2.1) (x.2.2.2.2.2.2.2.2.1) (x.2.2.2.2.2.2.2.2.2.1) (x.2.2.2.2.2.2.2.2.2.2.1) (x.2.2.2.2.2.2.2.2.2.2.2.1) (x.2.2.2.2.2.2.2.2.2.2.2.2.1) (x.2.2.2.2.2.2.2.2.2.2.2.2.2)).2.2)) (p2S_ex a h)
def p2_ask0_ex (a : List Value) (h : Heap) : Bool := (fun x => (pcode (x.2.1) (x.2.2.2.2.2.2.1) (x.2.2.2.2.1) (x.2.2.2.2.2.2.2.2.2.2.2.2.2) == 0)) (p2S_ex a h)
def p3_ask1_ex (a : List Value) (h : Heap) : Bool := (fun x => (((x.2.2.1) == 1) && (fedP (x.2.2.1) (x.2.2.2.2.2.2.2.2.2.1) (x.2.2.2.2.2.2.2.2.2.2.1) (x.2.2.2.2.2.2.2.2.2.2.2.1) (x.2.2.2.2.2.2.2.2.2.2.2.2.1) (x.2.2.2.2.2.2.2.2.2.2.2.2.2.1) (x.2.2.2.2.2.2.2.2.2.2.2.2.2.2.1) (x.2.2.2.2.2.2.2.2.2.2.2.2.2.2.2)).2.2)) (p3T_ex a h)
def p3_ask0_ex (a : List Value) (h : Heap) : Bool := (fun x => (pcode (x.2.1) (x.2.2.2.2.2.2.1) (x.2.2.2.2.1) (x.2.2.2.2.2.2.2.2.2.2.2.2.2.2.2) == 0)) (p3T_ex a h)
noncomputable def p_kk : CtD := kOrD (fun _ H => nilP 7 H) (kFin p0F_k) (kOrD (fun _ H => nilP 5 H) (kAsk p1_ask0_ex (kAsk p1_ask1_ex (kFin p1B_k) (kAsk p1_ask2_ex (kFin p1S_k) (kFin p1T_k))) (kFin p1F_k)) (kOrD (fun _ H => nilAt 6 H) (kAsk p2_ask0_ex (kAsk p2_ask1_ex (kFin p2B_k) (kAsk p2_ask2_ex (kFin p2S_k) (kFin p2T_k))) (kFin p2F_k)) (kAsk p3_ask0_ex (kAsk p3_ask1_ex (kFin p3B_k) (kFin p3T_k)) (kFin p3F_k))))
theorem p_kk_ok : KForD E 14 p_kk := kOrD_ok (kFin_ok p0F_k_ok) (kOrD_ok (kAsk_ok (kAsk_ok (kFin_ok p1B_k_ok) (kAsk_ok (kFin_ok p1S_k_ok) (kFin_ok p1T_k_ok))) (kFin_ok p1F_k_ok)) (kOrD_ok (kAsk_ok (kAsk_ok (kFin_ok p2B_k_ok) (kAsk_ok (kFin_ok p2S_k_ok) (kFin_ok p2T_k_ok))) (kFin_ok p2F_k_ok)) (kAsk_ok (kAsk_ok (kFin_ok p3B_k_ok) (kFin_ok p3T_k_ok)) (kFin_ok p3F_k_ok))))

end Go.Proofs.Ytgaedhpeiamdfaa

/-
  A joiner of frames: what End does, as contracts, by the shapes of its memory, and by what comes of it.
-/
set_option linter.unusedVariables false
set_option linter.unusedSimpArgs false
set_option maxRecDepth 10000
open Go Go.Am
namespace Go.Proofs.Ytgaedhpeiamdfaa

def e0F_pre (lim bad : Int) (op sum : Int) (begun last : Bool) (lacks : Int) : Prop := ((ecode bad op lacks 0 begun last false == 0) = false) ∧ e_pr0 lim bad op sum begun last lacks
def e0F_v (lim bad : Int) (op sum : Int) (begun last : Bool) (lacks : Int) : Value := .tuple #[.agg #[.int .i64 0, .string ⟨#[]⟩], .bool false, .int .i64 (ecode bad op lacks 0 begun last false)]
def e0F_h (lim bad : Int) (op sum : Int) (begun last : Bool) (lacks : Int) : Heap := [some (.cells [.int .i64 lim, .bool true, .int .i64 (ecode bad op lacks 0 begun last false), .int .i64 op, .int .i64 sum, .pointer none, .slice none 0 0, .pointer none, .bool begun, .bool last, .int .i64 lacks] 51 none)]
theorem e0F_call (lim bad : Int) (op sum : Int) (begun last : Bool) (lacks : Int) (hp : e0F_pre lim bad op sum begun last lacks) : CallOk E 16 [.pointer (some ⟨0, 0, none⟩)] [some (.cells [.int .i64 lim, .bool true, .int .i64 bad, .int .i64 op, .int .i64 sum, .pointer none, .slice none 0 0, .pointer none, .bool begun, .bool last, .int .i64 lacks] 51 none)] (e0F_v lim bad op sum begun last lacks) (e0F_h lim bad op sum begun last lacks) := by
 have w := e0_all lim bad op sum begun last lacks hp.2
 obtain c0 := hp.1
 have e1 : e_v0 lim bad op sum begun last lacks = e0F_v lim bad op sum begun last lacks := by
  unfold e_v0 e0F_v
  first | rfl | (rw [c0]; simp only [cond_true, cond_false]) | (rw [c0]; rfl)
 have e2 : e_h0 lim bad op sum begun last lacks = e0F_h lim bad op sum begun last lacks := by
  unfold e_h0 e0F_h
  first | rfl | (rw [c0]; simp only [cond_true, cond_false]) | (rw [c0]; rfl)
 rw [e1, e2] at w
 exact w

def e0F_ex (a : List Value) (h : Heap) : Int × Int × Int × Int × Bool × Bool × Int := ((toInt ((cellsOf h 0).getD 0 undef)), (toInt ((cellsOf h 0).getD 2 undef)), (toInt ((cellsOf h 0).getD 3 undef)), (toInt ((cellsOf h 0).getD 4 undef)), (toBool ((cellsOf h 0).getD 8 undef)), (toBool ((cellsOf h 0).getD 9 undef)), (toInt ((cellsOf h 0).getD 10 undef)))
noncomputable def e0F_k : Ct := kS e0F_ex [.ptr 0 0] [.cells [.int .i64, .boolC true, .int .i64, .int .i64, .int .i64, .nilP, .nilS, .nilP, .bool, .bool, .int .i64] 51 none] (fun (a0, a1, a2, a3, a4, a5, a6) => e0F_pre a0 a1 a2 a3 a4 a5 a6) (fun (a0, a1, a2, a3, a4, a5, a6) => e0F_v a0 a1 a2 a3 a4 a5 a6) (fun (a0, a1, a2, a3, a4, a5, a6) => e0F_h a0 a1 a2 a3 a4 a5 a6)
theorem e0F_k_ok : KFor E 16 e0F_k := kS_ok (fun x hx => e0F_call (x.1) (x.2.1) (x.2.2.1) (x.2.2.2.1) (x.2.2.2.2.1) (x.2.2.2.2.2.1) (x.2.2.2.2.2.2) hx) (fun _ _ => rfl) (fun _ _ => rfl)


def e1W_pre (lim bad : Int) (op sum : Int) (begun last : Bool) (lacks left : Int) (low high : Int) (x at' : Int) (cbad : Bool) : Prop := ((ecode bad op lacks left begun last cbad == 0) = true ∧ last = true) ∧ e_pr1 lim bad op sum begun last lacks left low high x at' cbad
def e1W_v (lim bad : Int) (op sum : Int) (begun last : Bool) (lacks left : Int) (low high : Int) (x at' : Int) (cbad : Bool) : Value := .tuple #[.agg #[.int .i64 op, .string ⟨#[]⟩], .bool true, .int .i64 0]
abbrev zhke0 (v0 : Int) (v1 : Bool) (v2 : Int) (v3 : Int) (v4 : Int) (v5 : Bool) (v6 : Bool) (v7 : Int) (v8 : Int) (v9 : Int) (v10 : Int) (v11 : Int) (v12 : Int) (v13 : Bool) : Heap := [some (.cells [.int .i64 v0, .bool v1, .int .i64 v2, .int .i64 v3, .int .i64 v4, .pointer none, .slice none 0 0, .pointer (some ⟨1, 0, none⟩), .bool v5, .bool v6, .int .i64 v7] 51 none), some (.cells [.int .i64 v8, .int .u8 v9, .int .u8 v10, .int .i32 v11, .int .i64 v12, .bool v13] 77 none)]
def e1W_h (lim bad : Int) (op sum : Int) (begun last : Bool) (lacks left : Int) (low high : Int) (x at' : Int) (cbad : Bool) : Heap := (zhke0 lim true bad 0 0 false last lacks left low high x at' cbad)
theorem e1W_call (lim bad : Int) (op sum : Int) (begun last : Bool) (lacks left : Int) (low high : Int) (x at' : Int) (cbad : Bool) (hp : e1W_pre lim bad op sum begun last lacks left low high x at' cbad) : CallOk E 16 [.pointer (some ⟨0, 0, none⟩)] (zhke0 lim true bad op sum begun last lacks left low high x at' cbad) (e1W_v lim bad op sum begun last lacks left low high x at' cbad) (e1W_h lim bad op sum begun last lacks left low high x at' cbad) := by
 have w := e1_all lim bad op sum begun last lacks left low high x at' cbad hp.2
 obtain ⟨c0, c1⟩ := hp.1
 have e1 : e_v1 lim bad op sum begun last lacks left low high x at' cbad = e1W_v lim bad op sum begun last lacks left low high x at' cbad := by
  unfold e_v1 e1W_v
  first | rfl | (rw [c0]; simp only [cond_true, cond_false]; rw [c1]; simp only [cond_true, cond_false]) | (rw [c0]; rw [c1]; rfl)
 have e2 : e_h1 lim bad op sum begun last lacks left low high x at' cbad = e1W_h lim bad op sum begun last lacks left low high x at' cbad := by
  unfold e_h1 e1W_h
  first | rfl | (rw [c0]; simp only [cond_true, cond_false]; rw [c1]; simp only [cond_true, cond_false]) | (rw [c0]; rw [c1]; rfl)
 rw [e1, e2] at w
 exact w

def e1W_ex (a : List Value) (h : Heap) : Int × Int × Int × Int × Bool × Bool × Int × Int × Int × Int × Int × Int × Bool := ((toInt ((cellsOf h 0).getD 0 undef)), (toInt ((cellsOf h 0).getD 2 undef)), (toInt ((cellsOf h 0).getD 3 undef)), (toInt ((cellsOf h 0).getD 4 undef)), (toBool ((cellsOf h 0).getD 8 undef)), (toBool ((cellsOf h 0).getD 9 undef)), (toInt ((cellsOf h 0).getD 10 undef)), (toInt ((cellsOf h 1).getD 0 undef)), (toInt ((cellsOf h 1).getD 1 undef)), (toInt ((cellsOf h 1).getD 2 undef)), (toInt ((cellsOf h 1).getD 3 undef)), (toInt ((cellsOf h 1).getD 4 undef)), (toBool ((cellsOf h 1).getD 5 undef)))
noncomputable def e1W_k : Ct := kS e1W_ex [.ptr 0 0] [.cells [.int .i64, .boolC true, .int .i64, .int .i64, .int .i64, .nilP, .nilS, .ptr 1 0, .bool, .bool, .int .i64] 51 none, .cells [.int .i64, .int .u8, .int .u8, .int .i32, .int .i64, .bool] 77 none] (fun (a0, a1, a2, a3, a4, a5, a6, a7, a8, a9, a10, a11, a12) => e1W_pre a0 a1 a2 a3 a4 a5 a6 a7 a8 a9 a10 a11 a12) (fun (a0, a1, a2, a3, a4, a5, a6, a7, a8, a9, a10, a11, a12) => e1W_v a0 a1 a2 a3 a4 a5 a6 a7 a8 a9 a10 a11 a12) (fun (a0, a1, a2, a3, a4, a5, a6, a7, a8, a9, a10, a11, a12) => e1W_h a0 a1 a2 a3 a4 a5 a6 a7 a8 a9 a10 a11 a12)
theorem e1W_k_ok : KFor E 16 e1W_k := kS_ok (fun x hx => e1W_call (x.1) (x.2.1) (x.2.2.1) (x.2.2.2.1) (x.2.2.2.2.1) (x.2.2.2.2.2.1) (x.2.2.2.2.2.2.1) (x.2.2.2.2.2.2.2.1) (x.2.2.2.2.2.2.2.2.1) (x.2.2.2.2.2.2.2.2.2.1) (x.2.2.2.2.2.2.2.2.2.2.1) (x.2.2.2.2.2.2.2.2.2.2.2.1) (x.2.2.2.2.2.2.2.2.2.2.2.2) hx) (fun _ _ => rfl) (fun _ _ => rfl)


def e1M_pre (lim bad : Int) (op sum : Int) (begun last : Bool) (lacks left : Int) (low high : Int) (x at' : Int) (cbad : Bool) : Prop := ((ecode bad op lacks left begun last cbad == 0) = true ∧ last = false) ∧ e_pr1 lim bad op sum begun last lacks left low high x at' cbad
def e1M_v (lim bad : Int) (op sum : Int) (begun last : Bool) (lacks left : Int) (low high : Int) (x at' : Int) (cbad : Bool) : Value := .tuple #[.agg #[.int .i64 0, .string ⟨#[]⟩], .bool false, .int .i64 0]
def e1M_h (lim bad : Int) (op sum : Int) (begun last : Bool) (lacks left : Int) (low high : Int) (x at' : Int) (cbad : Bool) : Heap := (zhke0 lim true bad op sum false last lacks left low high x at' cbad)
theorem e1M_call (lim bad : Int) (op sum : Int) (begun last : Bool) (lacks left : Int) (low high : Int) (x at' : Int) (cbad : Bool) (hp : e1M_pre lim bad op sum begun last lacks left low high x at' cbad) : CallOk E 16 [.pointer (some ⟨0, 0, none⟩)] (zhke0 lim true bad op sum begun last lacks left low high x at' cbad) (e1M_v lim bad op sum begun last lacks left low high x at' cbad) (e1M_h lim bad op sum begun last lacks left low high x at' cbad) := by
 have w := e1_all lim bad op sum begun last lacks left low high x at' cbad hp.2
 obtain ⟨c0, c1⟩ := hp.1
 have e1 : e_v1 lim bad op sum begun last lacks left low high x at' cbad = e1M_v lim bad op sum begun last lacks left low high x at' cbad := by
  unfold e_v1 e1M_v
  first | rfl | (rw [c0]; simp only [cond_true, cond_false]; rw [c1]; simp only [cond_true, cond_false]) | (rw [c0]; rw [c1]; rfl)
 have e2 : e_h1 lim bad op sum begun last lacks left low high x at' cbad = e1M_h lim bad op sum begun last lacks left low high x at' cbad := by
  unfold e_h1 e1M_h
  first | rfl | (rw [c0]; simp only [cond_true, cond_false]; rw [c1]; simp only [cond_true, cond_false]) | (rw [c0]; rw [c1]; rfl)
 rw [e1, e2] at w
 exact w

abbrev e1M_ex := e1W_ex
noncomputable def e1M_k : Ct := kS e1M_ex [.ptr 0 0] [.cells [.int .i64, .boolC true, .int .i64, .int .i64, .int .i64, .nilP, .nilS, .ptr 1 0, .bool, .bool, .int .i64] 51 none, .cells [.int .i64, .int .u8, .int .u8, .int .i32, .int .i64, .bool] 77 none] (fun (a0, a1, a2, a3, a4, a5, a6, a7, a8, a9, a10, a11, a12) => e1M_pre a0 a1 a2 a3 a4 a5 a6 a7 a8 a9 a10 a11 a12) (fun (a0, a1, a2, a3, a4, a5, a6, a7, a8, a9, a10, a11, a12) => e1M_v a0 a1 a2 a3 a4 a5 a6 a7 a8 a9 a10 a11 a12) (fun (a0, a1, a2, a3, a4, a5, a6, a7, a8, a9, a10, a11, a12) => e1M_h a0 a1 a2 a3 a4 a5 a6 a7 a8 a9 a10 a11 a12)
theorem e1M_k_ok : KFor E 16 e1M_k := kS_ok (fun x hx => e1M_call (x.1) (x.2.1) (x.2.2.1) (x.2.2.2.1) (x.2.2.2.2.1) (x.2.2.2.2.2.1) (x.2.2.2.2.2.2.1) (x.2.2.2.2.2.2.2.1) (x.2.2.2.2.2.2.2.2.1) (x.2.2.2.2.2.2.2.2.2.1) (x.2.2.2.2.2.2.2.2.2.2.1) (x.2.2.2.2.2.2.2.2.2.2.2.1) (x.2.2.2.2.2.2.2.2.2.2.2.2) hx) (fun _ _ => rfl) (fun _ _ => rfl)


def e1F_pre (lim bad : Int) (op sum : Int) (begun last : Bool) (lacks left : Int) (low high : Int) (x at' : Int) (cbad : Bool) : Prop := ((ecode bad op lacks left begun last cbad == 0) = false) ∧ e_pr1 lim bad op sum begun last lacks left low high x at' cbad
def e1F_v (lim bad : Int) (op sum : Int) (begun last : Bool) (lacks left : Int) (low high : Int) (x at' : Int) (cbad : Bool) : Value := .tuple #[.agg #[.int .i64 0, .string ⟨#[]⟩], .bool false, .int .i64 (ecode bad op lacks left begun last cbad)]
def e1F_h (lim bad : Int) (op sum : Int) (begun last : Bool) (lacks left : Int) (low high : Int) (x at' : Int) (cbad : Bool) : Heap := (zhke0 lim true (ecode bad op lacks left begun last cbad) op sum begun last lacks left low high x at' cbad)
theorem e1F_call (lim bad : Int) (op sum : Int) (begun last : Bool) (lacks left : Int) (low high : Int) (x at' : Int) (cbad : Bool) (hp : e1F_pre lim bad op sum begun last lacks left low high x at' cbad) : CallOk E 16 [.pointer (some ⟨0, 0, none⟩)] (zhke0 lim true bad op sum begun last lacks left low high x at' cbad) (e1F_v lim bad op sum begun last lacks left low high x at' cbad) (e1F_h lim bad op sum begun last lacks left low high x at' cbad) := by
 have w := e1_all lim bad op sum begun last lacks left low high x at' cbad hp.2
 obtain c0 := hp.1
 have e1 : e_v1 lim bad op sum begun last lacks left low high x at' cbad = e1F_v lim bad op sum begun last lacks left low high x at' cbad := by
  unfold e_v1 e1F_v
  first | rfl | (rw [c0]; simp only [cond_true, cond_false]) | (rw [c0]; rfl)
 have e2 : e_h1 lim bad op sum begun last lacks left low high x at' cbad = e1F_h lim bad op sum begun last lacks left low high x at' cbad := by
  unfold e_h1 e1F_h
  first | rfl | (rw [c0]; simp only [cond_true, cond_false]) | (rw [c0]; rfl)
 rw [e1, e2] at w
 exact w

abbrev e1F_ex := e1W_ex
noncomputable def e1F_k : Ct := kS e1F_ex [.ptr 0 0] [.cells [.int .i64, .boolC true, .int .i64, .int .i64, .int .i64, .nilP, .nilS, .ptr 1 0, .bool, .bool, .int .i64] 51 none, .cells [.int .i64, .int .u8, .int .u8, .int .i32, .int .i64, .bool] 77 none] (fun (a0, a1, a2, a3, a4, a5, a6, a7, a8, a9, a10, a11, a12) => e1F_pre a0 a1 a2 a3 a4 a5 a6 a7 a8 a9 a10 a11 a12) (fun (a0, a1, a2, a3, a4, a5, a6, a7, a8, a9, a10, a11, a12) => e1F_v a0 a1 a2 a3 a4 a5 a6 a7 a8 a9 a10 a11 a12) (fun (a0, a1, a2, a3, a4, a5, a6, a7, a8, a9, a10, a11, a12) => e1F_h a0 a1 a2 a3 a4 a5 a6 a7 a8 a9 a10 a11 a12)
theorem e1F_k_ok : KFor E 16 e1F_k := kS_ok (fun x hx => e1F_call (x.1) (x.2.1) (x.2.2.1) (x.2.2.2.1) (x.2.2.2.2.1) (x.2.2.2.2.2.1) (x.2.2.2.2.2.2.1) (x.2.2.2.2.2.2.2.1) (x.2.2.2.2.2.2.2.2.1) (x.2.2.2.2.2.2.2.2.2.1) (x.2.2.2.2.2.2.2.2.2.2.1) (x.2.2.2.2.2.2.2.2.2.2.2.1) (x.2.2.2.2.2.2.2.2.2.2.2.2) hx) (fun _ _ => rfl) (fun _ _ => rfl)


def e2W_pre (lim bad : Int) (op sum : Int) (begun last : Bool) (lacks left : Int) (low high : Int) (x at' : Int) (cbad : Bool) : Prop := ((ecode bad op lacks left begun last cbad == 0) = true ∧ last = true) ∧ e_pr2 lim bad op sum begun last lacks left low high x at' cbad
def e2W_v (lim bad : Int) (op sum : Int) (begun last : Bool) (lacks left : Int) (low high : Int) (x at' : Int) (cbad : Bool) : Value := .tuple #[.agg #[.int .i64 op, .string ⟨#[]⟩], .bool true, .int .i64 0]
def e2W_h (lim bad : Int) (op sum : Int) (begun last : Bool) (lacks left : Int) (low high : Int) (x at' : Int) (cbad : Bool) : Heap := (zhke0 lim true bad 0 0 false last lacks left low high x at' cbad)
abbrev zhke1 (v0 : Int) (v1 : Bool) (v2 : Int) (v3 : Int) (v4 : Int) (v5 : Bool) (v6 : Bool) (v7 : Int) (v8 : Int) (v9 : Int) (v10 : Int) (v11 : Int) (v12 : Int) (v13 : Bool) : Heap := [some (.cells [.int .i64 v0, .bool v1, .int .i64 v2, .int .i64 v3, .int .i64 v4, .pointer (some ⟨0, 5, none⟩), .slice none 0 0, .pointer (some ⟨1, 0, none⟩), .bool v5, .bool v6, .int .i64 v7] 51 none), some (.cells [.int .i64 v8, .int .u8 v9, .int .u8 v10, .int .i32 v11, .int .i64 v12, .bool v13] 77 none)]
theorem e2W_call (lim bad : Int) (op sum : Int) (begun last : Bool) (lacks left : Int) (low high : Int) (x at' : Int) (cbad : Bool) (hp : e2W_pre lim bad op sum begun last lacks left low high x at' cbad) : CallOk E 16 [.pointer (some ⟨0, 0, none⟩)] (zhke1 lim true bad op sum begun last lacks left low high x at' cbad) (e2W_v lim bad op sum begun last lacks left low high x at' cbad) (e2W_h lim bad op sum begun last lacks left low high x at' cbad) := by
 have w := e2_all lim bad op sum begun last lacks left low high x at' cbad hp.2
 obtain ⟨c0, c1⟩ := hp.1
 have e1 : e_v2 lim bad op sum begun last lacks left low high x at' cbad = e2W_v lim bad op sum begun last lacks left low high x at' cbad := by
  unfold e_v2 e2W_v
  first | rfl | (rw [c0]; simp only [cond_true, cond_false]; rw [c1]; simp only [cond_true, cond_false]) | (rw [c0]; rw [c1]; rfl)
 have e2 : e_h2 lim bad op sum begun last lacks left low high x at' cbad = e2W_h lim bad op sum begun last lacks left low high x at' cbad := by
  unfold e_h2 e2W_h
  first | rfl | (rw [c0]; simp only [cond_true, cond_false]; rw [c1]; simp only [cond_true, cond_false]) | (rw [c0]; rw [c1]; rfl)
 rw [e1, e2] at w
 exact w

abbrev e2W_ex := e1W_ex
noncomputable def e2W_k : Ct := kS e2W_ex [.ptr 0 0] [.cells [.int .i64, .boolC true, .int .i64, .int .i64, .int .i64, .ptr 0 5, .nilS, .ptr 1 0, .bool, .bool, .int .i64] 51 none, .cells [.int .i64, .int .u8, .int .u8, .int .i32, .int .i64, .bool] 77 none] (fun (a0, a1, a2, a3, a4, a5, a6, a7, a8, a9, a10, a11, a12) => e2W_pre a0 a1 a2 a3 a4 a5 a6 a7 a8 a9 a10 a11 a12) (fun (a0, a1, a2, a3, a4, a5, a6, a7, a8, a9, a10, a11, a12) => e2W_v a0 a1 a2 a3 a4 a5 a6 a7 a8 a9 a10 a11 a12) (fun (a0, a1, a2, a3, a4, a5, a6, a7, a8, a9, a10, a11, a12) => e2W_h a0 a1 a2 a3 a4 a5 a6 a7 a8 a9 a10 a11 a12)
theorem e2W_k_ok : KFor E 16 e2W_k := kS_ok (fun x hx => e2W_call (x.1) (x.2.1) (x.2.2.1) (x.2.2.2.1) (x.2.2.2.2.1) (x.2.2.2.2.2.1) (x.2.2.2.2.2.2.1) (x.2.2.2.2.2.2.2.1) (x.2.2.2.2.2.2.2.2.1) (x.2.2.2.2.2.2.2.2.2.1) (x.2.2.2.2.2.2.2.2.2.2.1) (x.2.2.2.2.2.2.2.2.2.2.2.1) (x.2.2.2.2.2.2.2.2.2.2.2.2) hx) (fun _ _ => rfl) (fun _ _ => rfl)


def e2M_pre (lim bad : Int) (op sum : Int) (begun last : Bool) (lacks left : Int) (low high : Int) (x at' : Int) (cbad : Bool) : Prop := ((ecode bad op lacks left begun last cbad == 0) = true ∧ last = false) ∧ e_pr2 lim bad op sum begun last lacks left low high x at' cbad
def e2M_v (lim bad : Int) (op sum : Int) (begun last : Bool) (lacks left : Int) (low high : Int) (x at' : Int) (cbad : Bool) : Value := .tuple #[.agg #[.int .i64 0, .string ⟨#[]⟩], .bool false, .int .i64 0]
def e2M_h (lim bad : Int) (op sum : Int) (begun last : Bool) (lacks left : Int) (low high : Int) (x at' : Int) (cbad : Bool) : Heap := (zhke1 lim true bad op sum false last lacks left low high x at' cbad)
theorem e2M_call (lim bad : Int) (op sum : Int) (begun last : Bool) (lacks left : Int) (low high : Int) (x at' : Int) (cbad : Bool) (hp : e2M_pre lim bad op sum begun last lacks left low high x at' cbad) : CallOk E 16 [.pointer (some ⟨0, 0, none⟩)] (zhke1 lim true bad op sum begun last lacks left low high x at' cbad) (e2M_v lim bad op sum begun last lacks left low high x at' cbad) (e2M_h lim bad op sum begun last lacks left low high x at' cbad) := by
 have w := e2_all lim bad op sum begun last lacks left low high x at' cbad hp.2
 obtain ⟨c0, c1⟩ := hp.1
 have e1 : e_v2 lim bad op sum begun last lacks left low high x at' cbad = e2M_v lim bad op sum begun last lacks left low high x at' cbad := by
  unfold e_v2 e2M_v
  first | rfl | (rw [c0]; simp only [cond_true, cond_false]; rw [c1]; simp only [cond_true, cond_false]) | (rw [c0]; rw [c1]; rfl)
 have e2 : e_h2 lim bad op sum begun last lacks left low high x at' cbad = e2M_h lim bad op sum begun last lacks left low high x at' cbad := by
  unfold e_h2 e2M_h
  first | rfl | (rw [c0]; simp only [cond_true, cond_false]; rw [c1]; simp only [cond_true, cond_false]) | (rw [c0]; rw [c1]; rfl)
 rw [e1, e2] at w
 exact w

abbrev e2M_ex := e1W_ex
noncomputable def e2M_k : Ct := kS e2M_ex [.ptr 0 0] [.cells [.int .i64, .boolC true, .int .i64, .int .i64, .int .i64, .ptr 0 5, .nilS, .ptr 1 0, .bool, .bool, .int .i64] 51 none, .cells [.int .i64, .int .u8, .int .u8, .int .i32, .int .i64, .bool] 77 none] (fun (a0, a1, a2, a3, a4, a5, a6, a7, a8, a9, a10, a11, a12) => e2M_pre a0 a1 a2 a3 a4 a5 a6 a7 a8 a9 a10 a11 a12) (fun (a0, a1, a2, a3, a4, a5, a6, a7, a8, a9, a10, a11, a12) => e2M_v a0 a1 a2 a3 a4 a5 a6 a7 a8 a9 a10 a11 a12) (fun (a0, a1, a2, a3, a4, a5, a6, a7, a8, a9, a10, a11, a12) => e2M_h a0 a1 a2 a3 a4 a5 a6 a7 a8 a9 a10 a11 a12)
theorem e2M_k_ok : KFor E 16 e2M_k := kS_ok (fun x hx => e2M_call (x.1) (x.2.1) (x.2.2.1) (x.2.2.2.1) (x.2.2.2.2.1) (x.2.2.2.2.2.1) (x.2.2.2.2.2.2.1) (x.2.2.2.2.2.2.2.1) (x.2.2.2.2.2.2.2.2.1) (x.2.2.2.2.2.2.2.2.2.1) (x.2.2.2.2.2.2.2.2.2.2.1) (x.2.2.2.2.2.2.2.2.2.2.2.1) (x.2.2.2.2.2.2.2.2.2.2.2.2) hx) (fun _ _ => rfl) (fun _ _ => rfl)


def e2F_pre (lim bad : Int) (op sum : Int) (begun last : Bool) (lacks left : Int) (low high : Int) (x at' : Int) (cbad : Bool) : Prop := ((ecode bad op lacks left begun last cbad == 0) = false) ∧ e_pr2 lim bad op sum begun last lacks left low high x at' cbad
def e2F_v (lim bad : Int) (op sum : Int) (begun last : Bool) (lacks left : Int) (low high : Int) (x at' : Int) (cbad : Bool) : Value := .tuple #[.agg #[.int .i64 0, .string ⟨#[]⟩], .bool false, .int .i64 (ecode bad op lacks left begun last cbad)]
def e2F_h (lim bad : Int) (op sum : Int) (begun last : Bool) (lacks left : Int) (low high : Int) (x at' : Int) (cbad : Bool) : Heap := (zhke1 lim true (ecode bad op lacks left begun last cbad) op sum begun last lacks left low high x at' cbad)
theorem e2F_call (lim bad : Int) (op sum : Int) (begun last : Bool) (lacks left : Int) (low high : Int) (x at' : Int) (cbad : Bool) (hp : e2F_pre lim bad op sum begun last lacks left low high x at' cbad) : CallOk E 16 [.pointer (some ⟨0, 0, none⟩)] (zhke1 lim true bad op sum begun last lacks left low high x at' cbad) (e2F_v lim bad op sum begun last lacks left low high x at' cbad) (e2F_h lim bad op sum begun last lacks left low high x at' cbad) := by
 have w := e2_all lim bad op sum begun last lacks left low high x at' cbad hp.2
 obtain c0 := hp.1
 have e1 : e_v2 lim bad op sum begun last lacks left low high x at' cbad = e2F_v lim bad op sum begun last lacks left low high x at' cbad := by
  unfold e_v2 e2F_v
  first | rfl | (rw [c0]; simp only [cond_true, cond_false]) | (rw [c0]; rfl)
 have e2 : e_h2 lim bad op sum begun last lacks left low high x at' cbad = e2F_h lim bad op sum begun last lacks left low high x at' cbad := by
  unfold e_h2 e2F_h
  first | rfl | (rw [c0]; simp only [cond_true, cond_false]) | (rw [c0]; rfl)
 rw [e1, e2] at w
 exact w

abbrev e2F_ex := e1W_ex
noncomputable def e2F_k : Ct := kS e2F_ex [.ptr 0 0] [.cells [.int .i64, .boolC true, .int .i64, .int .i64, .int .i64, .ptr 0 5, .nilS, .ptr 1 0, .bool, .bool, .int .i64] 51 none, .cells [.int .i64, .int .u8, .int .u8, .int .i32, .int .i64, .bool] 77 none] (fun (a0, a1, a2, a3, a4, a5, a6, a7, a8, a9, a10, a11, a12) => e2F_pre a0 a1 a2 a3 a4 a5 a6 a7 a8 a9 a10 a11 a12) (fun (a0, a1, a2, a3, a4, a5, a6, a7, a8, a9, a10, a11, a12) => e2F_v a0 a1 a2 a3 a4 a5 a6 a7 a8 a9 a10 a11 a12) (fun (a0, a1, a2, a3, a4, a5, a6, a7, a8, a9, a10, a11, a12) => e2F_h a0 a1 a2 a3 a4 a5 a6 a7 a8 a9 a10 a11 a12)
theorem e2F_k_ok : KFor E 16 e2F_k := kS_ok (fun x hx => e2F_call (x.1) (x.2.1) (x.2.2.1) (x.2.2.2.1) (x.2.2.2.2.1) (x.2.2.2.2.2.1) (x.2.2.2.2.2.2.1) (x.2.2.2.2.2.2.2.1) (x.2.2.2.2.2.2.2.2.1) (x.2.2.2.2.2.2.2.2.2.1) (x.2.2.2.2.2.2.2.2.2.2.1) (x.2.2.2.2.2.2.2.2.2.2.2.1) (x.2.2.2.2.2.2.2.2.2.2.2.2) hx) (fun _ _ => rfl) (fun _ _ => rfl)


def e3W_pre (lim bad : Int) (op sum : Int) (begun last : Bool) (lacks : Int) (bn : Nat) (B : List Value) (left low : Int) (high x at' : Int) (cbad : Bool) : Prop := ((ecode bad op lacks left begun last cbad == 0) = true ∧ last = true) ∧ e_pr3 lim bad op sum begun last lacks bn B left low high x at' cbad
def e3W_v (lim bad : Int) (op sum : Int) (begun last : Bool) (lacks : Int) (bn : Nat) (B : List Value) (left low : Int) (high x at' : Int) (cbad : Bool) : Value := .tuple #[.agg #[.int .i64 op, .string (bytesOf B)], .bool true, .int .i64 0]
def e3W_h (lim bad : Int) (op sum : Int) (begun last : Bool) (lacks : Int) (bn : Nat) (B : List Value) (left low : Int) (high x at' : Int) (cbad : Bool) : Heap := [some (.cells [.int .i64 lim, .bool true, .int .i64 bad, .int .i64 0, .int .i64 0, .pointer none, .slice none 0 0, .pointer (some ⟨2, 0, none⟩), .bool false, .bool last, .int .i64 lacks] 51 none), none, some (.cells [.int .i64 left, .int .u8 low, .int .u8 high, .int .i32 x, .int .i64 at', .bool cbad] 77 none)]
abbrev zhke2 (v0 : Int) (v1 : Bool) (v2 : Int) (v3 : Int) (v4 : Int) (v5 : Bool) (v6 : Bool) (v7 : Int) (v8 : Int) (v9 : Int) (v10 : Int) (v11 : Int) (v12 : Int) (v13 : Bool) (B : List Value) (bn : Nat) : Heap := [some (.cells [.int .i64 v0, .bool v1, .int .i64 v2, .int .i64 v3, .int .i64 v4, .pointer (some ⟨0, 5, none⟩), .slice (some ⟨1, 0, none⟩) bn 0, .pointer (some ⟨2, 0, none⟩), .bool v5, .bool v6, .int .i64 v7] 51 none), some (.cells B 5 (some 1)), some (.cells [.int .i64 v8, .int .u8 v9, .int .u8 v10, .int .i32 v11, .int .i64 v12, .bool v13] 77 none)]
theorem e3W_call (lim bad : Int) (op sum : Int) (begun last : Bool) (lacks : Int) (bn : Nat) (B : List Value) (left low : Int) (high x at' : Int) (cbad : Bool) (hp : e3W_pre lim bad op sum begun last lacks bn B left low high x at' cbad) : CallOk E 16 [.pointer (some ⟨0, 0, none⟩)] (zhke2 lim true bad op sum begun last lacks left low high x at' cbad B bn) (e3W_v lim bad op sum begun last lacks bn B left low high x at' cbad) (e3W_h lim bad op sum begun last lacks bn B left low high x at' cbad) := by
 have w := e3_all lim bad op sum begun last lacks bn B left low high x at' cbad hp.2
 obtain ⟨c0, c1⟩ := hp.1
 have e1 : e_v3 lim bad op sum begun last lacks bn B left low high x at' cbad = e3W_v lim bad op sum begun last lacks bn B left low high x at' cbad := by
  unfold e_v3 e3W_v
  first | rfl | (rw [c0]; simp only [cond_true, cond_false]; rw [c1]; simp only [cond_true, cond_false]) | (rw [c0]; rw [c1]; rfl)
 have e2 : e_h3 lim bad op sum begun last lacks bn B left low high x at' cbad = e3W_h lim bad op sum begun last lacks bn B left low high x at' cbad := by
  unfold e_h3 e3W_h
  first | rfl | (rw [c0]; simp only [cond_true, cond_false]; rw [c1]; simp only [cond_true, cond_false]) | (rw [c0]; rw [c1]; rfl)
 rw [e1, e2] at w
 exact w

def e3W_ex (a : List Value) (h : Heap) : Int × Int × Int × Int × Bool × Bool × Int × Nat × List Value × Int × Int × Int × Int × Int × Bool := ((toInt ((cellsOf h 0).getD 0 undef)), (toInt ((cellsOf h 0).getD 2 undef)), (toInt ((cellsOf h 0).getD 3 undef)), (toInt ((cellsOf h 0).getD 4 undef)), (toBool ((cellsOf h 0).getD 8 undef)), (toBool ((cellsOf h 0).getD 9 undef)), (toInt ((cellsOf h 0).getD 10 undef)), (sliceLen ((cellsOf h 0).getD 6 undef)), (cellsOf h 1), (toInt ((cellsOf h 2).getD 0 undef)), (toInt ((cellsOf h 2).getD 1 undef)), (toInt ((cellsOf h 2).getD 2 undef)), (toInt ((cellsOf h 2).getD 3 undef)), (toInt ((cellsOf h 2).getD 4 undef)), (toBool ((cellsOf h 2).getD 5 undef)))
noncomputable def e3W_k : Ct := kS e3W_ex [.ptr 0 0] [.cells [.int .i64, .boolC true, .int .i64, .int .i64, .int .i64, .ptr 0 5, .sl 1 (some 0) (some 0), .ptr 2 0, .bool, .bool, .int .i64] 51 none, .any 5 (some 1), .cells [.int .i64, .int .u8, .int .u8, .int .i32, .int .i64, .bool] 77 none] (fun (a0, a1, a2, a3, a4, a5, a6, a7, a8, a9, a10, a11, a12, a13, a14) => e3W_pre a0 a1 a2 a3 a4 a5 a6 a7 a8 a9 a10 a11 a12 a13 a14) (fun (a0, a1, a2, a3, a4, a5, a6, a7, a8, a9, a10, a11, a12, a13, a14) => e3W_v a0 a1 a2 a3 a4 a5 a6 a7 a8 a9 a10 a11 a12 a13 a14) (fun (a0, a1, a2, a3, a4, a5, a6, a7, a8, a9, a10, a11, a12, a13, a14) => e3W_h a0 a1 a2 a3 a4 a5 a6 a7 a8 a9 a10 a11 a12 a13 a14)
theorem e3W_k_ok : KFor E 16 e3W_k := kS_ok (fun x hx => e3W_call (x.1) (x.2.1) (x.2.2.1) (x.2.2.2.1) (x.2.2.2.2.1) (x.2.2.2.2.2.1) (x.2.2.2.2.2.2.1) (x.2.2.2.2.2.2.2.1) (x.2.2.2.2.2.2.2.2.1) (x.2.2.2.2.2.2.2.2.2.1) (x.2.2.2.2.2.2.2.2.2.2.1) (x.2.2.2.2.2.2.2.2.2.2.2.1) (x.2.2.2.2.2.2.2.2.2.2.2.2.1) (x.2.2.2.2.2.2.2.2.2.2.2.2.2.1) (x.2.2.2.2.2.2.2.2.2.2.2.2.2.2) hx) (fun _ _ => rfl) (fun _ _ => rfl)


def e3M_pre (lim bad : Int) (op sum : Int) (begun last : Bool) (lacks : Int) (bn : Nat) (B : List Value) (left low : Int) (high x at' : Int) (cbad : Bool) : Prop := ((ecode bad op lacks left begun last cbad == 0) = true ∧ last = false) ∧ e_pr3 lim bad op sum begun last lacks bn B left low high x at' cbad
def e3M_v (lim bad : Int) (op sum : Int) (begun last : Bool) (lacks : Int) (bn : Nat) (B : List Value) (left low : Int) (high x at' : Int) (cbad : Bool) : Value := .tuple #[.agg #[.int .i64 0, .string ⟨#[]⟩], .bool false, .int .i64 0]
def e3M_h (lim bad : Int) (op sum : Int) (begun last : Bool) (lacks : Int) (bn : Nat) (B : List Value) (left low : Int) (high x at' : Int) (cbad : Bool) : Heap := (zhke2 lim true bad op sum false last lacks left low high x at' cbad B bn)
theorem e3M_call (lim bad : Int) (op sum : Int) (begun last : Bool) (lacks : Int) (bn : Nat) (B : List Value) (left low : Int) (high x at' : Int) (cbad : Bool) (hp : e3M_pre lim bad op sum begun last lacks bn B left low high x at' cbad) : CallOk E 16 [.pointer (some ⟨0, 0, none⟩)] (zhke2 lim true bad op sum begun last lacks left low high x at' cbad B bn) (e3M_v lim bad op sum begun last lacks bn B left low high x at' cbad) (e3M_h lim bad op sum begun last lacks bn B left low high x at' cbad) := by
 have w := e3_all lim bad op sum begun last lacks bn B left low high x at' cbad hp.2
 obtain ⟨c0, c1⟩ := hp.1
 have e1 : e_v3 lim bad op sum begun last lacks bn B left low high x at' cbad = e3M_v lim bad op sum begun last lacks bn B left low high x at' cbad := by
  unfold e_v3 e3M_v
  first | rfl | (rw [c0]; simp only [cond_true, cond_false]; rw [c1]; simp only [cond_true, cond_false]) | (rw [c0]; rw [c1]; rfl)
 have e2 : e_h3 lim bad op sum begun last lacks bn B left low high x at' cbad = e3M_h lim bad op sum begun last lacks bn B left low high x at' cbad := by
  unfold e_h3 e3M_h
  first | rfl | (rw [c0]; simp only [cond_true, cond_false]; rw [c1]; simp only [cond_true, cond_false]) | (rw [c0]; rw [c1]; rfl)
 rw [e1, e2] at w
 exact w

abbrev e3M_ex := e3W_ex
noncomputable def e3M_k : Ct := kS e3M_ex [.ptr 0 0] [.cells [.int .i64, .boolC true, .int .i64, .int .i64, .int .i64, .ptr 0 5, .sl 1 (some 0) (some 0), .ptr 2 0, .bool, .bool, .int .i64] 51 none, .any 5 (some 1), .cells [.int .i64, .int .u8, .int .u8, .int .i32, .int .i64, .bool] 77 none] (fun (a0, a1, a2, a3, a4, a5, a6, a7, a8, a9, a10, a11, a12, a13, a14) => e3M_pre a0 a1 a2 a3 a4 a5 a6 a7 a8 a9 a10 a11 a12 a13 a14) (fun (a0, a1, a2, a3, a4, a5, a6, a7, a8, a9, a10, a11, a12, a13, a14) => e3M_v a0 a1 a2 a3 a4 a5 a6 a7 a8 a9 a10 a11 a12 a13 a14) (fun (a0, a1, a2, a3, a4, a5, a6, a7, a8, a9, a10, a11, a12, a13, a14) => e3M_h a0 a1 a2 a3 a4 a5 a6 a7 a8 a9 a10 a11 a12 a13 a14)
theorem e3M_k_ok : KFor E 16 e3M_k := kS_ok (fun x hx => e3M_call (x.1) (x.2.1) (x.2.2.1) (x.2.2.2.1) (x.2.2.2.2.1) (x.2.2.2.2.2.1) (x.2.2.2.2.2.2.1) (x.2.2.2.2.2.2.2.1) (x.2.2.2.2.2.2.2.2.1) (x.2.2.2.2.2.2.2.2.2.1) (x.2.2.2.2.2.2.2.2.2.2.1) (x.2.2.2.2.2.2.2.2.2.2.2.1) (x.2.2.2.2.2.2.2.2.2.2.2.2.1) (x.2.2.2.2.2.2.2.2.2.2.2.2.2.1) (x.2.2.2.2.2.2.2.2.2.2.2.2.2.2) hx) (fun _ _ => rfl) (fun _ _ => rfl)


def e3F_pre (lim bad : Int) (op sum : Int) (begun last : Bool) (lacks : Int) (bn : Nat) (B : List Value) (left low : Int) (high x at' : Int) (cbad : Bool) : Prop := ((ecode bad op lacks left begun last cbad == 0) = false) ∧ e_pr3 lim bad op sum begun last lacks bn B left low high x at' cbad
def e3F_v (lim bad : Int) (op sum : Int) (begun last : Bool) (lacks : Int) (bn : Nat) (B : List Value) (left low : Int) (high x at' : Int) (cbad : Bool) : Value := .tuple #[.agg #[.int .i64 0, .string ⟨#[]⟩], .bool false, .int .i64 (ecode bad op lacks left begun last cbad)]
def e3F_h (lim bad : Int) (op sum : Int) (begun last : Bool) (lacks : Int) (bn : Nat) (B : List Value) (left low : Int) (high x at' : Int) (cbad : Bool) : Heap := (zhke2 lim true (ecode bad op lacks left begun last cbad) op sum begun last lacks left low high x at' cbad B bn)
theorem e3F_call (lim bad : Int) (op sum : Int) (begun last : Bool) (lacks : Int) (bn : Nat) (B : List Value) (left low : Int) (high x at' : Int) (cbad : Bool) (hp : e3F_pre lim bad op sum begun last lacks bn B left low high x at' cbad) : CallOk E 16 [.pointer (some ⟨0, 0, none⟩)] (zhke2 lim true bad op sum begun last lacks left low high x at' cbad B bn) (e3F_v lim bad op sum begun last lacks bn B left low high x at' cbad) (e3F_h lim bad op sum begun last lacks bn B left low high x at' cbad) := by
 have w := e3_all lim bad op sum begun last lacks bn B left low high x at' cbad hp.2
 obtain c0 := hp.1
 have e1 : e_v3 lim bad op sum begun last lacks bn B left low high x at' cbad = e3F_v lim bad op sum begun last lacks bn B left low high x at' cbad := by
  unfold e_v3 e3F_v
  first | rfl | (rw [c0]; simp only [cond_true, cond_false]) | (rw [c0]; rfl)
 have e2 : e_h3 lim bad op sum begun last lacks bn B left low high x at' cbad = e3F_h lim bad op sum begun last lacks bn B left low high x at' cbad := by
  unfold e_h3 e3F_h
  first | rfl | (rw [c0]; simp only [cond_true, cond_false]) | (rw [c0]; rfl)
 rw [e1, e2] at w
 exact w

abbrev e3F_ex := e3W_ex
noncomputable def e3F_k : Ct := kS e3F_ex [.ptr 0 0] [.cells [.int .i64, .boolC true, .int .i64, .int .i64, .int .i64, .ptr 0 5, .sl 1 (some 0) (some 0), .ptr 2 0, .bool, .bool, .int .i64] 51 none, .any 5 (some 1), .cells [.int .i64, .int .u8, .int .u8, .int .i32, .int .i64, .bool] 77 none] (fun (a0, a1, a2, a3, a4, a5, a6, a7, a8, a9, a10, a11, a12, a13, a14) => e3F_pre a0 a1 a2 a3 a4 a5 a6 a7 a8 a9 a10 a11 a12 a13 a14) (fun (a0, a1, a2, a3, a4, a5, a6, a7, a8, a9, a10, a11, a12, a13, a14) => e3F_v a0 a1 a2 a3 a4 a5 a6 a7 a8 a9 a10 a11 a12 a13 a14) (fun (a0, a1, a2, a3, a4, a5, a6, a7, a8, a9, a10, a11, a12, a13, a14) => e3F_h a0 a1 a2 a3 a4 a5 a6 a7 a8 a9 a10 a11 a12 a13 a14)
theorem e3F_k_ok : KFor E 16 e3F_k := kS_ok (fun x hx => e3F_call (x.1) (x.2.1) (x.2.2.1) (x.2.2.2.1) (x.2.2.2.2.1) (x.2.2.2.2.2.1) (x.2.2.2.2.2.2.1) (x.2.2.2.2.2.2.2.1) (x.2.2.2.2.2.2.2.2.1) (x.2.2.2.2.2.2.2.2.2.1) (x.2.2.2.2.2.2.2.2.2.2.1) (x.2.2.2.2.2.2.2.2.2.2.2.1) (x.2.2.2.2.2.2.2.2.2.2.2.2.1) (x.2.2.2.2.2.2.2.2.2.2.2.2.2.1) (x.2.2.2.2.2.2.2.2.2.2.2.2.2.2) hx) (fun _ _ => rfl) (fun _ _ => rfl)


def e1_ask1_ex (a : List Value) (h : Heap) : Bool := (fun x => (x.2.2.2.2.2.1)) (e1W_ex a h)
def e1_ask0_ex (a : List Value) (h : Heap) : Bool := (fun x => (ecode (x.2.1) (x.2.2.1) (x.2.2.2.2.2.2.1) (x.2.2.2.2.2.2.2.1) (x.2.2.2.2.1) (x.2.2.2.2.2.1) (x.2.2.2.2.2.2.2.2.2.2.2.2) == 0)) (e1W_ex a h)
def e2_ask1_ex (a : List Value) (h : Heap) : Bool := (fun x => (x.2.2.2.2.2.1)) (e2W_ex a h)
def e2_ask0_ex (a : List Value) (h : Heap) : Bool := (fun x => (ecode (x.2.1) (x.2.2.1) (x.2.2.2.2.2.2.1) (x.2.2.2.2.2.2.2.1) (x.2.2.2.2.1) (x.2.2.2.2.2.1) (x.2.2.2.2.2.2.2.2.2.2.2.2) == 0)) (e2W_ex a h)
def e3_ask1_ex (a : List Value) (h : Heap) : Bool := (fun x => (x.2.2.2.2.2.1)) (e3W_ex a h)
def e3_ask0_ex (a : List Value) (h : Heap) : Bool := (fun x => (ecode (x.2.1) (x.2.2.1) (x.2.2.2.2.2.2.1) (x.2.2.2.2.2.2.2.2.2.1) (x.2.2.2.2.1) (x.2.2.2.2.2.1) (x.2.2.2.2.2.2.2.2.2.2.2.2.2.2) == 0)) (e3W_ex a h)
noncomputable def e_kk : CtD := kOrD (fun _ H => nilP 7 H) (kFin e0F_k) (kOrD (fun _ H => nilP 5 H) (kAsk e1_ask0_ex (kAsk e1_ask1_ex (kFin e1W_k) (kFin e1M_k)) (kFin e1F_k)) (kOrD (fun _ H => nilAt 6 H) (kAsk e2_ask0_ex (kAsk e2_ask1_ex (kFin e2W_k) (kFin e2M_k)) (kFin e2F_k)) (kAsk e3_ask0_ex (kAsk e3_ask1_ex (kFin e3W_k) (kFin e3M_k)) (kFin e3F_k))))
theorem e_kk_ok : KForD E 16 e_kk := kOrD_ok (kFin_ok e0F_k_ok) (kOrD_ok (kAsk_ok (kAsk_ok (kFin_ok e1W_k_ok) (kFin_ok e1M_k_ok)) (kFin_ok e1F_k_ok)) (kOrD_ok (kAsk_ok (kAsk_ok (kFin_ok e2W_k_ok) (kFin_ok e2M_k_ok)) (kFin_ok e2F_k_ok)) (kAsk_ok (kAsk_ok (kFin_ok e3W_k_ok) (kFin_ok e3M_k_ok)) (kFin_ok e3F_k_ok))))

end Go.Proofs.Ytgaedhpeiamdfaa
