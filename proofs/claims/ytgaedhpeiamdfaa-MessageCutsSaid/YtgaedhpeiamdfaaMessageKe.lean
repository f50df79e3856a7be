/-
  A joiner of frames: what End does, as contracts, by the shapes of its memory, and by what comes of it.
-/
import Derived.Test.YtgaedhpeiamdfaaMessageKea
set_option linter.unusedVariables false
set_option linter.unusedSimpArgs false
set_option maxRecDepth 10000
open Go Go.Am
namespace Go.Proofs.Ytgaedhpeiamdfaa

def e0F_pre (lim bad : Int) (op sum : Int) (begun last : Bool) (lacks : Int) : Prop := ((ecode bad op lacks 0 begun last false == 0) = false) ∧ e_pr0 lim bad op sum begun last lacks
def e0F_v (lim bad : Int) (op sum : Int) (begun last : Bool) (lacks : Int) : Value := .tuple #[.agg #[.int .i64 0, .string ⟨#[]⟩], .bool false, .int .i64 (ecode bad op lacks 0 begun last false)]
def e0F_h (lim bad : Int) (op sum : Int) (begun last : Bool) (lacks : Int) : Heap := [some (.cells [.int .i64 lim, .bool true, .int .i64 (ecode bad op lacks 0 begun last false), .int .i64 op, .int .i64 sum, .pointer none, .slice none 0 0, .pointer none, .bool begun, .bool last, .int .i64 lacks] 51 none)]
theorem e0F_call (lim bad : Int) (op sum : Int) (begun last : Bool) (lacks : Int) (hp : e0F_pre lim bad op sum begun last lacks) : CallOk E 16 [.pointer (some ⟨0, 0, none⟩)] [some (.cells [.int .i64 lim, .bool true, .int .i64 bad, .int .i64 op, .int .i64 sum, .pointer none, .slice none 0 0, .pointer none, .bool begun, .bool last, .int .i64 lacks] 51 none)] (e0F_v lim bad op sum begun last lacks) (e0F_h lim bad op sum begun last lacks) := by
  have w := e0_all lim bad op sum begun last lacks hp.2
  obtain c0 := hp.1
  have e1 : e_v0 lim bad op sum begun last lacks = e0F_v lim bad op sum begun last lacks := by
    unfold e_v0 e0F_v
    first | rfl | (rw [c0]; simp only [cond_true, cond_false]) | (rw [c0]; rfl)
  have e2 : e_h0 lim bad op sum begun last lacks = e0F_h lim bad op sum begun last lacks := by
    unfold e_h0 e0F_h
    first | rfl | (rw [c0]; simp only [cond_true, cond_false]) | (rw [c0]; rfl)
  rw [e1, e2] at w
  exact w

def e0F_ex (a : List Value) (h : Heap) : Int × Int × Int × Int × Bool × Bool × Int := ((toInt ((cellsOf h 0).getD 0 undef)), (toInt ((cellsOf h 0).getD 2 undef)), (toInt ((cellsOf h 0).getD 3 undef)), (toInt ((cellsOf h 0).getD 4 undef)), (toBool ((cellsOf h 0).getD 8 undef)), (toBool ((cellsOf h 0).getD 9 undef)), (toInt ((cellsOf h 0).getD 10 undef)))
noncomputable def e0F_k : Ct := kS e0F_ex [.ptr 0 0] [.cells [.int .i64, .boolC true, .int .i64, .int .i64, .int .i64, .nilP, .nilS, .nilP, .bool, .bool, .int .i64] 51 none] (fun (a0, a1, a2, a3, a4, a5, a6) => e0F_pre a0 a1 a2 a3 a4 a5 a6) (fun (a0, a1, a2, a3, a4, a5, a6) => e0F_v a0 a1 a2 a3 a4 a5 a6) (fun (a0, a1, a2, a3, a4, a5, a6) => e0F_h a0 a1 a2 a3 a4 a5 a6)
theorem e0F_k_ok : KFor E 16 e0F_k := kS_ok (fun x hx => e0F_call (x.1) (x.2.1) (x.2.2.1) (x.2.2.2.1) (x.2.2.2.2.1) (x.2.2.2.2.2.1) (x.2.2.2.2.2.2) hx) (fun _ _ => rfl) (fun _ _ => rfl)


def e1W_pre (lim bad : Int) (op sum : Int) (begun last : Bool) (lacks left : Int) (low high : Int) (x at' : Int) (cbad : Bool) : Prop := ((ecode bad op lacks left begun last cbad == 0) = true ∧ last = true) ∧ e_pr1 lim bad op sum begun last lacks left low high x at' cbad
def e1W_v (lim bad : Int) (op sum : Int) (begun last : Bool) (lacks left : Int) (low high : Int) (x at' : Int) (cbad : Bool) : Value := .tuple #[.agg #[.int .i64 op, .string ⟨#[]⟩], .bool true, .int .i64 0]
def e1W_h (lim bad : Int) (op sum : Int) (begun last : Bool) (lacks left : Int) (low high : Int) (x at' : Int) (cbad : Bool) : Heap := [some (.cells [.int .i64 lim, .bool true, .int .i64 bad, .int .i64 0, .int .i64 0, .pointer none, .slice none 0 0, .pointer (some ⟨1, 0, none⟩), .bool false, .bool last, .int .i64 lacks] 51 none), some (.cells [.int .i64 left, .int .u8 low, .int .u8 high, .int .i32 x, .int .i64 at', .bool cbad] 77 none)]
theorem e1W_call (lim bad : Int) (op sum : Int) (begun last : Bool) (lacks left : Int) (low high : Int) (x at' : Int) (cbad : Bool) (hp : e1W_pre lim bad op sum begun last lacks left low high x at' cbad) : CallOk E 16 [.pointer (some ⟨0, 0, none⟩)] [some (.cells [.int .i64 lim, .bool true, .int .i64 bad, .int .i64 op, .int .i64 sum, .pointer none, .slice none 0 0, .pointer (some ⟨1, 0, none⟩), .bool begun, .bool last, .int .i64 lacks] 51 none), some (.cells [.int .i64 left, .int .u8 low, .int .u8 high, .int .i32 x, .int .i64 at', .bool cbad] 77 none)] (e1W_v lim bad op sum begun last lacks left low high x at' cbad) (e1W_h lim bad op sum begun last lacks left low high x at' cbad) := by
  have w := e1_all lim bad op sum begun last lacks left low high x at' cbad hp.2
  obtain ⟨c0, c1⟩ := hp.1
  have e1 : e_v1 lim bad op sum begun last lacks left low high x at' cbad = e1W_v lim bad op sum begun last lacks left low high x at' cbad := by
    unfold e_v1 e1W_v
    first | rfl | (rw [c0]; simp only [cond_true, cond_false]; rw [c1]; simp only [cond_true, cond_false]) | (rw [c0]; rw [c1]; rfl)
  have e2 : e_h1 lim bad op sum begun last lacks left low high x at' cbad = e1W_h lim bad op sum begun last lacks left low high x at' cbad := by
    unfold e_h1 e1W_h
    first | rfl | (rw [c0]; simp only [cond_true, cond_false]; rw [c1]; simp only [cond_true, cond_false]) | (rw [c0]; rw [c1]; rfl)
  rw [e1, e2] at w
  exact w

def e1W_ex (a : List Value) (h : Heap) : Int × Int × Int × Int × Bool × Bool × Int × Int × Int × Int × Int × Int × Bool := ((toInt ((cellsOf h 0).getD 0 undef)), (toInt ((cellsOf h 0).getD 2 undef)), (toInt ((cellsOf h 0).getD 3 undef)), (toInt ((cellsOf h 0).getD 4 undef)), (toBool ((cellsOf h 0).getD 8 undef)), (toBool ((cellsOf h 0).getD 9 undef)), (toInt ((cellsOf h 0).getD 10 undef)), (toInt ((cellsOf h 1).getD 0 undef)), (toInt ((cellsOf h 1).getD 1 undef)), (toInt ((cellsOf h 1).getD 2 undef)), (toInt ((cellsOf h 1).getD 3 undef)), (toInt ((cellsOf h 1).getD 4 undef)), (toBool ((cellsOf h 1).getD 5 undef)))
noncomputable def e1W_k : Ct := kS e1W_ex [.ptr 0 0] [.cells [.int .i64, .boolC true, .int .i64, .int .i64, .int .i64, .nilP, .nilS, .ptr 1 0, .bool, .bool, .int .i64] 51 none, .cells [.int .i64, .int .u8, .int .u8, .int .i32, .int .i64, .bool] 77 none] (fun (a0, a1, a2, a3, a4, a5, a6, a7, a8, a9, a10, a11, a12) => e1W_pre a0 a1 a2 a3 a4 a5 a6 a7 a8 a9 a10 a11 a12) (fun (a0, a1, a2, a3, a4, a5, a6, a7, a8, a9, a10, a11, a12) => e1W_v a0 a1 a2 a3 a4 a5 a6 a7 a8 a9 a10 a11 a12) (fun (a0, a1, a2, a3, a4, a5, a6, a7, a8, a9, a10, a11, a12) => e1W_h a0 a1 a2 a3 a4 a5 a6 a7 a8 a9 a10 a11 a12)
theorem e1W_k_ok : KFor E 16 e1W_k := kS_ok (fun x hx => e1W_call (x.1) (x.2.1) (x.2.2.1) (x.2.2.2.1) (x.2.2.2.2.1) (x.2.2.2.2.2.1) (x.2.2.2.2.2.2.1) (x.2.2.2.2.2.2.2.1) (x.2.2.2.2.2.2.2.2.1) (x.2.2.2.2.2.2.2.2.2.1) (x.2.2.2.2.2.2.2.2.2.2.1) (x.2.2.2.2.2.2.2.2.2.2.2.1) (x.2.2.2.2.2.2.2.2.2.2.2.2) hx) (fun _ _ => rfl) (fun _ _ => rfl)


def e1M_pre (lim bad : Int) (op sum : Int) (begun last : Bool) (lacks left : Int) (low high : Int) (x at' : Int) (cbad : Bool) : Prop := ((ecode bad op lacks left begun last cbad == 0) = true ∧ last = false) ∧ e_pr1 lim bad op sum begun last lacks left low high x at' cbad
def e1M_v (lim bad : Int) (op sum : Int) (begun last : Bool) (lacks left : Int) (low high : Int) (x at' : Int) (cbad : Bool) : Value := .tuple #[.agg #[.int .i64 0, .string ⟨#[]⟩], .bool false, .int .i64 0]
def e1M_h (lim bad : Int) (op sum : Int) (begun last : Bool) (lacks left : Int) (low high : Int) (x at' : Int) (cbad : Bool) : Heap := [some (.cells [.int .i64 lim, .bool true, .int .i64 bad, .int .i64 op, .int .i64 sum, .pointer none, .slice none 0 0, .pointer (some ⟨1, 0, none⟩), .bool false, .bool last, .int .i64 lacks] 51 none), some (.cells [.int .i64 left, .int .u8 low, .int .u8 high, .int .i32 x, .int .i64 at', .bool cbad] 77 none)]
theorem e1M_call (lim bad : Int) (op sum : Int) (begun last : Bool) (lacks left : Int) (low high : Int) (x at' : Int) (cbad : Bool) (hp : e1M_pre lim bad op sum begun last lacks left low high x at' cbad) : CallOk E 16 [.pointer (some ⟨0, 0, none⟩)] [some (.cells [.int .i64 lim, .bool true, .int .i64 bad, .int .i64 op, .int .i64 sum, .pointer none, .slice none 0 0, .pointer (some ⟨1, 0, none⟩), .bool begun, .bool last, .int .i64 lacks] 51 none), some (.cells [.int .i64 left, .int .u8 low, .int .u8 high, .int .i32 x, .int .i64 at', .bool cbad] 77 none)] (e1M_v lim bad op sum begun last lacks left low high x at' cbad) (e1M_h lim bad op sum begun last lacks left low high x at' cbad) := by
  have w := e1_all lim bad op sum begun last lacks left low high x at' cbad hp.2
  obtain ⟨c0, c1⟩ := hp.1
  have e1 : e_v1 lim bad op sum begun last lacks left low high x at' cbad = e1M_v lim bad op sum begun last lacks left low high x at' cbad := by
    unfold e_v1 e1M_v
    first | rfl | (rw [c0]; simp only [cond_true, cond_false]; rw [c1]; simp only [cond_true, cond_false]) | (rw [c0]; rw [c1]; rfl)
  have e2 : e_h1 lim bad op sum begun last lacks left low high x at' cbad = e1M_h lim bad op sum begun last lacks left low high x at' cbad := by
    unfold e_h1 e1M_h
    first | rfl | (rw [c0]; simp only [cond_true, cond_false]; rw [c1]; simp only [cond_true, cond_false]) | (rw [c0]; rw [c1]; rfl)
  rw [e1, e2] at w
  exact w

def e1M_ex (a : List Value) (h : Heap) : Int × Int × Int × Int × Bool × Bool × Int × Int × Int × Int × Int × Int × Bool := ((toInt ((cellsOf h 0).getD 0 undef)), (toInt ((cellsOf h 0).getD 2 undef)), (toInt ((cellsOf h 0).getD 3 undef)), (toInt ((cellsOf h 0).getD 4 undef)), (toBool ((cellsOf h 0).getD 8 undef)), (toBool ((cellsOf h 0).getD 9 undef)), (toInt ((cellsOf h 0).getD 10 undef)), (toInt ((cellsOf h 1).getD 0 undef)), (toInt ((cellsOf h 1).getD 1 undef)), (toInt ((cellsOf h 1).getD 2 undef)), (toInt ((cellsOf h 1).getD 3 undef)), (toInt ((cellsOf h 1).getD 4 undef)), (toBool ((cellsOf h 1).getD 5 undef)))
noncomputable def e1M_k : Ct := kS e1M_ex [.ptr 0 0] [.cells [.int .i64, .boolC true, .int .i64, .int .i64, .int .i64, .nilP, .nilS, .ptr 1 0, .bool, .bool, .int .i64] 51 none, .cells [.int .i64, .int .u8, .int .u8, .int .i32, .int .i64, .bool] 77 none] (fun (a0, a1, a2, a3, a4, a5, a6, a7, a8, a9, a10, a11, a12) => e1M_pre a0 a1 a2 a3 a4 a5 a6 a7 a8 a9 a10 a11 a12) (fun (a0, a1, a2, a3, a4, a5, a6, a7, a8, a9, a10, a11, a12) => e1M_v a0 a1 a2 a3 a4 a5 a6 a7 a8 a9 a10 a11 a12) (fun (a0, a1, a2, a3, a4, a5, a6, a7, a8, a9, a10, a11, a12) => e1M_h a0 a1 a2 a3 a4 a5 a6 a7 a8 a9 a10 a11 a12)
theorem e1M_k_ok : KFor E 16 e1M_k := kS_ok (fun x hx => e1M_call (x.1) (x.2.1) (x.2.2.1) (x.2.2.2.1) (x.2.2.2.2.1) (x.2.2.2.2.2.1) (x.2.2.2.2.2.2.1) (x.2.2.2.2.2.2.2.1) (x.2.2.2.2.2.2.2.2.1) (x.2.2.2.2.2.2.2.2.2.1) (x.2.2.2.2.2.2.2.2.2.2.1) (x.2.2.2.2.2.2.2.2.2.2.2.1) (x.2.2.2.2.2.2.2.2.2.2.2.2) hx) (fun _ _ => rfl) (fun _ _ => rfl)


def e1F_pre (lim bad : Int) (op sum : Int) (begun last : Bool) (lacks left : Int) (low high : Int) (x at' : Int) (cbad : Bool) : Prop := ((ecode bad op lacks left begun last cbad == 0) = false) ∧ e_pr1 lim bad op sum begun last lacks left low high x at' cbad
def e1F_v (lim bad : Int) (op sum : Int) (begun last : Bool) (lacks left : Int) (low high : Int) (x at' : Int) (cbad : Bool) : Value := .tuple #[.agg #[.int .i64 0, .string ⟨#[]⟩], .bool false, .int .i64 (ecode bad op lacks left begun last cbad)]
def e1F_h (lim bad : Int) (op sum : Int) (begun last : Bool) (lacks left : Int) (low high : Int) (x at' : Int) (cbad : Bool) : Heap := [some (.cells [.int .i64 lim, .bool true, .int .i64 (ecode bad op lacks left begun last cbad), .int .i64 op, .int .i64 sum, .pointer none, .slice none 0 0, .pointer (some ⟨1, 0, none⟩), .bool begun, .bool last, .int .i64 lacks] 51 none), some (.cells [.int .i64 left, .int .u8 low, .int .u8 high, .int .i32 x, .int .i64 at', .bool cbad] 77 none)]
theorem e1F_call (lim bad : Int) (op sum : Int) (begun last : Bool) (lacks left : Int) (low high : Int) (x at' : Int) (cbad : Bool) (hp : e1F_pre lim bad op sum begun last lacks left low high x at' cbad) : CallOk E 16 [.pointer (some ⟨0, 0, none⟩)] [some (.cells [.int .i64 lim, .bool true, .int .i64 bad, .int .i64 op, .int .i64 sum, .pointer none, .slice none 0 0, .pointer (some ⟨1, 0, none⟩), .bool begun, .bool last, .int .i64 lacks] 51 none), some (.cells [.int .i64 left, .int .u8 low, .int .u8 high, .int .i32 x, .int .i64 at', .bool cbad] 77 none)] (e1F_v lim bad op sum begun last lacks left low high x at' cbad) (e1F_h lim bad op sum begun last lacks left low high x at' cbad) := by
  have w := e1_all lim bad op sum begun last lacks left low high x at' cbad hp.2
  obtain c0 := hp.1
  have e1 : e_v1 lim bad op sum begun last lacks left low high x at' cbad = e1F_v lim bad op sum begun last lacks left low high x at' cbad := by
    unfold e_v1 e1F_v
    first | rfl | (rw [c0]; simp only [cond_true, cond_false]) | (rw [c0]; rfl)
  have e2 : e_h1 lim bad op sum begun last lacks left low high x at' cbad = e1F_h lim bad op sum begun last lacks left low high x at' cbad := by
    unfold e_h1 e1F_h
    first | rfl | (rw [c0]; simp only [cond_true, cond_false]) | (rw [c0]; rfl)
  rw [e1, e2] at w
  exact w

def e1F_ex (a : List Value) (h : Heap) : Int × Int × Int × Int × Bool × Bool × Int × Int × Int × Int × Int × Int × Bool := ((toInt ((cellsOf h 0).getD 0 undef)), (toInt ((cellsOf h 0).getD 2 undef)), (toInt ((cellsOf h 0).getD 3 undef)), (toInt ((cellsOf h 0).getD 4 undef)), (toBool ((cellsOf h 0).getD 8 undef)), (toBool ((cellsOf h 0).getD 9 undef)), (toInt ((cellsOf h 0).getD 10 undef)), (toInt ((cellsOf h 1).getD 0 undef)), (toInt ((cellsOf h 1).getD 1 undef)), (toInt ((cellsOf h 1).getD 2 undef)), (toInt ((cellsOf h 1).getD 3 undef)), (toInt ((cellsOf h 1).getD 4 undef)), (toBool ((cellsOf h 1).getD 5 undef)))
noncomputable def e1F_k : Ct := kS e1F_ex [.ptr 0 0] [.cells [.int .i64, .boolC true, .int .i64, .int .i64, .int .i64, .nilP, .nilS, .ptr 1 0, .bool, .bool, .int .i64] 51 none, .cells [.int .i64, .int .u8, .int .u8, .int .i32, .int .i64, .bool] 77 none] (fun (a0, a1, a2, a3, a4, a5, a6, a7, a8, a9, a10, a11, a12) => e1F_pre a0 a1 a2 a3 a4 a5 a6 a7 a8 a9 a10 a11 a12) (fun (a0, a1, a2, a3, a4, a5, a6, a7, a8, a9, a10, a11, a12) => e1F_v a0 a1 a2 a3 a4 a5 a6 a7 a8 a9 a10 a11 a12) (fun (a0, a1, a2, a3, a4, a5, a6, a7, a8, a9, a10, a11, a12) => e1F_h a0 a1 a2 a3 a4 a5 a6 a7 a8 a9 a10 a11 a12)
theorem e1F_k_ok : KFor E 16 e1F_k := kS_ok (fun x hx => e1F_call (x.1) (x.2.1) (x.2.2.1) (x.2.2.2.1) (x.2.2.2.2.1) (x.2.2.2.2.2.1) (x.2.2.2.2.2.2.1) (x.2.2.2.2.2.2.2.1) (x.2.2.2.2.2.2.2.2.1) (x.2.2.2.2.2.2.2.2.2.1) (x.2.2.2.2.2.2.2.2.2.2.1) (x.2.2.2.2.2.2.2.2.2.2.2.1) (x.2.2.2.2.2.2.2.2.2.2.2.2) hx) (fun _ _ => rfl) (fun _ _ => rfl)


def e2W_pre (lim bad : Int) (op sum : Int) (begun last : Bool) (lacks left : Int) (low high : Int) (x at' : Int) (cbad : Bool) : Prop := ((ecode bad op lacks left begun last cbad == 0) = true ∧ last = true) ∧ e_pr2 lim bad op sum begun last lacks left low high x at' cbad
def e2W_v (lim bad : Int) (op sum : Int) (begun last : Bool) (lacks left : Int) (low high : Int) (x at' : Int) (cbad : Bool) : Value := .tuple #[.agg #[.int .i64 op, .string ⟨#[]⟩], .bool true, .int .i64 0]
def e2W_h (lim bad : Int) (op sum : Int) (begun last : Bool) (lacks left : Int) (low high : Int) (x at' : Int) (cbad : Bool) : Heap := [some (.cells [.int .i64 lim, .bool true, .int .i64 bad, .int .i64 0, .int .i64 0, .pointer none, .slice none 0 0, .pointer (some ⟨1, 0, none⟩), .bool false, .bool last, .int .i64 lacks] 51 none), some (.cells [.int .i64 left, .int .u8 low, .int .u8 high, .int .i32 x, .int .i64 at', .bool cbad] 77 none)]
theorem e2W_call (lim bad : Int) (op sum : Int) (begun last : Bool) (lacks left : Int) (low high : Int) (x at' : Int) (cbad : Bool) (hp : e2W_pre lim bad op sum begun last lacks left low high x at' cbad) : CallOk E 16 [.pointer (some ⟨0, 0, none⟩)] [some (.cells [.int .i64 lim, .bool true, .int .i64 bad, .int .i64 op, .int .i64 sum, .pointer (some ⟨0, 5, none⟩), .slice none 0 0, .pointer (some ⟨1, 0, none⟩), .bool begun, .bool last, .int .i64 lacks] 51 none), some (.cells [.int .i64 left, .int .u8 low, .int .u8 high, .int .i32 x, .int .i64 at', .bool cbad] 77 none)] (e2W_v lim bad op sum begun last lacks left low high x at' cbad) (e2W_h lim bad op sum begun last lacks left low high x at' cbad) := by
  have w := e2_all lim bad op sum begun last lacks left low high x at' cbad hp.2
  obtain ⟨c0, c1⟩ := hp.1
  have e1 : e_v2 lim bad op sum begun last lacks left low high x at' cbad = e2W_v lim bad op sum begun last lacks left low high x at' cbad := by
    unfold e_v2 e2W_v
    first | rfl | (rw [c0]; simp only [cond_true, cond_false]; rw [c1]; simp only [cond_true, cond_false]) | (rw [c0]; rw [c1]; rfl)
  have e2 : e_h2 lim bad op sum begun last lacks left low high x at' cbad = e2W_h lim bad op sum begun last lacks left low high x at' cbad := by
    unfold e_h2 e2W_h
    first | rfl | (rw [c0]; simp only [cond_true, cond_false]; rw [c1]; simp only [cond_true, cond_false]) | (rw [c0]; rw [c1]; rfl)
  rw [e1, e2] at w
  exact w

def e2W_ex (a : List Value) (h : Heap) : Int × Int × Int × Int × Bool × Bool × Int × Int × Int × Int × Int × Int × Bool := ((toInt ((cellsOf h 0).getD 0 undef)), (toInt ((cellsOf h 0).getD 2 undef)), (toInt ((cellsOf h 0).getD 3 undef)), (toInt ((cellsOf h 0).getD 4 undef)), (toBool ((cellsOf h 0).getD 8 undef)), (toBool ((cellsOf h 0).getD 9 undef)), (toInt ((cellsOf h 0).getD 10 undef)), (toInt ((cellsOf h 1).getD 0 undef)), (toInt ((cellsOf h 1).getD 1 undef)), (toInt ((cellsOf h 1).getD 2 undef)), (toInt ((cellsOf h 1).getD 3 undef)), (toInt ((cellsOf h 1).getD 4 undef)), (toBool ((cellsOf h 1).getD 5 undef)))
noncomputable def e2W_k : Ct := kS e2W_ex [.ptr 0 0] [.cells [.int .i64, .boolC true, .int .i64, .int .i64, .int .i64, .ptr 0 5, .nilS, .ptr 1 0, .bool, .bool, .int .i64] 51 none, .cells [.int .i64, .int .u8, .int .u8, .int .i32, .int .i64, .bool] 77 none] (fun (a0, a1, a2, a3, a4, a5, a6, a7, a8, a9, a10, a11, a12) => e2W_pre a0 a1 a2 a3 a4 a5 a6 a7 a8 a9 a10 a11 a12) (fun (a0, a1, a2, a3, a4, a5, a6, a7, a8, a9, a10, a11, a12) => e2W_v a0 a1 a2 a3 a4 a5 a6 a7 a8 a9 a10 a11 a12) (fun (a0, a1, a2, a3, a4, a5, a6, a7, a8, a9, a10, a11, a12) => e2W_h a0 a1 a2 a3 a4 a5 a6 a7 a8 a9 a10 a11 a12)
theorem e2W_k_ok : KFor E 16 e2W_k := kS_ok (fun x hx => e2W_call (x.1) (x.2.1) (x.2.2.1) (x.2.2.2.1) (x.2.2.2.2.1) (x.2.2.2.2.2.1) (x.2.2.2.2.2.2.1) (x.2.2.2.2.2.2.2.1) (x.2.2.2.2.2.2.2.2.1) (x.2.2.2.2.2.2.2.2.2.1) (x.2.2.2.2.2.2.2.2.2.2.1) (x.2.2.2.2.2.2.2.2.2.2.2.1) (x.2.2.2.2.2.2.2.2.2.2.2.2) hx) (fun _ _ => rfl) (fun _ _ => rfl)


def e2M_pre (lim bad : Int) (op sum : Int) (begun last : Bool) (lacks left : Int) (low high : Int) (x at' : Int) (cbad : Bool) : Prop := ((ecode bad op lacks left begun last cbad == 0) = true ∧ last = false) ∧ e_pr2 lim bad op sum begun last lacks left low high x at' cbad
def e2M_v (lim bad : Int) (op sum : Int) (begun last : Bool) (lacks left : Int) (low high : Int) (x at' : Int) (cbad : Bool) : Value := .tuple #[.agg #[.int .i64 0, .string ⟨#[]⟩], .bool false, .int .i64 0]
def e2M_h (lim bad : Int) (op sum : Int) (begun last : Bool) (lacks left : Int) (low high : Int) (x at' : Int) (cbad : Bool) : Heap := [some (.cells [.int .i64 lim, .bool true, .int .i64 bad, .int .i64 op, .int .i64 sum, .pointer (some ⟨0, 5, none⟩), .slice none 0 0, .pointer (some ⟨1, 0, none⟩), .bool false, .bool last, .int .i64 lacks] 51 none), some (.cells [.int .i64 left, .int .u8 low, .int .u8 high, .int .i32 x, .int .i64 at', .bool cbad] 77 none)]
theorem e2M_call (lim bad : Int) (op sum : Int) (begun last : Bool) (lacks left : Int) (low high : Int) (x at' : Int) (cbad : Bool) (hp : e2M_pre lim bad op sum begun last lacks left low high x at' cbad) : CallOk E 16 [.pointer (some ⟨0, 0, none⟩)] [some (.cells [.int .i64 lim, .bool true, .int .i64 bad, .int .i64 op, .int .i64 sum, .pointer (some ⟨0, 5, none⟩), .slice none 0 0, .pointer (some ⟨1, 0, none⟩), .bool begun, .bool last, .int .i64 lacks] 51 none), some (.cells [.int .i64 left, .int .u8 low, .int .u8 high, .int .i32 x, .int .i64 at', .bool cbad] 77 none)] (e2M_v lim bad op sum begun last lacks left low high x at' cbad) (e2M_h lim bad op sum begun last lacks left low high x at' cbad) := by
  have w := e2_all lim bad op sum begun last lacks left low high x at' cbad hp.2
  obtain ⟨c0, c1⟩ := hp.1
  have e1 : e_v2 lim bad op sum begun last lacks left low high x at' cbad = e2M_v lim bad op sum begun last lacks left low high x at' cbad := by
    unfold e_v2 e2M_v
    first | rfl | (rw [c0]; simp only [cond_true, cond_false]; rw [c1]; simp only [cond_true, cond_false]) | (rw [c0]; rw [c1]; rfl)
  have e2 : e_h2 lim bad op sum begun last lacks left low high x at' cbad = e2M_h lim bad op sum begun last lacks left low high x at' cbad := by
    unfold e_h2 e2M_h
    first | rfl | (rw [c0]; simp only [cond_true, cond_false]; rw [c1]; simp only [cond_true, cond_false]) | (rw [c0]; rw [c1]; rfl)
  rw [e1, e2] at w
  exact w

def e2M_ex (a : List Value) (h : Heap) : Int × Int × Int × Int × Bool × Bool × Int × Int × Int × Int × Int × Int × Bool := ((toInt ((cellsOf h 0).getD 0 undef)), (toInt ((cellsOf h 0).getD 2 undef)), (toInt ((cellsOf h 0).getD 3 undef)), (toInt ((cellsOf h 0).getD 4 undef)), (toBool ((cellsOf h 0).getD 8 undef)), (toBool ((cellsOf h 0).getD 9 undef)), (toInt ((cellsOf h 0).getD 10 undef)), (toInt ((cellsOf h 1).getD 0 undef)), (toInt ((cellsOf h 1).getD 1 undef)), (toInt ((cellsOf h 1).getD 2 undef)), (toInt ((cellsOf h 1).getD 3 undef)), (toInt ((cellsOf h 1).getD 4 undef)), (toBool ((cellsOf h 1).getD 5 undef)))
noncomputable def e2M_k : Ct := kS e2M_ex [.ptr 0 0] [.cells [.int .i64, .boolC true, .int .i64, .int .i64, .int .i64, .ptr 0 5, .nilS, .ptr 1 0, .bool, .bool, .int .i64] 51 none, .cells [.int .i64, .int .u8, .int .u8, .int .i32, .int .i64, .bool] 77 none] (fun (a0, a1, a2, a3, a4, a5, a6, a7, a8, a9, a10, a11, a12) => e2M_pre a0 a1 a2 a3 a4 a5 a6 a7 a8 a9 a10 a11 a12) (fun (a0, a1, a2, a3, a4, a5, a6, a7, a8, a9, a10, a11, a12) => e2M_v a0 a1 a2 a3 a4 a5 a6 a7 a8 a9 a10 a11 a12) (fun (a0, a1, a2, a3, a4, a5, a6, a7, a8, a9, a10, a11, a12) => e2M_h a0 a1 a2 a3 a4 a5 a6 a7 a8 a9 a10 a11 a12)
theorem e2M_k_ok : KFor E 16 e2M_k := kS_ok (fun x hx => e2M_call (x.1) (x.2.1) (x.2.2.1) (x.2.2.2.1) (x.2.2.2.2.1) (x.2.2.2.2.2.1) (x.2.2.2.2.2.2.1) (x.2.2.2.2.2.2.2.1) (x.2.2.2.2.2.2.2.2.1) (x.2.2.2.2.2.2.2.2.2.1) (x.2.2.2.2.2.2.2.2.2.2.1) (x.2.2.2.2.2.2.2.2.2.2.2.1) (x.2.2.2.2.2.2.2.2.2.2.2.2) hx) (fun _ _ => rfl) (fun _ _ => rfl)


def e2F_pre (lim bad : Int) (op sum : Int) (begun last : Bool) (lacks left : Int) (low high : Int) (x at' : Int) (cbad : Bool) : Prop := ((ecode bad op lacks left begun last cbad == 0) = false) ∧ e_pr2 lim bad op sum begun last lacks left low high x at' cbad
def e2F_v (lim bad : Int) (op sum : Int) (begun last : Bool) (lacks left : Int) (low high : Int) (x at' : Int) (cbad : Bool) : Value := .tuple #[.agg #[.int .i64 0, .string ⟨#[]⟩], .bool false, .int .i64 (ecode bad op lacks left begun last cbad)]
def e2F_h (lim bad : Int) (op sum : Int) (begun last : Bool) (lacks left : Int) (low high : Int) (x at' : Int) (cbad : Bool) : Heap := [some (.cells [.int .i64 lim, .bool true, .int .i64 (ecode bad op lacks left begun last cbad), .int .i64 op, .int .i64 sum, .pointer (some ⟨0, 5, none⟩), .slice none 0 0, .pointer (some ⟨1, 0, none⟩), .bool begun, .bool last, .int .i64 lacks] 51 none), some (.cells [.int .i64 left, .int .u8 low, .int .u8 high, .int .i32 x, .int .i64 at', .bool cbad] 77 none)]
theorem e2F_call (lim bad : Int) (op sum : Int) (begun last : Bool) (lacks left : Int) (low high : Int) (x at' : Int) (cbad : Bool) (hp : e2F_pre lim bad op sum begun last lacks left low high x at' cbad) : CallOk E 16 [.pointer (some ⟨0, 0, none⟩)] [some (.cells [.int .i64 lim, .bool true, .int .i64 bad, .int .i64 op, .int .i64 sum, .pointer (some ⟨0, 5, none⟩), .slice none 0 0, .pointer (some ⟨1, 0, none⟩), .bool begun, .bool last, .int .i64 lacks] 51 none), some (.cells [.int .i64 left, .int .u8 low, .int .u8 high, .int .i32 x, .int .i64 at', .bool cbad] 77 none)] (e2F_v lim bad op sum begun last lacks left low high x at' cbad) (e2F_h lim bad op sum begun last lacks left low high x at' cbad) := by
  have w := e2_all lim bad op sum begun last lacks left low high x at' cbad hp.2
  obtain c0 := hp.1
  have e1 : e_v2 lim bad op sum begun last lacks left low high x at' cbad = e2F_v lim bad op sum begun last lacks left low high x at' cbad := by
    unfold e_v2 e2F_v
    first | rfl | (rw [c0]; simp only [cond_true, cond_false]) | (rw [c0]; rfl)
  have e2 : e_h2 lim bad op sum begun last lacks left low high x at' cbad = e2F_h lim bad op sum begun last lacks left low high x at' cbad := by
    unfold e_h2 e2F_h
    first | rfl | (rw [c0]; simp only [cond_true, cond_false]) | (rw [c0]; rfl)
  rw [e1, e2] at w
  exact w

def e2F_ex (a : List Value) (h : Heap) : Int × Int × Int × Int × Bool × Bool × Int × Int × Int × Int × Int × Int × Bool := ((toInt ((cellsOf h 0).getD 0 undef)), (toInt ((cellsOf h 0).getD 2 undef)), (toInt ((cellsOf h 0).getD 3 undef)), (toInt ((cellsOf h 0).getD 4 undef)), (toBool ((cellsOf h 0).getD 8 undef)), (toBool ((cellsOf h 0).getD 9 undef)), (toInt ((cellsOf h 0).getD 10 undef)), (toInt ((cellsOf h 1).getD 0 undef)), (toInt ((cellsOf h 1).getD 1 undef)), (toInt ((cellsOf h 1).getD 2 undef)), (toInt ((cellsOf h 1).getD 3 undef)), (toInt ((cellsOf h 1).getD 4 undef)), (toBool ((cellsOf h 1).getD 5 undef)))
noncomputable def e2F_k : Ct := kS e2F_ex [.ptr 0 0] [.cells [.int .i64, .boolC true, .int .i64, .int .i64, .int .i64, .ptr 0 5, .nilS, .ptr 1 0, .bool, .bool, .int .i64] 51 none, .cells [.int .i64, .int .u8, .int .u8, .int .i32, .int .i64, .bool] 77 none] (fun (a0, a1, a2, a3, a4, a5, a6, a7, a8, a9, a10, a11, a12) => e2F_pre a0 a1 a2 a3 a4 a5 a6 a7 a8 a9 a10 a11 a12) (fun (a0, a1, a2, a3, a4, a5, a6, a7, a8, a9, a10, a11, a12) => e2F_v a0 a1 a2 a3 a4 a5 a6 a7 a8 a9 a10 a11 a12) (fun (a0, a1, a2, a3, a4, a5, a6, a7, a8, a9, a10, a11, a12) => e2F_h a0 a1 a2 a3 a4 a5 a6 a7 a8 a9 a10 a11 a12)
theorem e2F_k_ok : KFor E 16 e2F_k := kS_ok (fun x hx => e2F_call (x.1) (x.2.1) (x.2.2.1) (x.2.2.2.1) (x.2.2.2.2.1) (x.2.2.2.2.2.1) (x.2.2.2.2.2.2.1) (x.2.2.2.2.2.2.2.1) (x.2.2.2.2.2.2.2.2.1) (x.2.2.2.2.2.2.2.2.2.1) (x.2.2.2.2.2.2.2.2.2.2.1) (x.2.2.2.2.2.2.2.2.2.2.2.1) (x.2.2.2.2.2.2.2.2.2.2.2.2) hx) (fun _ _ => rfl) (fun _ _ => rfl)


def e3W_pre (lim bad : Int) (op sum : Int) (begun last : Bool) (lacks : Int) (bn : Nat) (B : List Value) (left low : Int) (high x at' : Int) (cbad : Bool) : Prop := ((ecode bad op lacks left begun last cbad == 0) = true ∧ last = true) ∧ e_pr3 lim bad op sum begun last lacks bn B left low high x at' cbad
def e3W_v (lim bad : Int) (op sum : Int) (begun last : Bool) (lacks : Int) (bn : Nat) (B : List Value) (left low : Int) (high x at' : Int) (cbad : Bool) : Value := .tuple #[.agg #[.int .i64 op, .string (bytesOf B)], .bool true, .int .i64 0]
def e3W_h (lim bad : Int) (op sum : Int) (begun last : Bool) (lacks : Int) (bn : Nat) (B : List Value) (left low : Int) (high x at' : Int) (cbad : Bool) : Heap := [some (.cells [.int .i64 lim, .bool true, .int .i64 bad, .int .i64 0, .int .i64 0, .pointer none, .slice none 0 0, .pointer (some ⟨2, 0, none⟩), .bool false, .bool last, .int .i64 lacks] 51 none), none, some (.cells [.int .i64 left, .int .u8 low, .int .u8 high, .int .i32 x, .int .i64 at', .bool cbad] 77 none)]
theorem e3W_call (lim bad : Int) (op sum : Int) (begun last : Bool) (lacks : Int) (bn : Nat) (B : List Value) (left low : Int) (high x at' : Int) (cbad : Bool) (hp : e3W_pre lim bad op sum begun last lacks bn B left low high x at' cbad) : CallOk E 16 [.pointer (some ⟨0, 0, none⟩)] [some (.cells [.int .i64 lim, .bool true, .int .i64 bad, .int .i64 op, .int .i64 sum, .pointer (some ⟨0, 5, none⟩), .slice (some ⟨1, 0, none⟩) bn 0, .pointer (some ⟨2, 0, none⟩), .bool begun, .bool last, .int .i64 lacks] 51 none), some (.cells B 5 (some 1)), some (.cells [.int .i64 left, .int .u8 low, .int .u8 high, .int .i32 x, .int .i64 at', .bool cbad] 77 none)] (e3W_v lim bad op sum begun last lacks bn B left low high x at' cbad) (e3W_h lim bad op sum begun last lacks bn B left low high x at' cbad) := by
  have w := e3_all lim bad op sum begun last lacks bn B left low high x at' cbad hp.2
  obtain ⟨c0, c1⟩ := hp.1
  have e1 : e_v3 lim bad op sum begun last lacks bn B left low high x at' cbad = e3W_v lim bad op sum begun last lacks bn B left low high x at' cbad := by
    unfold e_v3 e3W_v
    first | rfl | (rw [c0]; simp only [cond_true, cond_false]; rw [c1]; simp only [cond_true, cond_false]) | (rw [c0]; rw [c1]; rfl)
  have e2 : e_h3 lim bad op sum begun last lacks bn B left low high x at' cbad = e3W_h lim bad op sum begun last lacks bn B left low high x at' cbad := by
    unfold e_h3 e3W_h
    first | rfl | (rw [c0]; simp only [cond_true, cond_false]; rw [c1]; simp only [cond_true, cond_false]) | (rw [c0]; rw [c1]; rfl)
  rw [e1, e2] at w
  exact w

def e3W_ex (a : List Value) (h : Heap) : Int × Int × Int × Int × Bool × Bool × Int × Nat × List Value × Int × Int × Int × Int × Int × Bool := ((toInt ((cellsOf h 0).getD 0 undef)), (toInt ((cellsOf h 0).getD 2 undef)), (toInt ((cellsOf h 0).getD 3 undef)), (toInt ((cellsOf h 0).getD 4 undef)), (toBool ((cellsOf h 0).getD 8 undef)), (toBool ((cellsOf h 0).getD 9 undef)), (toInt ((cellsOf h 0).getD 10 undef)), (sliceLen ((cellsOf h 0).getD 6 undef)), (cellsOf h 1), (toInt ((cellsOf h 2).getD 0 undef)), (toInt ((cellsOf h 2).getD 1 undef)), (toInt ((cellsOf h 2).getD 2 undef)), (toInt ((cellsOf h 2).getD 3 undef)), (toInt ((cellsOf h 2).getD 4 undef)), (toBool ((cellsOf h 2).getD 5 undef)))
noncomputable def e3W_k : Ct := kS e3W_ex [.ptr 0 0] [.cells [.int .i64, .boolC true, .int .i64, .int .i64, .int .i64, .ptr 0 5, .sl 1 (some 0) (some 0), .ptr 2 0, .bool, .bool, .int .i64] 51 none, .any 5 (some 1), .cells [.int .i64, .int .u8, .int .u8, .int .i32, .int .i64, .bool] 77 none] (fun (a0, a1, a2, a3, a4, a5, a6, a7, a8, a9, a10, a11, a12, a13, a14) => e3W_pre a0 a1 a2 a3 a4 a5 a6 a7 a8 a9 a10 a11 a12 a13 a14) (fun (a0, a1, a2, a3, a4, a5, a6, a7, a8, a9, a10, a11, a12, a13, a14) => e3W_v a0 a1 a2 a3 a4 a5 a6 a7 a8 a9 a10 a11 a12 a13 a14) (fun (a0, a1, a2, a3, a4, a5, a6, a7, a8, a9, a10, a11, a12, a13, a14) => e3W_h a0 a1 a2 a3 a4 a5 a6 a7 a8 a9 a10 a11 a12 a13 a14)
theorem e3W_k_ok : KFor E 16 e3W_k := kS_ok (fun x hx => e3W_call (x.1) (x.2.1) (x.2.2.1) (x.2.2.2.1) (x.2.2.2.2.1) (x.2.2.2.2.2.1) (x.2.2.2.2.2.2.1) (x.2.2.2.2.2.2.2.1) (x.2.2.2.2.2.2.2.2.1) (x.2.2.2.2.2.2.2.2.2.1) (x.2.2.2.2.2.2.2.2.2.2.1) (x.2.2.2.2.2.2.2.2.2.2.2.1) (x.2.2.2.2.2.2.2.2.2.2.2.2.1) (x.2.2.2.2.2.2.2.2.2.2.2.2.2.1) (x.2.2.2.2.2.2.2.2.2.2.2.2.2.2) hx) (fun _ _ => rfl) (fun _ _ => rfl)


def e3M_pre (lim bad : Int) (op sum : Int) (begun last : Bool) (lacks : Int) (bn : Nat) (B : List Value) (left low : Int) (high x at' : Int) (cbad : Bool) : Prop := ((ecode bad op lacks left begun last cbad == 0) = true ∧ last = false) ∧ e_pr3 lim bad op sum begun last lacks bn B left low high x at' cbad
def e3M_v (lim bad : Int) (op sum : Int) (begun last : Bool) (lacks : Int) (bn : Nat) (B : List Value) (left low : Int) (high x at' : Int) (cbad : Bool) : Value := .tuple #[.agg #[.int .i64 0, .string ⟨#[]⟩], .bool false, .int .i64 0]
def e3M_h (lim bad : Int) (op sum : Int) (begun last : Bool) (lacks : Int) (bn : Nat) (B : List Value) (left low : Int) (high x at' : Int) (cbad : Bool) : Heap := [some (.cells [.int .i64 lim, .bool true, .int .i64 bad, .int .i64 op, .int .i64 sum, .pointer (some ⟨0, 5, none⟩), .slice (some ⟨1, 0, none⟩) bn 0, .pointer (some ⟨2, 0, none⟩), .bool false, .bool last, .int .i64 lacks] 51 none), some (.cells B 5 (some 1)), some (.cells [.int .i64 left, .int .u8 low, .int .u8 high, .int .i32 x, .int .i64 at', .bool cbad] 77 none)]
theorem e3M_call (lim bad : Int) (op sum : Int) (begun last : Bool) (lacks : Int) (bn : Nat) (B : List Value) (left low : Int) (high x at' : Int) (cbad : Bool) (hp : e3M_pre lim bad op sum begun last lacks bn B left low high x at' cbad) : CallOk E 16 [.pointer (some ⟨0, 0, none⟩)] [some (.cells [.int .i64 lim, .bool true, .int .i64 bad, .int .i64 op, .int .i64 sum, .pointer (some ⟨0, 5, none⟩), .slice (some ⟨1, 0, none⟩) bn 0, .pointer (some ⟨2, 0, none⟩), .bool begun, .bool last, .int .i64 lacks] 51 none), some (.cells B 5 (some 1)), some (.cells [.int .i64 left, .int .u8 low, .int .u8 high, .int .i32 x, .int .i64 at', .bool cbad] 77 none)] (e3M_v lim bad op sum begun last lacks bn B left low high x at' cbad) (e3M_h lim bad op sum begun last lacks bn B left low high x at' cbad) := by
  have w := e3_all lim bad op sum begun last lacks bn B left low high x at' cbad hp.2
  obtain ⟨c0, c1⟩ := hp.1
  have e1 : e_v3 lim bad op sum begun last lacks bn B left low high x at' cbad = e3M_v lim bad op sum begun last lacks bn B left low high x at' cbad := by
    unfold e_v3 e3M_v
    first | rfl | (rw [c0]; simp only [cond_true, cond_false]; rw [c1]; simp only [cond_true, cond_false]) | (rw [c0]; rw [c1]; rfl)
  have e2 : e_h3 lim bad op sum begun last lacks bn B left low high x at' cbad = e3M_h lim bad op sum begun last lacks bn B left low high x at' cbad := by
    unfold e_h3 e3M_h
    first | rfl | (rw [c0]; simp only [cond_true, cond_false]; rw [c1]; simp only [cond_true, cond_false]) | (rw [c0]; rw [c1]; rfl)
  rw [e1, e2] at w
  exact w

def e3M_ex (a : List Value) (h : Heap) : Int × Int × Int × Int × Bool × Bool × Int × Nat × List Value × Int × Int × Int × Int × Int × Bool := ((toInt ((cellsOf h 0).getD 0 undef)), (toInt ((cellsOf h 0).getD 2 undef)), (toInt ((cellsOf h 0).getD 3 undef)), (toInt ((cellsOf h 0).getD 4 undef)), (toBool ((cellsOf h 0).getD 8 undef)), (toBool ((cellsOf h 0).getD 9 undef)), (toInt ((cellsOf h 0).getD 10 undef)), (sliceLen ((cellsOf h 0).getD 6 undef)), (cellsOf h 1), (toInt ((cellsOf h 2).getD 0 undef)), (toInt ((cellsOf h 2).getD 1 undef)), (toInt ((cellsOf h 2).getD 2 undef)), (toInt ((cellsOf h 2).getD 3 undef)), (toInt ((cellsOf h 2).getD 4 undef)), (toBool ((cellsOf h 2).getD 5 undef)))
noncomputable def e3M_k : Ct := kS e3M_ex [.ptr 0 0] [.cells [.int .i64, .boolC true, .int .i64, .int .i64, .int .i64, .ptr 0 5, .sl 1 (some 0) (some 0), .ptr 2 0, .bool, .bool, .int .i64] 51 none, .any 5 (some 1), .cells [.int .i64, .int .u8, .int .u8, .int .i32, .int .i64, .bool] 77 none] (fun (a0, a1, a2, a3, a4, a5, a6, a7, a8, a9, a10, a11, a12, a13, a14) => e3M_pre a0 a1 a2 a3 a4 a5 a6 a7 a8 a9 a10 a11 a12 a13 a14) (fun (a0, a1, a2, a3, a4, a5, a6, a7, a8, a9, a10, a11, a12, a13, a14) => e3M_v a0 a1 a2 a3 a4 a5 a6 a7 a8 a9 a10 a11 a12 a13 a14) (fun (a0, a1, a2, a3, a4, a5, a6, a7, a8, a9, a10, a11, a12, a13, a14) => e3M_h a0 a1 a2 a3 a4 a5 a6 a7 a8 a9 a10 a11 a12 a13 a14)
theorem e3M_k_ok : KFor E 16 e3M_k := kS_ok (fun x hx => e3M_call (x.1) (x.2.1) (x.2.2.1) (x.2.2.2.1) (x.2.2.2.2.1) (x.2.2.2.2.2.1) (x.2.2.2.2.2.2.1) (x.2.2.2.2.2.2.2.1) (x.2.2.2.2.2.2.2.2.1) (x.2.2.2.2.2.2.2.2.2.1) (x.2.2.2.2.2.2.2.2.2.2.1) (x.2.2.2.2.2.2.2.2.2.2.2.1) (x.2.2.2.2.2.2.2.2.2.2.2.2.1) (x.2.2.2.2.2.2.2.2.2.2.2.2.2.1) (x.2.2.2.2.2.2.2.2.2.2.2.2.2.2) hx) (fun _ _ => rfl) (fun _ _ => rfl)


def e3F_pre (lim bad : Int) (op sum : Int) (begun last : Bool) (lacks : Int) (bn : Nat) (B : List Value) (left low : Int) (high x at' : Int) (cbad : Bool) : Prop := ((ecode bad op lacks left begun last cbad == 0) = false) ∧ e_pr3 lim bad op sum begun last lacks bn B left low high x at' cbad
def e3F_v (lim bad : Int) (op sum : Int) (begun last : Bool) (lacks : Int) (bn : Nat) (B : List Value) (left low : Int) (high x at' : Int) (cbad : Bool) : Value := .tuple #[.agg #[.int .i64 0, .string ⟨#[]⟩], .bool false, .int .i64 (ecode bad op lacks left begun last cbad)]
def e3F_h (lim bad : Int) (op sum : Int) (begun last : Bool) (lacks : Int) (bn : Nat) (B : List Value) (left low : Int) (high x at' : Int) (cbad : Bool) : Heap := [some (.cells [.int .i64 lim, .bool true, .int .i64 (ecode bad op lacks left begun last cbad), .int .i64 op, .int .i64 sum, .pointer (some ⟨0, 5, none⟩), .slice (some ⟨1, 0, none⟩) bn 0, .pointer (some ⟨2, 0, none⟩), .bool begun, .bool last, .int .i64 lacks] 51 none), some (.cells B 5 (some 1)), some (.cells [.int .i64 left, .int .u8 low, .int .u8 high, .int .i32 x, .int .i64 at', .bool cbad] 77 none)]
theorem e3F_call (lim bad : Int) (op sum : Int) (begun last : Bool) (lacks : Int) (bn : Nat) (B : List Value) (left low : Int) (high x at' : Int) (cbad : Bool) (hp : e3F_pre lim bad op sum begun last lacks bn B left low high x at' cbad) : CallOk E 16 [.pointer (some ⟨0, 0, none⟩)] [some (.cells [.int .i64 lim, .bool true, .int .i64 bad, .int .i64 op, .int .i64 sum, .pointer (some ⟨0, 5, none⟩), .slice (some ⟨1, 0, none⟩) bn 0, .pointer (some ⟨2, 0, none⟩), .bool begun, .bool last, .int .i64 lacks] 51 none), some (.cells B 5 (some 1)), some (.cells [.int .i64 left, .int .u8 low, .int .u8 high, .int .i32 x, .int .i64 at', .bool cbad] 77 none)] (e3F_v lim bad op sum begun last lacks bn B left low high x at' cbad) (e3F_h lim bad op sum begun last lacks bn B left low high x at' cbad) := by
  have w := e3_all lim bad op sum begun last lacks bn B left low high x at' cbad hp.2
  obtain c0 := hp.1
  have e1 : e_v3 lim bad op sum begun last lacks bn B left low high x at' cbad = e3F_v lim bad op sum begun last lacks bn B left low high x at' cbad := by
    unfold e_v3 e3F_v
    first | rfl | (rw [c0]; simp only [cond_true, cond_false]) | (rw [c0]; rfl)
  have e2 : e_h3 lim bad op sum begun last lacks bn B left low high x at' cbad = e3F_h lim bad op sum begun last lacks bn B left low high x at' cbad := by
    unfold e_h3 e3F_h
    first | rfl | (rw [c0]; simp only [cond_true, cond_false]) | (rw [c0]; rfl)
  rw [e1, e2] at w
  exact w

def e3F_ex (a : List Value) (h : Heap) : Int × Int × Int × Int × Bool × Bool × Int × Nat × List Value × Int × Int × Int × Int × Int × Bool := ((toInt ((cellsOf h 0).getD 0 undef)), (toInt ((cellsOf h 0).getD 2 undef)), (toInt ((cellsOf h 0).getD 3 undef)), (toInt ((cellsOf h 0).getD 4 undef)), (toBool ((cellsOf h 0).getD 8 undef)), (toBool ((cellsOf h 0).getD 9 undef)), (toInt ((cellsOf h 0).getD 10 undef)), (sliceLen ((cellsOf h 0).getD 6 undef)), (cellsOf h 1), (toInt ((cellsOf h 2).getD 0 undef)), (toInt ((cellsOf h 2).getD 1 undef)), (toInt ((cellsOf h 2).getD 2 undef)), (toInt ((cellsOf h 2).getD 3 undef)), (toInt ((cellsOf h 2).getD 4 undef)), (toBool ((cellsOf h 2).getD 5 undef)))
noncomputable def e3F_k : Ct := kS e3F_ex [.ptr 0 0] [.cells [.int .i64, .boolC true, .int .i64, .int .i64, .int .i64, .ptr 0 5, .sl 1 (some 0) (some 0), .ptr 2 0, .bool, .bool, .int .i64] 51 none, .any 5 (some 1), .cells [.int .i64, .int .u8, .int .u8, .int .i32, .int .i64, .bool] 77 none] (fun (a0, a1, a2, a3, a4, a5, a6, a7, a8, a9, a10, a11, a12, a13, a14) => e3F_pre a0 a1 a2 a3 a4 a5 a6 a7 a8 a9 a10 a11 a12 a13 a14) (fun (a0, a1, a2, a3, a4, a5, a6, a7, a8, a9, a10, a11, a12, a13, a14) => e3F_v a0 a1 a2 a3 a4 a5 a6 a7 a8 a9 a10 a11 a12 a13 a14) (fun (a0, a1, a2, a3, a4, a5, a6, a7, a8, a9, a10, a11, a12, a13, a14) => e3F_h a0 a1 a2 a3 a4 a5 a6 a7 a8 a9 a10 a11 a12 a13 a14)
theorem e3F_k_ok : KFor E 16 e3F_k := kS_ok (fun x hx => e3F_call (x.1) (x.2.1) (x.2.2.1) (x.2.2.2.1) (x.2.2.2.2.1) (x.2.2.2.2.2.1) (x.2.2.2.2.2.2.1) (x.2.2.2.2.2.2.2.1) (x.2.2.2.2.2.2.2.2.1) (x.2.2.2.2.2.2.2.2.2.1) (x.2.2.2.2.2.2.2.2.2.2.1) (x.2.2.2.2.2.2.2.2.2.2.2.1) (x.2.2.2.2.2.2.2.2.2.2.2.2.1) (x.2.2.2.2.2.2.2.2.2.2.2.2.2.1) (x.2.2.2.2.2.2.2.2.2.2.2.2.2.2) hx) (fun _ _ => rfl) (fun _ _ => rfl)


def e1_ask1_f (lim bad : Int) (op sum : Int) (begun last : Bool) (lacks left : Int) (low high : Int) (x at' : Int) (cbad : Bool) : Bool := last
def e1_ask1_ex (a : List Value) (h : Heap) : Bool := (fun x => (x.2.2.2.2.2.1)) (e1W_ex a h)
def e1_ask0_f (lim bad : Int) (op sum : Int) (begun last : Bool) (lacks left : Int) (low high : Int) (x at' : Int) (cbad : Bool) : Bool := (ecode bad op lacks left begun last cbad == 0)
def e1_ask0_ex (a : List Value) (h : Heap) : Bool := (fun x => (ecode (x.2.1) (x.2.2.1) (x.2.2.2.2.2.2.1) (x.2.2.2.2.2.2.2.1) (x.2.2.2.2.1) (x.2.2.2.2.2.1) (x.2.2.2.2.2.2.2.2.2.2.2.2) == 0)) (e1W_ex a h)
def e2_ask1_f (lim bad : Int) (op sum : Int) (begun last : Bool) (lacks left : Int) (low high : Int) (x at' : Int) (cbad : Bool) : Bool := last
def e2_ask1_ex (a : List Value) (h : Heap) : Bool := (fun x => (x.2.2.2.2.2.1)) (e2W_ex a h)
def e2_ask0_f (lim bad : Int) (op sum : Int) (begun last : Bool) (lacks left : Int) (low high : Int) (x at' : Int) (cbad : Bool) : Bool := (ecode bad op lacks left begun last cbad == 0)
def e2_ask0_ex (a : List Value) (h : Heap) : Bool := (fun x => (ecode (x.2.1) (x.2.2.1) (x.2.2.2.2.2.2.1) (x.2.2.2.2.2.2.2.1) (x.2.2.2.2.1) (x.2.2.2.2.2.1) (x.2.2.2.2.2.2.2.2.2.2.2.2) == 0)) (e2W_ex a h)
def e3_ask1_f (lim bad : Int) (op sum : Int) (begun last : Bool) (lacks : Int) (bn : Nat) (B : List Value) (left low : Int) (high x at' : Int) (cbad : Bool) : Bool := last
def e3_ask1_ex (a : List Value) (h : Heap) : Bool := (fun x => (x.2.2.2.2.2.1)) (e3W_ex a h)
def e3_ask0_f (lim bad : Int) (op sum : Int) (begun last : Bool) (lacks : Int) (bn : Nat) (B : List Value) (left low : Int) (high x at' : Int) (cbad : Bool) : Bool := (ecode bad op lacks left begun last cbad == 0)
def e3_ask0_ex (a : List Value) (h : Heap) : Bool := (fun x => (ecode (x.2.1) (x.2.2.1) (x.2.2.2.2.2.2.1) (x.2.2.2.2.2.2.2.2.2.1) (x.2.2.2.2.1) (x.2.2.2.2.2.1) (x.2.2.2.2.2.2.2.2.2.2.2.2.2.2) == 0)) (e3W_ex a h)
noncomputable def e_kk : CtD := kOrD (fun _ H => nilP 7 H) (kFin e0F_k) (kOrD (fun _ H => nilP 5 H) (kAsk e1_ask0_ex (kAsk e1_ask1_ex (kFin e1W_k) (kFin e1M_k)) (kFin e1F_k)) (kOrD (fun _ H => nilAt 6 H) (kAsk e2_ask0_ex (kAsk e2_ask1_ex (kFin e2W_k) (kFin e2M_k)) (kFin e2F_k)) (kAsk e3_ask0_ex (kAsk e3_ask1_ex (kFin e3W_k) (kFin e3M_k)) (kFin e3F_k))))
theorem e_kk_ok : KForD E 16 e_kk := kOrD_ok (kFin_ok e0F_k_ok) (kOrD_ok (kAsk_ok (kAsk_ok (kFin_ok e1W_k_ok) (kFin_ok e1M_k_ok)) (kFin_ok e1F_k_ok)) (kOrD_ok (kAsk_ok (kAsk_ok (kFin_ok e2W_k_ok) (kFin_ok e2M_k_ok)) (kFin_ok e2F_k_ok)) (kAsk_ok (kAsk_ok (kFin_ok e3W_k_ok) (kFin_ok e3M_k_ok)) (kFin_ok e3F_k_ok))))

end Go.Proofs.Ytgaedhpeiamdfaa
