/-
  The joiner's contracts for texts that may be none: what cannot be is not asked.
-/
import Derived.Test.YtgaedhpeiamdfaaAmSlim
import Derived.Test.YtgaedhpeiamdfaaMessageB
import Derived.Test.YtgaedhpeiamdfaaMessageKb
import Derived.Test.YtgaedhpeiamdfaaMessageKp
import Derived.Test.YtgaedhpeiamdfaaMessageKe
import Derived.Test.YtgaedhpeiamdfaaUtfO18
set_option linter.unusedVariables false
set_option linter.unusedSimpArgs false
open Go Go.Am
namespace Go.Proofs.Ytgaedhpeiamdfaa

def valid_ex (a : List Value) (h : Heap) : ByteArray := (toStr (a.getD 0 undef))
noncomputable def valid_k : Ct := kS valid_ex [.str] [] (fun x => valid_pre x) (fun x => valid_v x) (fun x => valid_h x)
theorem valid_k_ok : KFor E 22 valid_k := kS_ok (fun x hx => valid_call x hx) (fun _ _ => rfl) (fun _ _ => rfl)


abbrev turn_R : Type := Int
def turn_V (n many r : Int) : Value := .int .i64 r
def turn_H (n many r : Int) : Heap := []
noncomputable def turn_Q (n many : Int) (C : Cfg) (r : turn_R) : Prop :=
  let p := r
  AEnds E 21 0 C (turn_V n many p) (turn_H n many p)
noncomputable def turn_t0 (n many : Int) : turn_R :=
  bif decide (n.tmod many < 0) then IntKind.i64.wrap (n.tmod many + many)
  else n.tmod many
def turn_S0 (n many : Int) : Prop :=
  ((decide (n.tmod many < 0)) = true → (many != 0) = true) ∧
  ((decide (n.tmod many < 0)) = false → (many != 0) = true)
theorem turn_ok0 (n many : Int) (hS : turn_S0 n many) : turn_Q n many (startC E 21 ([.int .i64 n, .int .i64 many]) ([])) (turn_t0 n many) := by
  unfold turn_S0 at hS
  unfold turn_t0
  refine cond_intro (P := turn_Q n many (startC E 21 ([.int .i64 n, .int .i64 many]) ([]))) _ (fun h0 => ?_) (fun h0 => ?_)
  · skip
    exact ends_q noK_ok 2000 29 (some [true]) [] [4] [] (andI (dT h0) (andI ((hS.1 h0)) (rfl)))
  · skip
    exact ends_q noK_ok 2000 24 (some [false]) [] [4] [] (andI (dF h0) (andI ((hS.2 h0)) (rfl)))
theorem turn_call (n many : Int) (hS : turn_S0 n many) : CallOk E 21 ([.int .i64 n, .int .i64 many]) ([]) (turn_V n many (turn_t0 n many)) (turn_H n many (turn_t0 n many)) := callOk_of_ends (turn_ok0 n many hS) (by kernel_rfl) (Nat.le_of_ble_eq_true (by kernel_rfl))
def turn_ex (a : List Value) (h : Heap) : Int × Int := ((toInt (a.getD 0 undef)), (toInt (a.getD 1 undef)))
noncomputable def turn_k : Ct := kS turn_ex [.int .i64, .int .i64] [] (fun (a0, a1) => turn_S0 a0 a1) (fun (a0, a1) => turn_V a0 a1 (turn_t0 a0 a1)) (fun (a0, a1) => turn_H a0 a1 (turn_t0 a0 a1))
theorem turn_k_ok : KFor E 21 turn_k := kS_ok (fun x hx => turn_call (x.1) (x.2) hx) (fun _ _ => rfl) (fun _ _ => rfl)


/-- Is the number in the cell i of the first block none? -/
def zeroAt (i : Nat) (H : Heap) : Bool :=
  match H with
  | some (.cells cs _ _) :: _ => match cs[i]? with
    | some (.int _ n) => n == 0
    | _ => false
  | _ => false
def trueAt (i : Nat) (H : Heap) : Bool :=
  match H with
  | some (.cells cs _ _) :: _ => match cs[i]? with
    | some (.bool b) => b
    | _ => false
  | _ => false
def e1G_pre (lim bad : Int) (op sum : Int) (begun last : Bool) (lacks left : Int) (low high : Int) (x at' : Int) (cbad : Bool) : Prop := (ecode bad op lacks left begun last cbad = 1007) ∧ e_pr1 lim bad op sum begun last lacks left low high x at' cbad
def e1G_v (lim bad : Int) (op sum : Int) (begun last : Bool) (lacks left : Int) (low high : Int) (x at' : Int) (cbad : Bool) : Value := .tuple #[.agg #[.int .i64 0, .string ⟨#[]⟩], .bool false, .int .i64 1007]
def e1G_h (lim bad : Int) (op sum : Int) (begun last : Bool) (lacks left : Int) (low high : Int) (x at' : Int) (cbad : Bool) : Heap := [some (.cells [.int .i64 lim, .bool true, .int .i64 1007, .int .i64 op, .int .i64 sum, .pointer none, .slice none 0 0, .pointer (some ⟨1, 0, none⟩), .bool begun, .bool last, .int .i64 lacks] 51 none), some (.cells [.int .i64 left, .int .u8 low, .int .u8 high, .int .i32 x, .int .i64 at', .bool cbad] 77 none)]
theorem e1G_call (lim bad : Int) (op sum : Int) (begun last : Bool) (lacks left : Int) (low high : Int) (x at' : Int) (cbad : Bool) (hp : e1G_pre lim bad op sum begun last lacks left low high x at' cbad) : CallOk E 16 [.pointer (some ⟨0, 0, none⟩)] [some (.cells [.int .i64 lim, .bool true, .int .i64 bad, .int .i64 op, .int .i64 sum, .pointer none, .slice none 0 0, .pointer (some ⟨1, 0, none⟩), .bool begun, .bool last, .int .i64 lacks] 51 none), some (.cells [.int .i64 left, .int .u8 low, .int .u8 high, .int .i32 x, .int .i64 at', .bool cbad] 77 none)] (e1G_v lim bad op sum begun last lacks left low high x at' cbad) (e1G_h lim bad op sum begun last lacks left low high x at' cbad) := by
  have w := e1F_call lim bad op sum begun last lacks left low high x at' cbad ⟨by rw [hp.1]; rfl, hp.2⟩
  unfold e1F_v e1F_h at w
  rw [hp.1] at w
  exact w

def e1G_ex (a : List Value) (h : Heap) : Int × Int × Int × Int × Bool × Bool × Int × Int × Int × Int × Int × Int × Bool := ((toInt ((cellsOf h 0).getD 0 undef)), (toInt ((cellsOf h 0).getD 2 undef)), (toInt ((cellsOf h 0).getD 3 undef)), (toInt ((cellsOf h 0).getD 4 undef)), (toBool ((cellsOf h 0).getD 8 undef)), (toBool ((cellsOf h 0).getD 9 undef)), (toInt ((cellsOf h 0).getD 10 undef)), (toInt ((cellsOf h 1).getD 0 undef)), (toInt ((cellsOf h 1).getD 1 undef)), (toInt ((cellsOf h 1).getD 2 undef)), (toInt ((cellsOf h 1).getD 3 undef)), (toInt ((cellsOf h 1).getD 4 undef)), (toBool ((cellsOf h 1).getD 5 undef)))
noncomputable def e1G_k : Ct := kS e1G_ex [.ptr 0 0] [.cells [.int .i64, .boolC true, .int .i64, .int .i64, .int .i64, .nilP, .nilS, .ptr 1 0, .bool, .bool, .int .i64] 51 none, .cells [.int .i64, .int .u8, .int .u8, .int .i32, .int .i64, .bool] 77 none] (fun (a0, a1, a2, a3, a4, a5, a6, a7, a8, a9, a10, a11, a12) => e1G_pre a0 a1 a2 a3 a4 a5 a6 a7 a8 a9 a10 a11 a12) (fun (a0, a1, a2, a3, a4, a5, a6, a7, a8, a9, a10, a11, a12) => e1G_v a0 a1 a2 a3 a4 a5 a6 a7 a8 a9 a10 a11 a12) (fun (a0, a1, a2, a3, a4, a5, a6, a7, a8, a9, a10, a11, a12) => e1G_h a0 a1 a2 a3 a4 a5 a6 a7 a8 a9 a10 a11 a12)
theorem e1G_k_ok : KFor E 16 e1G_k := kS_ok (fun x hx => e1G_call (x.1) (x.2.1) (x.2.2.1) (x.2.2.2.1) (x.2.2.2.2.1) (x.2.2.2.2.2.1) (x.2.2.2.2.2.2.1) (x.2.2.2.2.2.2.2.1) (x.2.2.2.2.2.2.2.2.1) (x.2.2.2.2.2.2.2.2.2.1) (x.2.2.2.2.2.2.2.2.2.2.1) (x.2.2.2.2.2.2.2.2.2.2.2.1) (x.2.2.2.2.2.2.2.2.2.2.2.2) hx) (fun _ _ => rfl) (fun _ _ => rfl)


def e2G_pre (lim bad : Int) (op sum : Int) (begun last : Bool) (lacks left : Int) (low high : Int) (x at' : Int) (cbad : Bool) : Prop := (ecode bad op lacks left begun last cbad = 1007) ∧ e_pr2 lim bad op sum begun last lacks left low high x at' cbad
def e2G_v (lim bad : Int) (op sum : Int) (begun last : Bool) (lacks left : Int) (low high : Int) (x at' : Int) (cbad : Bool) : Value := .tuple #[.agg #[.int .i64 0, .string ⟨#[]⟩], .bool false, .int .i64 1007]
def e2G_h (lim bad : Int) (op sum : Int) (begun last : Bool) (lacks left : Int) (low high : Int) (x at' : Int) (cbad : Bool) : Heap := [some (.cells [.int .i64 lim, .bool true, .int .i64 1007, .int .i64 op, .int .i64 sum, .pointer (some ⟨0, 5, none⟩), .slice none 0 0, .pointer (some ⟨1, 0, none⟩), .bool begun, .bool last, .int .i64 lacks] 51 none), some (.cells [.int .i64 left, .int .u8 low, .int .u8 high, .int .i32 x, .int .i64 at', .bool cbad] 77 none)]
theorem e2G_call (lim bad : Int) (op sum : Int) (begun last : Bool) (lacks left : Int) (low high : Int) (x at' : Int) (cbad : Bool) (hp : e2G_pre lim bad op sum begun last lacks left low high x at' cbad) : CallOk E 16 [.pointer (some ⟨0, 0, none⟩)] [some (.cells [.int .i64 lim, .bool true, .int .i64 bad, .int .i64 op, .int .i64 sum, .pointer (some ⟨0, 5, none⟩), .slice none 0 0, .pointer (some ⟨1, 0, none⟩), .bool begun, .bool last, .int .i64 lacks] 51 none), some (.cells [.int .i64 left, .int .u8 low, .int .u8 high, .int .i32 x, .int .i64 at', .bool cbad] 77 none)] (e2G_v lim bad op sum begun last lacks left low high x at' cbad) (e2G_h lim bad op sum begun last lacks left low high x at' cbad) := by
  have w := e2F_call lim bad op sum begun last lacks left low high x at' cbad ⟨by rw [hp.1]; rfl, hp.2⟩
  unfold e2F_v e2F_h at w
  rw [hp.1] at w
  exact w

def e2G_ex (a : List Value) (h : Heap) : Int × Int × Int × Int × Bool × Bool × Int × Int × Int × Int × Int × Int × Bool := ((toInt ((cellsOf h 0).getD 0 undef)), (toInt ((cellsOf h 0).getD 2 undef)), (toInt ((cellsOf h 0).getD 3 undef)), (toInt ((cellsOf h 0).getD 4 undef)), (toBool ((cellsOf h 0).getD 8 undef)), (toBool ((cellsOf h 0).getD 9 undef)), (toInt ((cellsOf h 0).getD 10 undef)), (toInt ((cellsOf h 1).getD 0 undef)), (toInt ((cellsOf h 1).getD 1 undef)), (toInt ((cellsOf h 1).getD 2 undef)), (toInt ((cellsOf h 1).getD 3 undef)), (toInt ((cellsOf h 1).getD 4 undef)), (toBool ((cellsOf h 1).getD 5 undef)))
noncomputable def e2G_k : Ct := kS e2G_ex [.ptr 0 0] [.cells [.int .i64, .boolC true, .int .i64, .int .i64, .int .i64, .ptr 0 5, .nilS, .ptr 1 0, .bool, .bool, .int .i64] 51 none, .cells [.int .i64, .int .u8, .int .u8, .int .i32, .int .i64, .bool] 77 none] (fun (a0, a1, a2, a3, a4, a5, a6, a7, a8, a9, a10, a11, a12) => e2G_pre a0 a1 a2 a3 a4 a5 a6 a7 a8 a9 a10 a11 a12) (fun (a0, a1, a2, a3, a4, a5, a6, a7, a8, a9, a10, a11, a12) => e2G_v a0 a1 a2 a3 a4 a5 a6 a7 a8 a9 a10 a11 a12) (fun (a0, a1, a2, a3, a4, a5, a6, a7, a8, a9, a10, a11, a12) => e2G_h a0 a1 a2 a3 a4 a5 a6 a7 a8 a9 a10 a11 a12)
theorem e2G_k_ok : KFor E 16 e2G_k := kS_ok (fun x hx => e2G_call (x.1) (x.2.1) (x.2.2.1) (x.2.2.2.1) (x.2.2.2.2.1) (x.2.2.2.2.2.1) (x.2.2.2.2.2.2.1) (x.2.2.2.2.2.2.2.1) (x.2.2.2.2.2.2.2.2.1) (x.2.2.2.2.2.2.2.2.2.1) (x.2.2.2.2.2.2.2.2.2.2.1) (x.2.2.2.2.2.2.2.2.2.2.2.1) (x.2.2.2.2.2.2.2.2.2.2.2.2) hx) (fun _ _ => rfl) (fun _ _ => rfl)


def e3G_pre (lim bad : Int) (op sum : Int) (begun last : Bool) (lacks : Int) (bn : Nat) (B : List Value) (left low : Int) (high x at' : Int) (cbad : Bool) : Prop := (ecode bad op lacks left begun last cbad = 1007) ∧ e_pr3 lim bad op sum begun last lacks bn B left low high x at' cbad
def e3G_v (lim bad : Int) (op sum : Int) (begun last : Bool) (lacks : Int) (bn : Nat) (B : List Value) (left low : Int) (high x at' : Int) (cbad : Bool) : Value := .tuple #[.agg #[.int .i64 0, .string ⟨#[]⟩], .bool false, .int .i64 1007]
def e3G_h (lim bad : Int) (op sum : Int) (begun last : Bool) (lacks : Int) (bn : Nat) (B : List Value) (left low : Int) (high x at' : Int) (cbad : Bool) : Heap := [some (.cells [.int .i64 lim, .bool true, .int .i64 1007, .int .i64 op, .int .i64 sum, .pointer (some ⟨0, 5, none⟩), .slice (some ⟨1, 0, none⟩) bn 0, .pointer (some ⟨2, 0, none⟩), .bool begun, .bool last, .int .i64 lacks] 51 none), some (.cells B 5 (some 1)), some (.cells [.int .i64 left, .int .u8 low, .int .u8 high, .int .i32 x, .int .i64 at', .bool cbad] 77 none)]
theorem e3G_call (lim bad : Int) (op sum : Int) (begun last : Bool) (lacks : Int) (bn : Nat) (B : List Value) (left low : Int) (high x at' : Int) (cbad : Bool) (hp : e3G_pre lim bad op sum begun last lacks bn B left low high x at' cbad) : CallOk E 16 [.pointer (some ⟨0, 0, none⟩)] [some (.cells [.int .i64 lim, .bool true, .int .i64 bad, .int .i64 op, .int .i64 sum, .pointer (some ⟨0, 5, none⟩), .slice (some ⟨1, 0, none⟩) bn 0, .pointer (some ⟨2, 0, none⟩), .bool begun, .bool last, .int .i64 lacks] 51 none), some (.cells B 5 (some 1)), some (.cells [.int .i64 left, .int .u8 low, .int .u8 high, .int .i32 x, .int .i64 at', .bool cbad] 77 none)] (e3G_v lim bad op sum begun last lacks bn B left low high x at' cbad) (e3G_h lim bad op sum begun last lacks bn B left low high x at' cbad) := by
  have w := e3F_call lim bad op sum begun last lacks bn B left low high x at' cbad ⟨by rw [hp.1]; rfl, hp.2⟩
  unfold e3F_v e3F_h at w
  rw [hp.1] at w
  exact w

def e3G_ex (a : List Value) (h : Heap) : Int × Int × Int × Int × Bool × Bool × Int × Nat × List Value × Int × Int × Int × Int × Int × Bool := ((toInt ((cellsOf h 0).getD 0 undef)), (toInt ((cellsOf h 0).getD 2 undef)), (toInt ((cellsOf h 0).getD 3 undef)), (toInt ((cellsOf h 0).getD 4 undef)), (toBool ((cellsOf h 0).getD 8 undef)), (toBool ((cellsOf h 0).getD 9 undef)), (toInt ((cellsOf h 0).getD 10 undef)), (sliceLen ((cellsOf h 0).getD 6 undef)), (cellsOf h 1), (toInt ((cellsOf h 2).getD 0 undef)), (toInt ((cellsOf h 2).getD 1 undef)), (toInt ((cellsOf h 2).getD 2 undef)), (toInt ((cellsOf h 2).getD 3 undef)), (toInt ((cellsOf h 2).getD 4 undef)), (toBool ((cellsOf h 2).getD 5 undef)))
noncomputable def e3G_k : Ct := kS e3G_ex [.ptr 0 0] [.cells [.int .i64, .boolC true, .int .i64, .int .i64, .int .i64, .ptr 0 5, .sl 1 (some 0) (some 0), .ptr 2 0, .bool, .bool, .int .i64] 51 none, .any 5 (some 1), .cells [.int .i64, .int .u8, .int .u8, .int .i32, .int .i64, .bool] 77 none] (fun (a0, a1, a2, a3, a4, a5, a6, a7, a8, a9, a10, a11, a12, a13, a14) => e3G_pre a0 a1 a2 a3 a4 a5 a6 a7 a8 a9 a10 a11 a12 a13 a14) (fun (a0, a1, a2, a3, a4, a5, a6, a7, a8, a9, a10, a11, a12, a13, a14) => e3G_v a0 a1 a2 a3 a4 a5 a6 a7 a8 a9 a10 a11 a12 a13 a14) (fun (a0, a1, a2, a3, a4, a5, a6, a7, a8, a9, a10, a11, a12, a13, a14) => e3G_h a0 a1 a2 a3 a4 a5 a6 a7 a8 a9 a10 a11 a12 a13 a14)
theorem e3G_k_ok : KFor E 16 e3G_k := kS_ok (fun x hx => e3G_call (x.1) (x.2.1) (x.2.2.1) (x.2.2.2.1) (x.2.2.2.2.1) (x.2.2.2.2.2.1) (x.2.2.2.2.2.2.1) (x.2.2.2.2.2.2.2.1) (x.2.2.2.2.2.2.2.2.1) (x.2.2.2.2.2.2.2.2.2.1) (x.2.2.2.2.2.2.2.2.2.2.1) (x.2.2.2.2.2.2.2.2.2.2.2.1) (x.2.2.2.2.2.2.2.2.2.2.2.2.1) (x.2.2.2.2.2.2.2.2.2.2.2.2.2.1) (x.2.2.2.2.2.2.2.2.2.2.2.2.2.2) hx) (fun _ _ => rfl) (fun _ _ => rfl)


noncomputable def bb_kk : CtD := kOrD (fun _ H => zeroAt 2 H) (kOrD (fun _ H => nilP 7 H) (kFin b0N_k) (kOrD (fun _ H => nilP 5 H) (kFin b1M_k) (kOrD (fun _ H => nilAt 6 H) (kFin b2M_k) (kFin b3M_k)))) (kOrD (fun _ H => nilP 5 H) (kFin b1F_k) (kOrD (fun _ H => nilAt 6 H) (kFin b2F_k) (kFin b3F_k)))
theorem bb_kk_ok : KForD E 12 bb_kk := kOrD_ok (kOrD_ok (kFin_ok b0N_k_ok) (kOrD_ok (kFin_ok b1M_k_ok) (kOrD_ok (kFin_ok b2M_k_ok) (kFin_ok b3M_k_ok)))) (kOrD_ok (kFin_ok b1F_k_ok) (kOrD_ok (kFin_ok b2F_k_ok) (kFin_ok b3F_k_ok)))
noncomputable def bp_kk : CtD := kOrD (fun _ H => zeroAt 2 H) (kOrD (fun _ H => nilP 5 H) (kAsk p1_ask1_ex (kFin p1B_k) (kAsk p1_ask2_ex (kFin p1S_k) (kFin p1T_k))) (kOrD (fun _ H => nilAt 6 H) (kAsk p2_ask1_ex (kFin p2B_k) (kAsk p2_ask2_ex (kFin p2S_k) (kFin p2T_k))) (kAsk p3_ask1_ex (kFin p3B_k) (kFin p3T_k)))) (kOrD (fun _ H => nilP 5 H) (kFin p1F_k) (kOrD (fun _ H => nilAt 6 H) (kFin p2F_k) (kFin p3F_k)))
theorem bp_kk_ok : KForD E 14 bp_kk := kOrD_ok (kOrD_ok (kAsk_ok (kFin_ok p1B_k_ok) (kAsk_ok (kFin_ok p1S_k_ok) (kFin_ok p1T_k_ok))) (kOrD_ok (kAsk_ok (kFin_ok p2B_k_ok) (kAsk_ok (kFin_ok p2S_k_ok) (kFin_ok p2T_k_ok))) (kAsk_ok (kFin_ok p3B_k_ok) (kFin_ok p3T_k_ok)))) (kOrD_ok (kFin_ok p1F_k_ok) (kOrD_ok (kFin_ok p2F_k_ok) (kFin_ok p3F_k_ok)))
noncomputable def be_kk : CtD := kOrD (fun _ H => zeroAt 2 H) (kOrD (fun _ H => trueAt 9 H) (kOrD (fun _ H => nilP 5 H) (kAsk e1_ask0_ex (kFin e1W_k) (kFin e1G_k)) (kOrD (fun _ H => nilAt 6 H) (kAsk e2_ask0_ex (kFin e2W_k) (kFin e2G_k)) (kAsk e3_ask0_ex (kFin e3W_k) (kFin e3G_k)))) (kOrD (fun _ H => nilP 5 H) (kFin e1M_k) (kOrD (fun _ H => nilAt 6 H) (kFin e2M_k) (kFin e3M_k)))) (kOrD (fun _ H => nilP 5 H) (kFin e1F_k) (kOrD (fun _ H => nilAt 6 H) (kFin e2F_k) (kFin e3F_k)))
theorem be_kk_ok : KForD E 16 be_kk := kOrD_ok (kOrD_ok (kOrD_ok (kAsk_ok (kFin_ok e1W_k_ok) (kFin_ok e1G_k_ok)) (kOrD_ok (kAsk_ok (kFin_ok e2W_k_ok) (kFin_ok e2G_k_ok)) (kAsk_ok (kFin_ok e3W_k_ok) (kFin_ok e3G_k_ok)))) (kOrD_ok (kFin_ok e1M_k_ok) (kOrD_ok (kFin_ok e2M_k_ok) (kFin_ok e3M_k_ok)))) (kOrD_ok (kFin_ok e1F_k_ok) (kOrD_ok (kFin_ok e2F_k_ok) (kFin_ok e3F_k_ok)))
noncomputable def KF0 : Ctr := ctrOf E [(10, anyA, wakes_k), (22, anyA, valid_k), (21, anyA, turn_k)]
theorem KF0_ok : KOk E KF0 := ctr_cons wakes_k_ok (ctr_cons valid_k_ok (ctr_cons turn_k_ok ctr_nil))
noncomputable def KF : Ctr := ctrD E [(12, ptrA, bb_kk), (14, ptrA, bp_kk), (16, ptrA, be_kk)] KF0
theorem KF_ok : KOk E KF := ctrD_cons bb_kk_ok (ctrD_cons bp_kk_ok (ctrD_cons be_kk_ok (ctrD_nil KF0_ok)))

end Go.Proofs.Ytgaedhpeiamdfaa
