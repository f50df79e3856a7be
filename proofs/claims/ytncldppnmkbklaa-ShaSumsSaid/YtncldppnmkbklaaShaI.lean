/-
  The program's sum: the unit.
-/
import Derived.Test.YtncldppnmkbklaaAmSlim
import Derived.Test.YtncldppnmkbklaaShaH
import Derived.Test.YtncldppnmkbklaaAmLift
import Derived.Test.YtncldppnmkbklaaShelf
set_option linter.unusedVariables false
set_option linter.unusedSimpArgs false
open Go Go.Am
namespace Go.Proofs.Ytncldppnmkbklaa

abbrev put8_R : Type := Unit
def put8_V (x : Int) (r : Unit) : Value := .slice (some ⟨0, 0, none⟩) 8 0
def put8_H (x : Int) (r : Unit) : Heap := [some (.cells [.int .u8 (IntKind.u8.wrap (ishr IntKind.u64 x 56)), .int .u8 (IntKind.u8.wrap (ishr IntKind.u64 x 48)), .int .u8 (IntKind.u8.wrap (ishr IntKind.u64 x 40)), .int .u8 (IntKind.u8.wrap (ishr IntKind.u64 x 32)), .int .u8 (IntKind.u8.wrap (ishr IntKind.u64 x 24)), .int .u8 (IntKind.u8.wrap (ishr IntKind.u64 x 16)), .int .u8 (IntKind.u8.wrap (ishr IntKind.u64 x 8)), .int .u8 (IntKind.u8.wrap (ishr IntKind.u64 x 0))] 5 (some 1))]
noncomputable def put8_Q (x : Int) (C : Cfg) (r : put8_R) : Prop :=
  let p := r
  AEnds E 15 0 C (put8_V x p) (put8_H x p)
def put8_t0 (x : Int) : put8_R :=
  ()
def put8_S0 (x : Int) : Prop :=
  True
theorem put8_ok0 (x : Int) (hS : put8_S0 x) : put8_Q x (startC E 15 ([.slice none 0 0, .int .u64 x, .int .i64 8]) ([])) (put8_t0 x) := by
  unfold put8_S0 at hS
  unfold put8_t0
  exact ends_q noK_ok 2000 250 (some [true, true, true, true, true, true, true, true, false]) [15] [6] [0] (rfl)
theorem put8_call (x : Int) (hS : put8_S0 x) : CallOk E 15 ([.slice none 0 0, .int .u64 x, .int .i64 8]) ([]) (put8_V x (put8_t0 x)) (put8_H x (put8_t0 x)) := callOk_of_ends (put8_ok0 x hS) (by kernel_rfl) (Nat.le_of_ble_eq_true (by kernel_rfl))
def put8_ex (a : List Value) (h : Heap) : Int := (toInt (a.getD 1 undef))
noncomputable def put8_k : Ct := kP put8_ex (fun x => [.slice none 0 0, .int .u64 x, .int .i64 8]) (fun x => []) (fun x => put8_S0 x) (fun x => put8_V x (put8_t0 x)) (fun x => put8_H x (put8_t0 x))
theorem put8_k_ok : KFor E 15 put8_k := kP_ok (fun x hx => put8_call x hx)


abbrev put4_R : Type := Unit
def put4_V (x : Int) (r : Unit) : Value := .slice (some ⟨0, 0, none⟩) 4 0
def put4_H (x : Int) (r : Unit) : Heap := [some (.cells [.int .u8 (IntKind.u8.wrap (ishr IntKind.u64 x 24)), .int .u8 (IntKind.u8.wrap (ishr IntKind.u64 x 16)), .int .u8 (IntKind.u8.wrap (ishr IntKind.u64 x 8)), .int .u8 (IntKind.u8.wrap (ishr IntKind.u64 x 0))] 5 (some 1))]
noncomputable def put4_Q (x : Int) (C : Cfg) (r : put4_R) : Prop :=
  let p := r
  AEnds E 15 0 C (put4_V x p) (put4_H x p)
def put4_t0 (x : Int) : put4_R :=
  ()
def put4_S0 (x : Int) : Prop :=
  True
theorem put4_ok0 (x : Int) (hS : put4_S0 x) : put4_Q x (startC E 15 ([.slice none 0 0, .int .u64 x, .int .i64 4]) ([])) (put4_t0 x) := by
  unfold put4_S0 at hS
  unfold put4_t0
  exact ends_q noK_ok 2000 138 (some [true, true, true, true, false]) [7] [6] [0] (rfl)
theorem put4_call (x : Int) (hS : put4_S0 x) : CallOk E 15 ([.slice none 0 0, .int .u64 x, .int .i64 4]) ([]) (put4_V x (put4_t0 x)) (put4_H x (put4_t0 x)) := callOk_of_ends (put4_ok0 x hS) (by kernel_rfl) (Nat.le_of_ble_eq_true (by kernel_rfl))
def put4_ex (a : List Value) (h : Heap) : Int := (toInt (a.getD 1 undef))
noncomputable def put4_k : Ct := kP put4_ex (fun x => [.slice none 0 0, .int .u64 x, .int .i64 4]) (fun x => []) (fun x => put4_S0 x) (fun x => put4_V x (put4_t0 x)) (fun x => put4_H x (put4_t0 x))
theorem put4_k_ok : KFor E 15 put4_k := kP_ok (fun x hx => put4_call x hx)


def rep_k : Ct := fun args H => kRep 14 14 args H
theorem rep_k_ok : KFor E 14 rep_k := fun args H ok v H' h hok => (kRep_ok (E := E) fun s c w h1 h2 => Try.strings_Repeat s c w h1 h2) 14 args H ok v H' h hok
def is8 (a : List Value) : Bool := toInt (a.getD 2 undef) == 8
def is4 (a : List Value) : Bool := toInt (a.getD 2 undef) == 4
noncomputable def KI : Ctr := ctrOf E [(9, ptrA, writec_k), (14, anyA, rep_k), (15, is8, put8_k), (15, is4, put4_k)]
theorem KI_ok : KOk E KI := ctr_cons writec_k_ok (ctr_cons rep_k_ok (ctr_cons put8_k_ok (ctr_cons put4_k_ok ctr_nil)))

end Go.Proofs.Ytncldppnmkbklaa
