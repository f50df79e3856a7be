/-
  The document's own answer: the shapes of characters.
-/
import Derived.Test.YtnimmocgnimdiaaUtfB19
set_option linter.unusedVariables false
open Go Go.Am
namespace Go.Proofs.Ytnimmocgnimdiaa

abbrev shapes_R : Type := Unit
def shapes_V (r : Unit) : Value := Value.slice (some { block := 0, off := 0 }) 9 9
def shapes_H (r : Unit) : Heap := [some (Ob.cells [Value.slice (some { block := 1, off := 0 }) 1 1, Value.slice (some { block := 2, off := 0 }) 2 2, Value.slice (some { block := 3, off := 0 }) 3 3, Value.slice (some { block := 4, off := 0 }) 3 3, Value.slice (some { block := 5, off := 0 }) 3 3, Value.slice (some { block := 6, off := 0 }) 3 3, Value.slice (some { block := 7, off := 0 }) 4 4, Value.slice (some { block := 8, off := 0 }) 4 4, Value.slice (some { block := 9, off := 0 }) 4 4] 77 none), some (Ob.cells [Value.int IntKind.u8 0, Value.int IntKind.u8 127] 78 none), some (Ob.cells [Value.int IntKind.u8 194, Value.int IntKind.u8 223, Value.int IntKind.u8 128, Value.int IntKind.u8 191] 78 none), some (Ob.cells [Value.int IntKind.u8 224, Value.int IntKind.u8 224, Value.int IntKind.u8 160, Value.int IntKind.u8 191, Value.int IntKind.u8 128, Value.int IntKind.u8 191] 78 none), some (Ob.cells [Value.int IntKind.u8 225, Value.int IntKind.u8 236, Value.int IntKind.u8 128, Value.int IntKind.u8 191, Value.int IntKind.u8 128, Value.int IntKind.u8 191] 78 none), some (Ob.cells [Value.int IntKind.u8 237, Value.int IntKind.u8 237, Value.int IntKind.u8 128, Value.int IntKind.u8 159, Value.int IntKind.u8 128, Value.int IntKind.u8 191] 78 none), some (Ob.cells [Value.int IntKind.u8 238, Value.int IntKind.u8 239, Value.int IntKind.u8 128, Value.int IntKind.u8 191, Value.int IntKind.u8 128, Value.int IntKind.u8 191] 78 none), some (Ob.cells [Value.int IntKind.u8 240, Value.int IntKind.u8 240, Value.int IntKind.u8 144, Value.int IntKind.u8 191, Value.int IntKind.u8 128, Value.int IntKind.u8 191, Value.int IntKind.u8 128, Value.int IntKind.u8 191] 78 none), some (Ob.cells [Value.int IntKind.u8 241, Value.int IntKind.u8 243, Value.int IntKind.u8 128, Value.int IntKind.u8 191, Value.int IntKind.u8 128, Value.int IntKind.u8 191, Value.int IntKind.u8 128, Value.int IntKind.u8 191] 78 none), some (Ob.cells [Value.int IntKind.u8 244, Value.int IntKind.u8 244, Value.int IntKind.u8 128, Value.int IntKind.u8 143, Value.int IntKind.u8 128, Value.int IntKind.u8 191, Value.int IntKind.u8 128, Value.int IntKind.u8 191] 78 none)]
noncomputable def shapes_Q (C : Cfg) (r : shapes_R) : Prop :=
  let p := r
  AEnds E 38 0 C (shapes_V p) (shapes_H p)
theorem shapes_p0_0 : goFinB E noK 2000 51 (some []) [10, 1, 2, 3, 4, 5, 6, 7, 8, 9] [0] [0, 1, 2, 3, 4, 5, 6, 7, 8, 9] (startC E 38 ([]) ([])) = some (true, Value.slice (some { block := 0, off := 0 }) 9 9, [some (Ob.cells [Value.slice (some { block := 1, off := 0 }) 1 1, Value.slice (some { block := 2, off := 0 }) 2 2, Value.slice (some { block := 3, off := 0 }) 3 3, Value.slice (some { block := 4, off := 0 }) 3 3, Value.slice (some { block := 5, off := 0 }) 3 3, Value.slice (some { block := 6, off := 0 }) 3 3, Value.slice (some { block := 7, off := 0 }) 4 4, Value.slice (some { block := 8, off := 0 }) 4 4, Value.slice (some { block := 9, off := 0 }) 4 4] 77 none), some (Ob.cells [Value.int IntKind.u8 0, Value.int IntKind.u8 127] 78 none), some (Ob.cells [Value.int IntKind.u8 194, Value.int IntKind.u8 223, Value.int IntKind.u8 128, Value.int IntKind.u8 191] 78 none), some (Ob.cells [Value.int IntKind.u8 224, Value.int IntKind.u8 224, Value.int IntKind.u8 160, Value.int IntKind.u8 191, Value.int IntKind.u8 128, Value.int IntKind.u8 191] 78 none), some (Ob.cells [Value.int IntKind.u8 225, Value.int IntKind.u8 236, Value.int IntKind.u8 128, Value.int IntKind.u8 191, Value.int IntKind.u8 128, Value.int IntKind.u8 191] 78 none), some (Ob.cells [Value.int IntKind.u8 237, Value.int IntKind.u8 237, Value.int IntKind.u8 128, Value.int IntKind.u8 159, Value.int IntKind.u8 128, Value.int IntKind.u8 191] 78 none), some (Ob.cells [Value.int IntKind.u8 238, Value.int IntKind.u8 239, Value.int IntKind.u8 128, Value.int IntKind.u8 191, Value.int IntKind.u8 128, Value.int IntKind.u8 191] 78 none), some (Ob.cells [Value.int IntKind.u8 240, Value.int IntKind.u8 240, Value.int IntKind.u8 144, Value.int IntKind.u8 191, Value.int IntKind.u8 128, Value.int IntKind.u8 191, Value.int IntKind.u8 128, Value.int IntKind.u8 191] 78 none), some (Ob.cells [Value.int IntKind.u8 241, Value.int IntKind.u8 243, Value.int IntKind.u8 128, Value.int IntKind.u8 191, Value.int IntKind.u8 128, Value.int IntKind.u8 191, Value.int IntKind.u8 128, Value.int IntKind.u8 191] 78 none), some (Ob.cells [Value.int IntKind.u8 244, Value.int IntKind.u8 244, Value.int IntKind.u8 128, Value.int IntKind.u8 143, Value.int IntKind.u8 128, Value.int IntKind.u8 191, Value.int IntKind.u8 128, Value.int IntKind.u8 191] 78 none)]) := by kernel_rfl
def shapes_t0 : shapes_R :=
  ()
def shapes_S0 : Prop :=
  True
theorem shapes_ok0 (hS : shapes_S0) : shapes_Q (startC E 38 ([]) ([])) (shapes_t0) := by
  unfold shapes_S0 at hS
  unfold shapes_t0
  exact ends_ofB noK_ok (shapes_p0_0) (rfl) (by kernel_rfl) (Nat.le_of_ble_eq_true (by kernel_rfl)) (fun i hi => absurd hi (Nat.not_lt_zero _)) (fun i hi => absurd hi (Nat.not_lt_zero _))
theorem shapes_call (hS : shapes_S0) : CallOk E 38 ([]) ([]) (shapes_V (shapes_t0)) (shapes_H (shapes_t0)) := callOk_of_ends (shapes_ok0 hS) (by kernel_rfl) (Nat.le_of_ble_eq_true (by kernel_rfl))
def shapes_ex (a : List Value) (h : Heap) : Unit := ()
noncomputable def shapes_k : Ct := kP shapes_ex (fun x => []) (fun x => []) (fun x => shapes_S0 ) (fun x => shapes_V  (shapes_t0 )) (fun x => shapes_H  (shapes_t0 ))
theorem shapes_k_ok : KFor E 38 shapes_k := kP_ok (fun x hx => shapes_call  hx)


end Go.Proofs.Ytnimmocgnimdiaa
