/-
  The document's own answer: the shapes of characters.
-/
import Derived.Test.YtfpnjpbdaniomaaAmSlim
import Derived.Test.YtfpnjpbdaniomaaUtfBb20
set_option linter.unusedVariables false
open Go Go.Am
namespace Go.Proofs.Ytfpnjpbdaniomaa

abbrev shapes_R : Type := Unit
noncomputable def shapes_V (r : Unit) : Value := .slice (some ⟨0, 0, none⟩) 9 9
noncomputable def shapes_H (r : Unit) : Heap := [some (.cells [.slice (some ⟨1, 0, none⟩) 1 1, .slice (some ⟨2, 0, none⟩) 2 2, .slice (some ⟨3, 0, none⟩) 3 3, .slice (some ⟨4, 0, none⟩) 3 3, .slice (some ⟨5, 0, none⟩) 3 3, .slice (some ⟨6, 0, none⟩) 3 3, .slice (some ⟨7, 0, none⟩) 4 4, .slice (some ⟨8, 0, none⟩) 4 4, .slice (some ⟨9, 0, none⟩) 4 4] 141 none), some (.cells [.int .u8 0, .int .u8 127] 142 none), some (.cells [.int .u8 194, .int .u8 223, .int .u8 128, .int .u8 191] 142 none), some (.cells [.int .u8 224, .int .u8 224, .int .u8 160, .int .u8 191, .int .u8 128, .int .u8 191] 142 none), some (.cells [.int .u8 225, .int .u8 236, .int .u8 128, .int .u8 191, .int .u8 128, .int .u8 191] 142 none), some (.cells [.int .u8 237, .int .u8 237, .int .u8 128, .int .u8 159, .int .u8 128, .int .u8 191] 142 none), some (.cells [.int .u8 238, .int .u8 239, .int .u8 128, .int .u8 191, .int .u8 128, .int .u8 191] 142 none), some (.cells [.int .u8 240, .int .u8 240, .int .u8 144, .int .u8 191, .int .u8 128, .int .u8 191, .int .u8 128, .int .u8 191] 142 none), some (.cells [.int .u8 241, .int .u8 243, .int .u8 128, .int .u8 191, .int .u8 128, .int .u8 191, .int .u8 128, .int .u8 191] 142 none), some (.cells [.int .u8 244, .int .u8 244, .int .u8 128, .int .u8 143, .int .u8 128, .int .u8 191, .int .u8 128, .int .u8 191] 142 none)]
noncomputable def shapes_Q (C : Cfg) (r : shapes_R) : Prop :=
 let p := r
 AEnds E 72 0 C (shapes_V p) (shapes_H p)
noncomputable def shapes_t0 : shapes_R :=
 ()
noncomputable def shapes_S0 : Prop :=
 True
theorem shapes_ok0 (hS : shapes_S0) : shapes_Q (startC E 72 ([]) ([])) (shapes_t0) := by
 unfold shapes_S0 at hS
 unfold shapes_t0
 exact ends_q noK_ok 2000 51 (some []) [10, 1, 2, 3, 4, 5, 6, 7, 8, 9] [0] [0, 1, 2, 3, 4, 5, 6, 7, 8, 9] (rfl)
theorem shapes_call (hS : shapes_S0) : CallOk E 72 ([]) ([]) (shapes_V (shapes_t0)) (shapes_H (shapes_t0)) := callOk_of_ends (shapes_ok0 hS) (by kernel_rfl) (Nat.le_of_ble_eq_true (by kernel_rfl))
noncomputable def shapes_ex (a : List Value) (h : Heap) : Unit := ()
noncomputable def shapes_k : Ct := kP shapes_ex (fun x => []) (fun x => []) (fun x => shapes_S0 ) (fun x => shapes_V  (shapes_t0 )) (fun x => shapes_H  (shapes_t0 ))
theorem shapes_k_ok : KFor E 72 shapes_k := kP_ok (fun x hx => shapes_call  hx)


end Go.Proofs.Ytfpnjpbdaniomaa

/-
  The document's own answer: one character at a place.
-/
set_option linter.unusedVariables false
open Go Go.Am
namespace Go.Proofs.Ytfpnjpbdaniomaa
noncomputable def KD : Ctr := ctrOf E [(72, anyA, shapes_k)]
theorem KD_ok : KOk E KD := ctr_cons shapes_k_ok ctr_nil

noncomputable def one_b1 (s : ByteArray) (at' : Int) : Cfg := cfgOf (goNil E KD 2000 20 (some []) [] [] [0, 1, 2, 3, 4, 5, 6, 7, 8, 9] [0, 1, 5, 6, 7] [] [] [] (startC E 61 ([.string s, .int .i64 at']) ([])))
noncomputable def one_h1 (s : ByteArray) (at' : Int) : Cfg := (one_b1 s at')
noncomputable def one_b2 (s : ByteArray) (at' : Int) : Cfg := reCfg (one_b1 s at') (tmL 7 [(0, .string s), (1, .int .i64 at'), (7, .int .i64 1), (5, .slice (some ⟨0, 0, none⟩) 9 9), (6, .int .i64 0)]) [some (.cells [.slice (some ⟨1, 0, none⟩) 1 1, .slice (some ⟨2, 0, none⟩) 2 2, .slice (some ⟨3, 0, none⟩) 3 3, .slice (some ⟨4, 0, none⟩) 3 3, .slice (some ⟨5, 0, none⟩) 3 3, .slice (some ⟨6, 0, none⟩) 3 3, .slice (some ⟨7, 0, none⟩) 4 4, .slice (some ⟨8, 0, none⟩) 4 4, .slice (some ⟨9, 0, none⟩) 4 4] 141 none), some (.cells [.int .u8 0, .int .u8 127] 142 none), some (.cells [.int .u8 194, .int .u8 223, .int .u8 128, .int .u8 191] 142 none), some (.cells [.int .u8 224, .int .u8 224, .int .u8 160, .int .u8 191, .int .u8 128, .int .u8 191] 142 none), some (.cells [.int .u8 225, .int .u8 236, .int .u8 128, .int .u8 191, .int .u8 128, .int .u8 191] 142 none), some (.cells [.int .u8 237, .int .u8 237, .int .u8 128, .int .u8 159, .int .u8 128, .int .u8 191] 142 none), some (.cells [.int .u8 238, .int .u8 239, .int .u8 128, .int .u8 191, .int .u8 128, .int .u8 191] 142 none), some (.cells [.int .u8 240, .int .u8 240, .int .u8 144, .int .u8 191, .int .u8 128, .int .u8 191, .int .u8 128, .int .u8 191] 142 none), some (.cells [.int .u8 241, .int .u8 243, .int .u8 128, .int .u8 191, .int .u8 128, .int .u8 191, .int .u8 128, .int .u8 191] 142 none), some (.cells [.int .u8 244, .int .u8 244, .int .u8 128, .int .u8 143, .int .u8 128, .int .u8 191, .int .u8 128, .int .u8 191] 142 none)]
noncomputable def one_h2 (s : ByteArray) (at' : Int) : Cfg := (one_b2 s at')
noncomputable def one_b3 (s : ByteArray) (at' : Int) : Cfg := reCfg (one_b1 s at') (tmL 7 [(0, .string s), (1, .int .i64 at'), (7, .int .i64 2), (5, .slice (some ⟨0, 0, none⟩) 9 9), (6, .int .i64 0)]) [some (.cells [.slice (some ⟨1, 0, none⟩) 1 1, .slice (some ⟨2, 0, none⟩) 2 2, .slice (some ⟨3, 0, none⟩) 3 3, .slice (some ⟨4, 0, none⟩) 3 3, .slice (some ⟨5, 0, none⟩) 3 3, .slice (some ⟨6, 0, none⟩) 3 3, .slice (some ⟨7, 0, none⟩) 4 4, .slice (some ⟨8, 0, none⟩) 4 4, .slice (some ⟨9, 0, none⟩) 4 4] 141 none), some (.cells [.int .u8 0, .int .u8 127] 142 none), some (.cells [.int .u8 194, .int .u8 223, .int .u8 128, .int .u8 191] 142 none), some (.cells [.int .u8 224, .int .u8 224, .int .u8 160, .int .u8 191, .int .u8 128, .int .u8 191] 142 none), some (.cells [.int .u8 225, .int .u8 236, .int .u8 128, .int .u8 191, .int .u8 128, .int .u8 191] 142 none), some (.cells [.int .u8 237, .int .u8 237, .int .u8 128, .int .u8 159, .int .u8 128, .int .u8 191] 142 none), some (.cells [.int .u8 238, .int .u8 239, .int .u8 128, .int .u8 191, .int .u8 128, .int .u8 191] 142 none), some (.cells [.int .u8 240, .int .u8 240, .int .u8 144, .int .u8 191, .int .u8 128, .int .u8 191, .int .u8 128, .int .u8 191] 142 none), some (.cells [.int .u8 241, .int .u8 243, .int .u8 128, .int .u8 191, .int .u8 128, .int .u8 191, .int .u8 128, .int .u8 191] 142 none), some (.cells [.int .u8 244, .int .u8 244, .int .u8 128, .int .u8 143, .int .u8 128, .int .u8 191, .int .u8 128, .int .u8 191] 142 none)]
noncomputable def one_h3 (s : ByteArray) (at' t6_3 : Int) : Cfg := wTmp 6 (.int .i64 t6_3) (one_b3 s at')
noncomputable def one_b4 (s : ByteArray) (at' : Int) : Cfg := reCfg (one_b1 s at') (tmL 7 [(0, .string s), (1, .int .i64 at'), (7, .int .i64 3), (5, .slice (some ⟨0, 0, none⟩) 9 9), (6, .int .i64 0)]) [some (.cells [.slice (some ⟨1, 0, none⟩) 1 1, .slice (some ⟨2, 0, none⟩) 2 2, .slice (some ⟨3, 0, none⟩) 3 3, .slice (some ⟨4, 0, none⟩) 3 3, .slice (some ⟨5, 0, none⟩) 3 3, .slice (some ⟨6, 0, none⟩) 3 3, .slice (some ⟨7, 0, none⟩) 4 4, .slice (some ⟨8, 0, none⟩) 4 4, .slice (some ⟨9, 0, none⟩) 4 4] 141 none), some (.cells [.int .u8 0, .int .u8 127] 142 none), some (.cells [.int .u8 194, .int .u8 223, .int .u8 128, .int .u8 191] 142 none), some (.cells [.int .u8 224, .int .u8 224, .int .u8 160, .int .u8 191, .int .u8 128, .int .u8 191] 142 none), some (.cells [.int .u8 225, .int .u8 236, .int .u8 128, .int .u8 191, .int .u8 128, .int .u8 191] 142 none), some (.cells [.int .u8 237, .int .u8 237, .int .u8 128, .int .u8 159, .int .u8 128, .int .u8 191] 142 none), some (.cells [.int .u8 238, .int .u8 239, .int .u8 128, .int .u8 191, .int .u8 128, .int .u8 191] 142 none), some (.cells [.int .u8 240, .int .u8 240, .int .u8 144, .int .u8 191, .int .u8 128, .int .u8 191, .int .u8 128, .int .u8 191] 142 none), some (.cells [.int .u8 241, .int .u8 243, .int .u8 128, .int .u8 191, .int .u8 128, .int .u8 191, .int .u8 128, .int .u8 191] 142 none), some (.cells [.int .u8 244, .int .u8 244, .int .u8 128, .int .u8 143, .int .u8 128, .int .u8 191, .int .u8 128, .int .u8 191] 142 none)]
noncomputable def one_h4 (s : ByteArray) (at' t6_4 : Int) : Cfg := wTmp 6 (.int .i64 t6_4) (one_b4 s at')
noncomputable def one_b5 (s : ByteArray) (at' : Int) : Cfg := reCfg (one_b1 s at') (tmL 7 [(0, .string s), (1, .int .i64 at'), (7, .int .i64 4), (5, .slice (some ⟨0, 0, none⟩) 9 9), (6, .int .i64 0)]) [some (.cells [.slice (some ⟨1, 0, none⟩) 1 1, .slice (some ⟨2, 0, none⟩) 2 2, .slice (some ⟨3, 0, none⟩) 3 3, .slice (some ⟨4, 0, none⟩) 3 3, .slice (some ⟨5, 0, none⟩) 3 3, .slice (some ⟨6, 0, none⟩) 3 3, .slice (some ⟨7, 0, none⟩) 4 4, .slice (some ⟨8, 0, none⟩) 4 4, .slice (some ⟨9, 0, none⟩) 4 4] 141 none), some (.cells [.int .u8 0, .int .u8 127] 142 none), some (.cells [.int .u8 194, .int .u8 223, .int .u8 128, .int .u8 191] 142 none), some (.cells [.int .u8 224, .int .u8 224, .int .u8 160, .int .u8 191, .int .u8 128, .int .u8 191] 142 none), some (.cells [.int .u8 225, .int .u8 236, .int .u8 128, .int .u8 191, .int .u8 128, .int .u8 191] 142 none), some (.cells [.int .u8 237, .int .u8 237, .int .u8 128, .int .u8 159, .int .u8 128, .int .u8 191] 142 none), some (.cells [.int .u8 238, .int .u8 239, .int .u8 128, .int .u8 191, .int .u8 128, .int .u8 191] 142 none), some (.cells [.int .u8 240, .int .u8 240, .int .u8 144, .int .u8 191, .int .u8 128, .int .u8 191, .int .u8 128, .int .u8 191] 142 none), some (.cells [.int .u8 241, .int .u8 243, .int .u8 128, .int .u8 191, .int .u8 128, .int .u8 191, .int .u8 128, .int .u8 191] 142 none), some (.cells [.int .u8 244, .int .u8 244, .int .u8 128, .int .u8 143, .int .u8 128, .int .u8 191, .int .u8 128, .int .u8 191] 142 none)]
noncomputable def one_h5 (s : ByteArray) (at' t6_5 : Int) : Cfg := wTmp 6 (.int .i64 t6_5) (one_b5 s at')
noncomputable def one_b6 (s : ByteArray) (at' : Int) : Cfg := reCfg (one_b1 s at') (tmL 7 [(0, .string s), (1, .int .i64 at'), (7, .int .i64 5), (5, .slice (some ⟨0, 0, none⟩) 9 9), (6, .int .i64 0)]) [some (.cells [.slice (some ⟨1, 0, none⟩) 1 1, .slice (some ⟨2, 0, none⟩) 2 2, .slice (some ⟨3, 0, none⟩) 3 3, .slice (some ⟨4, 0, none⟩) 3 3, .slice (some ⟨5, 0, none⟩) 3 3, .slice (some ⟨6, 0, none⟩) 3 3, .slice (some ⟨7, 0, none⟩) 4 4, .slice (some ⟨8, 0, none⟩) 4 4, .slice (some ⟨9, 0, none⟩) 4 4] 141 none), some (.cells [.int .u8 0, .int .u8 127] 142 none), some (.cells [.int .u8 194, .int .u8 223, .int .u8 128, .int .u8 191] 142 none), some (.cells [.int .u8 224, .int .u8 224, .int .u8 160, .int .u8 191, .int .u8 128, .int .u8 191] 142 none), some (.cells [.int .u8 225, .int .u8 236, .int .u8 128, .int .u8 191, .int .u8 128, .int .u8 191] 142 none), some (.cells [.int .u8 237, .int .u8 237, .int .u8 128, .int .u8 159, .int .u8 128, .int .u8 191] 142 none), some (.cells [.int .u8 238, .int .u8 239, .int .u8 128, .int .u8 191, .int .u8 128, .int .u8 191] 142 none), some (.cells [.int .u8 240, .int .u8 240, .int .u8 144, .int .u8 191, .int .u8 128, .int .u8 191, .int .u8 128, .int .u8 191] 142 none), some (.cells [.int .u8 241, .int .u8 243, .int .u8 128, .int .u8 191, .int .u8 128, .int .u8 191, .int .u8 128, .int .u8 191] 142 none), some (.cells [.int .u8 244, .int .u8 244, .int .u8 128, .int .u8 143, .int .u8 128, .int .u8 191, .int .u8 128, .int .u8 191] 142 none)]
noncomputable def one_h6 (s : ByteArray) (at' t6_6 : Int) : Cfg := wTmp 6 (.int .i64 t6_6) (one_b6 s at')
noncomputable def one_b7 (s : ByteArray) (at' : Int) : Cfg := reCfg (one_b1 s at') (tmL 7 [(0, .string s), (1, .int .i64 at'), (7, .int .i64 6), (5, .slice (some ⟨0, 0, none⟩) 9 9), (6, .int .i64 0)]) [some (.cells [.slice (some ⟨1, 0, none⟩) 1 1, .slice (some ⟨2, 0, none⟩) 2 2, .slice (some ⟨3, 0, none⟩) 3 3, .slice (some ⟨4, 0, none⟩) 3 3, .slice (some ⟨5, 0, none⟩) 3 3, .slice (some ⟨6, 0, none⟩) 3 3, .slice (some ⟨7, 0, none⟩) 4 4, .slice (some ⟨8, 0, none⟩) 4 4, .slice (some ⟨9, 0, none⟩) 4 4] 141 none), some (.cells [.int .u8 0, .int .u8 127] 142 none), some (.cells [.int .u8 194, .int .u8 223, .int .u8 128, .int .u8 191] 142 none), some (.cells [.int .u8 224, .int .u8 224, .int .u8 160, .int .u8 191, .int .u8 128, .int .u8 191] 142 none), some (.cells [.int .u8 225, .int .u8 236, .int .u8 128, .int .u8 191, .int .u8 128, .int .u8 191] 142 none), some (.cells [.int .u8 237, .int .u8 237, .int .u8 128, .int .u8 159, .int .u8 128, .int .u8 191] 142 none), some (.cells [.int .u8 238, .int .u8 239, .int .u8 128, .int .u8 191, .int .u8 128, .int .u8 191] 142 none), some (.cells [.int .u8 240, .int .u8 240, .int .u8 144, .int .u8 191, .int .u8 128, .int .u8 191, .int .u8 128, .int .u8 191] 142 none), some (.cells [.int .u8 241, .int .u8 243, .int .u8 128, .int .u8 191, .int .u8 128, .int .u8 191, .int .u8 128, .int .u8 191] 142 none), some (.cells [.int .u8 244, .int .u8 244, .int .u8 128, .int .u8 143, .int .u8 128, .int .u8 191, .int .u8 128, .int .u8 191] 142 none)]
noncomputable def one_h7 (s : ByteArray) (at' t6_7 : Int) : Cfg := wTmp 6 (.int .i64 t6_7) (one_b7 s at')
noncomputable def one_b8 (s : ByteArray) (at' : Int) : Cfg := reCfg (one_b1 s at') (tmL 7 [(0, .string s), (1, .int .i64 at'), (7, .int .i64 7), (5, .slice (some ⟨0, 0, none⟩) 9 9), (6, .int .i64 0)]) [some (.cells [.slice (some ⟨1, 0, none⟩) 1 1, .slice (some ⟨2, 0, none⟩) 2 2, .slice (some ⟨3, 0, none⟩) 3 3, .slice (some ⟨4, 0, none⟩) 3 3, .slice (some ⟨5, 0, none⟩) 3 3, .slice (some ⟨6, 0, none⟩) 3 3, .slice (some ⟨7, 0, none⟩) 4 4, .slice (some ⟨8, 0, none⟩) 4 4, .slice (some ⟨9, 0, none⟩) 4 4] 141 none), some (.cells [.int .u8 0, .int .u8 127] 142 none), some (.cells [.int .u8 194, .int .u8 223, .int .u8 128, .int .u8 191] 142 none), some (.cells [.int .u8 224, .int .u8 224, .int .u8 160, .int .u8 191, .int .u8 128, .int .u8 191] 142 none), some (.cells [.int .u8 225, .int .u8 236, .int .u8 128, .int .u8 191, .int .u8 128, .int .u8 191] 142 none), some (.cells [.int .u8 237, .int .u8 237, .int .u8 128, .int .u8 159, .int .u8 128, .int .u8 191] 142 none), some (.cells [.int .u8 238, .int .u8 239, .int .u8 128, .int .u8 191, .int .u8 128, .int .u8 191] 142 none), some (.cells [.int .u8 240, .int .u8 240, .int .u8 144, .int .u8 191, .int .u8 128, .int .u8 191, .int .u8 128, .int .u8 191] 142 none), some (.cells [.int .u8 241, .int .u8 243, .int .u8 128, .int .u8 191, .int .u8 128, .int .u8 191, .int .u8 128, .int .u8 191] 142 none), some (.cells [.int .u8 244, .int .u8 244, .int .u8 128, .int .u8 143, .int .u8 128, .int .u8 191, .int .u8 128, .int .u8 191] 142 none)]
noncomputable def one_h8 (s : ByteArray) (at' t6_8 : Int) : Cfg := wTmp 6 (.int .i64 t6_8) (one_b8 s at')
noncomputable def one_b9 (s : ByteArray) (at' : Int) : Cfg := reCfg (one_b1 s at') (tmL 7 [(0, .string s), (1, .int .i64 at'), (7, .int .i64 8), (5, .slice (some ⟨0, 0, none⟩) 9 9), (6, .int .i64 0)]) [some (.cells [.slice (some ⟨1, 0, none⟩) 1 1, .slice (some ⟨2, 0, none⟩) 2 2, .slice (some ⟨3, 0, none⟩) 3 3, .slice (some ⟨4, 0, none⟩) 3 3, .slice (some ⟨5, 0, none⟩) 3 3, .slice (some ⟨6, 0, none⟩) 3 3, .slice (some ⟨7, 0, none⟩) 4 4, .slice (some ⟨8, 0, none⟩) 4 4, .slice (some ⟨9, 0, none⟩) 4 4] 141 none), some (.cells [.int .u8 0, .int .u8 127] 142 none), some (.cells [.int .u8 194, .int .u8 223, .int .u8 128, .int .u8 191] 142 none), some (.cells [.int .u8 224, .int .u8 224, .int .u8 160, .int .u8 191, .int .u8 128, .int .u8 191] 142 none), some (.cells [.int .u8 225, .int .u8 236, .int .u8 128, .int .u8 191, .int .u8 128, .int .u8 191] 142 none), some (.cells [.int .u8 237, .int .u8 237, .int .u8 128, .int .u8 159, .int .u8 128, .int .u8 191] 142 none), some (.cells [.int .u8 238, .int .u8 239, .int .u8 128, .int .u8 191, .int .u8 128, .int .u8 191] 142 none), some (.cells [.int .u8 240, .int .u8 240, .int .u8 144, .int .u8 191, .int .u8 128, .int .u8 191, .int .u8 128, .int .u8 191] 142 none), some (.cells [.int .u8 241, .int .u8 243, .int .u8 128, .int .u8 191, .int .u8 128, .int .u8 191, .int .u8 128, .int .u8 191] 142 none), some (.cells [.int .u8 244, .int .u8 244, .int .u8 128, .int .u8 143, .int .u8 128, .int .u8 191, .int .u8 128, .int .u8 191] 142 none)]
noncomputable def one_h9 (s : ByteArray) (at' t6_9 : Int) : Cfg := wTmp 6 (.int .i64 t6_9) (one_b9 s at')
noncomputable def one_b10 (s : ByteArray) (at' : Int) : Cfg := reCfg (one_b1 s at') (tmL 7 [(0, .string s), (1, .int .i64 at'), (7, .int .i64 9), (5, .slice (some ⟨0, 0, none⟩) 9 9), (6, .int .i64 0)]) [some (.cells [.slice (some ⟨1, 0, none⟩) 1 1, .slice (some ⟨2, 0, none⟩) 2 2, .slice (some ⟨3, 0, none⟩) 3 3, .slice (some ⟨4, 0, none⟩) 3 3, .slice (some ⟨5, 0, none⟩) 3 3, .slice (some ⟨6, 0, none⟩) 3 3, .slice (some ⟨7, 0, none⟩) 4 4, .slice (some ⟨8, 0, none⟩) 4 4, .slice (some ⟨9, 0, none⟩) 4 4] 141 none), some (.cells [.int .u8 0, .int .u8 127] 142 none), some (.cells [.int .u8 194, .int .u8 223, .int .u8 128, .int .u8 191] 142 none), some (.cells [.int .u8 224, .int .u8 224, .int .u8 160, .int .u8 191, .int .u8 128, .int .u8 191] 142 none), some (.cells [.int .u8 225, .int .u8 236, .int .u8 128, .int .u8 191, .int .u8 128, .int .u8 191] 142 none), some (.cells [.int .u8 237, .int .u8 237, .int .u8 128, .int .u8 159, .int .u8 128, .int .u8 191] 142 none), some (.cells [.int .u8 238, .int .u8 239, .int .u8 128, .int .u8 191, .int .u8 128, .int .u8 191] 142 none), some (.cells [.int .u8 240, .int .u8 240, .int .u8 144, .int .u8 191, .int .u8 128, .int .u8 191, .int .u8 128, .int .u8 191] 142 none), some (.cells [.int .u8 241, .int .u8 243, .int .u8 128, .int .u8 191, .int .u8 128, .int .u8 191, .int .u8 128, .int .u8 191] 142 none), some (.cells [.int .u8 244, .int .u8 244, .int .u8 128, .int .u8 143, .int .u8 128, .int .u8 191, .int .u8 128, .int .u8 191] 142 none)]
noncomputable def one_h10 (s : ByteArray) (at' t6_10 : Int) : Cfg := wTmp 6 (.int .i64 t6_10) (one_b10 s at')
abbrev one_R : Type := (Unit) ⊕ (Unit) ⊕ (Int) ⊕ (Int) ⊕ (Int) ⊕ (Int) ⊕ (Int) ⊕ (Int) ⊕ (Int) ⊕ (Int) ⊕ (Int)
noncomputable def one_V (s : ByteArray) (at' r : Int) : Value := .int .i64 r
noncomputable def one_H (s : ByteArray) (at' r : Int) : Heap := []
noncomputable def one_Q (s : ByteArray) (at' : Int) (C : Cfg) (r : one_R) : Prop :=
 match r with
 | .inl (p) => Gets E 0 C (one_h1 s at' )
 | .inr (.inl (p)) => Gets E 0 C (one_h2 s at' )
 | .inr (.inr (.inl (p))) => Gets E 0 C (one_h3 s at' p)
 | .inr (.inr (.inr (.inl (p)))) => Gets E 0 C (one_h4 s at' p)
 | .inr (.inr (.inr (.inr (.inl (p))))) => Gets E 0 C (one_h5 s at' p)
 | .inr (.inr (.inr (.inr (.inr (.inl (p)))))) => Gets E 0 C (one_h6 s at' p)
 | .inr (.inr (.inr (.inr (.inr (.inr (.inl (p))))))) => Gets E 0 C (one_h7 s at' p)
 | .inr (.inr (.inr (.inr (.inr (.inr (.inr (.inl (p)))))))) => Gets E 0 C (one_h8 s at' p)
 | .inr (.inr (.inr (.inr (.inr (.inr (.inr (.inr (.inl (p))))))))) => Gets E 0 C (one_h9 s at' p)
 | .inr (.inr (.inr (.inr (.inr (.inr (.inr (.inr (.inr (.inl (p)))))))))) => Gets E 0 C (one_h10 s at' p)
 | .inr (.inr (.inr (.inr (.inr (.inr (.inr (.inr (.inr (.inr (p)))))))))) => AEnds E 61 0 C (one_V s at' p) (one_H s at' p)
theorem one_go1 {s : ByteArray} {at' : Int} {C : Cfg} (h : one_Q s at' C (.inl (()))) : Gets E 0 C (one_h1 s at') := h
theorem one_go2 {s : ByteArray} {at' : Int} {C : Cfg} (h : one_Q s at' C (.inr (.inl (())))) : Gets E 0 C (one_h2 s at') := h
theorem one_go3 {s : ByteArray} {at' : Int} {C : Cfg} {t6_3 : Int} (h : one_Q s at' C (.inr (.inr (.inl (t6_3))))) : Gets E 0 C (one_h3 s at' t6_3) := h
theorem one_go4 {s : ByteArray} {at' : Int} {C : Cfg} {t6_4 : Int} (h : one_Q s at' C (.inr (.inr (.inr (.inl (t6_4)))))) : Gets E 0 C (one_h4 s at' t6_4) := h
theorem one_go5 {s : ByteArray} {at' : Int} {C : Cfg} {t6_5 : Int} (h : one_Q s at' C (.inr (.inr (.inr (.inr (.inl (t6_5))))))) : Gets E 0 C (one_h5 s at' t6_5) := h
theorem one_go6 {s : ByteArray} {at' : Int} {C : Cfg} {t6_6 : Int} (h : one_Q s at' C (.inr (.inr (.inr (.inr (.inr (.inl (t6_6)))))))) : Gets E 0 C (one_h6 s at' t6_6) := h
theorem one_go7 {s : ByteArray} {at' : Int} {C : Cfg} {t6_7 : Int} (h : one_Q s at' C (.inr (.inr (.inr (.inr (.inr (.inr (.inl (t6_7))))))))) : Gets E 0 C (one_h7 s at' t6_7) := h
theorem one_go8 {s : ByteArray} {at' : Int} {C : Cfg} {t6_8 : Int} (h : one_Q s at' C (.inr (.inr (.inr (.inr (.inr (.inr (.inr (.inl (t6_8)))))))))) : Gets E 0 C (one_h8 s at' t6_8) := h
theorem one_go9 {s : ByteArray} {at' : Int} {C : Cfg} {t6_9 : Int} (h : one_Q s at' C (.inr (.inr (.inr (.inr (.inr (.inr (.inr (.inr (.inl (t6_9))))))))))) : Gets E 0 C (one_h9 s at' t6_9) := h
theorem one_go10 {s : ByteArray} {at' : Int} {C : Cfg} {t6_10 : Int} (h : one_Q s at' C (.inr (.inr (.inr (.inr (.inr (.inr (.inr (.inr (.inr (.inl (t6_10)))))))))))) : Gets E 0 C (one_h10 s at' t6_10) := h
theorem one_end {s : ByteArray} {at' : Int} {C : Cfg} {r : Int} (h : one_Q s at' C (.inr (.inr (.inr (.inr (.inr (.inr (.inr (.inr (.inr (.inr (r)))))))))))) : AEnds E 61 0 C (one_V s at' r) (one_H s at' r) := h
noncomputable def one_t0 (s : ByteArray) (at' : Int) : one_R :=
 .inl (())
noncomputable def one_S0 (s : ByteArray) (at' : Int) : Prop :=
 shapes_S0
theorem one_ok0 (s : ByteArray) (at' : Int) (hS : one_S0 s at') : one_Q s at' (startC E 61 ([.string s, .int .i64 at']) ([])) (one_t0 s at') := by
 unfold one_S0 at hS
 unfold one_t0
 show Gets E 0 _ (one_h1 s at' )
 exact reach_q KD_ok 2000 20 (some []) [] [] [0, 1, 2, 3, 4, 5, 6, 7, 8, 9] [0, 1, 5, 6, 7] [] [] [] (andI (eqA_self []) (andI (eqH_self []) (andI (pdec_iff.2 hS) rfl)))
noncomputable def one_t1 (s : ByteArray) (at' : Int) : one_R :=
 bif decide (IntKind.i64.wrap (at' + 0) < ((slen s) : Int)) then bif decide (chr s (IntKind.i64.wrap (at' + 0)).toNat ≤ 127) then .inr (.inr (.inr (.inr (.inr (.inr (.inr (.inr (.inr (.inr (1))))))))))
  else .inr (.inl (()))
 else .inr (.inr (.inr (.inr (.inr (.inr (.inr (.inr (.inr (.inr (0))))))))))
noncomputable def one_S1 (s : ByteArray) (at' : Int) : Prop :=
 ((decide (IntKind.i64.wrap (at' + 0) < ((slen s) : Int))) = true → ((decide (chr s (IntKind.i64.wrap (at' + 0)).toNat ≤ 127)) = true → (0 ≤ IntKind.i64.wrap (at' + 0)) ∧ (IntKind.i64.wrap (at' + 0) < ((slen s) : Int))) ∧
  ((decide (chr s (IntKind.i64.wrap (at' + 0)).toNat ≤ 127)) = false → ((IntKind.i64.wrap (at' + 0) == ((slen s) : Int)) = false) ∧ (0 ≤ IntKind.i64.wrap (at' + 0)) ∧ (IntKind.i64.wrap (at' + 0) < ((slen s) : Int)))) ∧
 ((decide (IntKind.i64.wrap (at' + 0) < ((slen s) : Int))) = false → (IntKind.i64.wrap (at' + 0) == ((slen s) : Int)) = true)
theorem one_ok1 (s : ByteArray) (at' : Int) (hS : one_S1 s at') : one_Q s at' (one_h1 s at') (one_t1 s at') := by
 unfold one_S1 at hS
 unfold one_t1
 refine cond_intro (P := one_Q s at' (one_h1 s at')) _ (fun h2 => ?_) (fun h2 => ?_)
 ·skip
  refine cond_intro (P := one_Q s at' (one_h1 s at')) _ (fun h4 => ?_) (fun h4 => ?_)
  ·skip
   have z0 := (hS.1 h2).1 h4; exact ends_q KD_ok 2000 54 (bs 10 543) [] [4] [] (andI (dT h4) (andI (decide_eq_true z0.1) (and4 (decide_eq_true z0.2) (decide_eq_true z0.1) (decide_eq_true z0.2) (dT h2) rfl)))
  ·skip
   show Gets E 0 _ (one_h2 s at' )
   have z0 := (hS.1 h2).2 h4; exact reach_q KD_ok 2000 64 (bs 8 15) [] [] [0, 1, 2, 3, 4, 5, 6, 7, 8, 9] [0, 1, 5, 6, 7] [] [] [] (andI (dF z0.1) (andI (dF h4) (andI (decide_eq_true z0.2.1) (and4 (decide_eq_true z0.2.2) (decide_eq_true z0.2.1) (decide_eq_true z0.2.2) (dT h2) rfl))))
 ·skip
  exact ends_q KD_ok 2000 52 (bs 7 67) [] [4] [] (andI (dT (hS.2 h2)) (andI (dF h2) rfl))
noncomputable def one_t2 (s : ByteArray) (at' : Int) : one_R :=
 bif decide (IntKind.i64.wrap (at' + 0) < ((slen s) : Int)) then bif decide (194 ≤ chr s (IntKind.i64.wrap (at' + 0)).toNat) then bif decide (chr s (IntKind.i64.wrap (at' + 0)).toNat ≤ 223) then bif decide (IntKind.i64.wrap (at' + 1) < ((slen s) : Int)) then bif decide (128 ≤ chr s (IntKind.i64.wrap (at' + 1)).toNat) then bif decide (chr s (IntKind.i64.wrap (at' + 1)).toNat ≤ 191) then .inr (.inr (.inr (.inr (.inr (.inr (.inr (.inr (.inr (.inr (2))))))))))
      else .inr (.inr (.inl (1)))
     else .inr (.inr (.inl (1)))
    else .inr (.inr (.inr (.inr (.inr (.inr (.inr (.inr (.inr (.inr (0))))))))))
   else .inr (.inr (.inl (0)))
  else .inr (.inr (.inl (0)))
 else .inr (.inr (.inr (.inr (.inr (.inr (.inr (.inr (.inr (.inr (0))))))))))
noncomputable def one_S2 (s : ByteArray) (at' : Int) : Prop :=
 ((decide (IntKind.i64.wrap (at' + 0) < ((slen s) : Int))) = true → ((decide (194 ≤ chr s (IntKind.i64.wrap (at' + 0)).toNat)) = true → ((decide (chr s (IntKind.i64.wrap (at' + 0)).toNat ≤ 223)) = true → ((decide (IntKind.i64.wrap (at' + 1) < ((slen s) : Int))) = true → ((decide (128 ≤ chr s (IntKind.i64.wrap (at' + 1)).toNat)) = true → ((decide (chr s (IntKind.i64.wrap (at' + 1)).toNat ≤ 191)) = true → (0 ≤ IntKind.i64.wrap (at' + 1)) ∧ (IntKind.i64.wrap (at' + 1) < ((slen s) : Int)) ∧ (0 ≤ IntKind.i64.wrap (at' + 0)) ∧ (IntKind.i64.wrap (at' + 0) < ((slen s) : Int))) ∧
      ((decide (chr s (IntKind.i64.wrap (at' + 1)).toNat ≤ 191)) = false → ((IntKind.i64.wrap (at' + 1) == ((slen s) : Int)) = false) ∧ (0 ≤ IntKind.i64.wrap (at' + 1)) ∧ (IntKind.i64.wrap (at' + 1) < ((slen s) : Int)) ∧ (0 ≤ IntKind.i64.wrap (at' + 0)) ∧ (IntKind.i64.wrap (at' + 0) < ((slen s) : Int)))) ∧
     ((decide (128 ≤ chr s (IntKind.i64.wrap (at' + 1)).toNat)) = false → ((IntKind.i64.wrap (at' + 1) == ((slen s) : Int)) = false) ∧ (0 ≤ IntKind.i64.wrap (at' + 1)) ∧ (IntKind.i64.wrap (at' + 1) < ((slen s) : Int)) ∧ (0 ≤ IntKind.i64.wrap (at' + 0)) ∧ (IntKind.i64.wrap (at' + 0) < ((slen s) : Int)))) ∧
    ((decide (IntKind.i64.wrap (at' + 1) < ((slen s) : Int))) = false → ((IntKind.i64.wrap (at' + 1) == ((slen s) : Int)) = true) ∧ (0 ≤ IntKind.i64.wrap (at' + 0)) ∧ (IntKind.i64.wrap (at' + 0) < ((slen s) : Int)))) ∧
   ((decide (chr s (IntKind.i64.wrap (at' + 0)).toNat ≤ 223)) = false → ((IntKind.i64.wrap (at' + 0) == ((slen s) : Int)) = false) ∧ (0 ≤ IntKind.i64.wrap (at' + 0)) ∧ (IntKind.i64.wrap (at' + 0) < ((slen s) : Int)))) ∧
  ((decide (194 ≤ chr s (IntKind.i64.wrap (at' + 0)).toNat)) = false → ((IntKind.i64.wrap (at' + 0) == ((slen s) : Int)) = false) ∧ (0 ≤ IntKind.i64.wrap (at' + 0)) ∧ (IntKind.i64.wrap (at' + 0) < ((slen s) : Int)))) ∧
 ((decide (IntKind.i64.wrap (at' + 0) < ((slen s) : Int))) = false → (IntKind.i64.wrap (at' + 0) == ((slen s) : Int)) = true)
theorem one_ok2 (s : ByteArray) (at' : Int) (hS : one_S2 s at') : one_Q s at' (one_h2 s at') (one_t2 s at') := by
 unfold one_S2 at hS
 unfold one_t2
 refine cond_intro (P := one_Q s at' (one_h2 s at')) _ (fun h2 => ?_) (fun h2 => ?_)
 ·skip
  refine cond_intro (P := one_Q s at' (one_h2 s at')) _ (fun h3 => ?_) (fun h3 => ?_)
  ·skip
   refine cond_intro (P := one_Q s at' (one_h2 s at')) _ (fun h4 => ?_) (fun h4 => ?_)
   ·skip
    refine cond_intro (P := one_Q s at' (one_h2 s at')) _ (fun h6 => ?_) (fun h6 => ?_)
    ·skip
     refine cond_intro (P := one_Q s at' (one_h2 s at')) _ (fun h7 => ?_) (fun h7 => ?_)
     ·skip
      refine cond_intro (P := one_Q s at' (one_h2 s at')) _ (fun h8 => ?_) (fun h8 => ?_)
      ·skip
       have z0 := (((((hS.1 h2).1 h3).1 h4).1 h6).1 h7).1 h8; exact ends_q KD_ok 2000 67 (bs 14 8703) [] [4] [] (and8 (dT h8) (decide_eq_true z0.1) (decide_eq_true z0.2.1) (dT h7) (decide_eq_true z0.1) (decide_eq_true z0.2.1) (dT h6) (dT h4) (andI (decide_eq_true z0.2.2.1) (andI (decide_eq_true z0.2.2.2) (and4 (dT h3) (decide_eq_true z0.2.2.1) (decide_eq_true z0.2.2.2) (dT h2) rfl))))
      ·skip
       show Gets E 0 _ (one_h3 s at' (1))
       have z0 := (((((hS.1 h2).1 h3).1 h4).1 h6).1 h7).2 h8; exact reach_q KD_ok 2000 80 (bs 12 2303) [] [] [0, 1, 2, 3, 4, 5, 6, 7, 8, 9] [0, 1, 5, 6, 7] [] [] [] (and8 (dF z0.1) (dF h8) (decide_eq_true z0.2.1) (decide_eq_true z0.2.2.1) (dT h7) (decide_eq_true z0.2.1) (decide_eq_true z0.2.2.1) (dT h6) (andI (dT h4) (andI (decide_eq_true z0.2.2.2.1) (andI (decide_eq_true z0.2.2.2.2) (and4 (dT h3) (decide_eq_true z0.2.2.2.1) (decide_eq_true z0.2.2.2.2) (dT h2) rfl)))))
     ·skip
      show Gets E 0 _ (one_h3 s at' (1))
      have z0 := ((((hS.1 h2).1 h3).1 h4).1 h6).2 h7; exact reach_q KD_ok 2000 80 (bs 12 2175) [] [] [0, 1, 2, 3, 4, 5, 6, 7, 8, 9] [0, 1, 5, 6, 7] [] [] [] (and8 (dF z0.1) (dF h7) (decide_eq_true z0.2.1) (decide_eq_true z0.2.2.1) (dT h6) (dT h4) (decide_eq_true z0.2.2.2.1) (decide_eq_true z0.2.2.2.2) (and4 (dT h3) (decide_eq_true z0.2.2.2.1) (decide_eq_true z0.2.2.2.2) (dT h2) rfl))
    ·skip
     have z0 := (((hS.1 h2).1 h3).1 h4).2 h6; exact ends_q KD_ok 2000 65 (bs 11 1087) [] [4] [] (and8 (dT z0.1) (dF h6) (dT h4) (decide_eq_true z0.2.1) (decide_eq_true z0.2.2) (dT h3) (decide_eq_true z0.2.1) (decide_eq_true z0.2.2) (andI (dT h2) rfl))
   ·skip
    show Gets E 0 _ (one_h3 s at' (0))
    have z0 := ((hS.1 h2).1 h3).2 h4; exact reach_q KD_ok 2000 64 (bs 8 15) [] [] [0, 1, 2, 3, 4, 5, 6, 7, 8, 9] [0, 1, 5, 6, 7] [] [] [] (and8 (dF z0.1) (dF h4) (decide_eq_true z0.2.1) (decide_eq_true z0.2.2) (dT h3) (decide_eq_true z0.2.1) (decide_eq_true z0.2.2) (dT h2) rfl)
  ·skip
   show Gets E 0 _ (one_h3 s at' (0))
   have z0 := (hS.1 h2).2 h3; exact reach_q KD_ok 2000 64 (bs 8 7) [] [] [0, 1, 2, 3, 4, 5, 6, 7, 8, 9] [0, 1, 5, 6, 7] [] [] [] (andI (dF z0.1) (and4 (dF h3) (decide_eq_true z0.2.1) (decide_eq_true z0.2.2) (dT h2) rfl))
 ·skip
  exact ends_q KD_ok 2000 52 (bs 7 67) [] [4] [] (andI (dT (hS.2 h2)) (andI (dF h2) rfl))
noncomputable def one_t3 (s : ByteArray) (at' t6_3 : Int) : one_R :=
 bif decide (IntKind.i64.wrap (at' + 0) < ((slen s) : Int)) then bif decide (224 ≤ chr s (IntKind.i64.wrap (at' + 0)).toNat) then bif decide (chr s (IntKind.i64.wrap (at' + 0)).toNat ≤ 224) then bif decide (IntKind.i64.wrap (at' + 1) < ((slen s) : Int)) then bif decide (160 ≤ chr s (IntKind.i64.wrap (at' + 1)).toNat) then bif decide (chr s (IntKind.i64.wrap (at' + 1)).toNat ≤ 191) then bif decide (IntKind.i64.wrap (at' + 2) < ((slen s) : Int)) then bif decide (128 ≤ chr s (IntKind.i64.wrap (at' + 2)).toNat) then bif decide (chr s (IntKind.i64.wrap (at' + 2)).toNat ≤ 191) then .inr (.inr (.inr (.inr (.inr (.inr (.inr (.inr (.inr (.inr (3))))))))))
         else bif decide (t6_3 < 2) then .inr (.inr (.inr (.inl (2))))
          else .inr (.inr (.inr (.inl (t6_3))))
        else bif decide (t6_3 < 2) then .inr (.inr (.inr (.inl (2))))
         else .inr (.inr (.inr (.inl (t6_3))))
       else .inr (.inr (.inr (.inr (.inr (.inr (.inr (.inr (.inr (.inr (0))))))))))
      else bif decide (t6_3 < 1) then .inr (.inr (.inr (.inl (1))))
       else .inr (.inr (.inr (.inl (t6_3))))
     else bif decide (t6_3 < 1) then .inr (.inr (.inr (.inl (1))))
      else .inr (.inr (.inr (.inl (t6_3))))
    else .inr (.inr (.inr (.inr (.inr (.inr (.inr (.inr (.inr (.inr (0))))))))))
   else bif decide (t6_3 < 0) then .inr (.inr (.inr (.inl (0))))
    else .inr (.inr (.inr (.inl (t6_3))))
  else bif decide (t6_3 < 0) then .inr (.inr (.inr (.inl (0))))
   else .inr (.inr (.inr (.inl (t6_3))))
 else .inr (.inr (.inr (.inr (.inr (.inr (.inr (.inr (.inr (.inr (0))))))))))
noncomputable def one_S3 (s : ByteArray) (at' t6_3 : Int) : Prop :=
 ((decide (IntKind.i64.wrap (at' + 0) < ((slen s) : Int))) = true → ((decide (224 ≤ chr s (IntKind.i64.wrap (at' + 0)).toNat)) = true → ((decide (chr s (IntKind.i64.wrap (at' + 0)).toNat ≤ 224)) = true → ((decide (IntKind.i64.wrap (at' + 1) < ((slen s) : Int))) = true → ((decide (160 ≤ chr s (IntKind.i64.wrap (at' + 1)).toNat)) = true → ((decide (chr s (IntKind.i64.wrap (at' + 1)).toNat ≤ 191)) = true → ((decide (IntKind.i64.wrap (at' + 2) < ((slen s) : Int))) = true → ((decide (128 ≤ chr s (IntKind.i64.wrap (at' + 2)).toNat)) = true → ((decide (chr s (IntKind.i64.wrap (at' + 2)).toNat ≤ 191)) = true → (0 ≤ IntKind.i64.wrap (at' + 2)) ∧ (IntKind.i64.wrap (at' + 2) < ((slen s) : Int)) ∧ (0 ≤ IntKind.i64.wrap (at' + 1)) ∧ (IntKind.i64.wrap (at' + 1) < ((slen s) : Int)) ∧ (0 ≤ IntKind.i64.wrap (at' + 0)) ∧ (IntKind.i64.wrap (at' + 0) < ((slen s) : Int))) ∧
         ((decide (chr s (IntKind.i64.wrap (at' + 2)).toNat ≤ 191)) = false → ((decide (t6_3 < 2)) = true → ((IntKind.i64.wrap (at' + 2) == ((slen s) : Int)) = false) ∧ (0 ≤ IntKind.i64.wrap (at' + 2)) ∧ (IntKind.i64.wrap (at' + 2) < ((slen s) : Int)) ∧ (0 ≤ IntKind.i64.wrap (at' + 1)) ∧ (IntKind.i64.wrap (at' + 1) < ((slen s) : Int)) ∧ (0 ≤ IntKind.i64.wrap (at' + 0)) ∧ (IntKind.i64.wrap (at' + 0) < ((slen s) : Int))) ∧
          ((decide (t6_3 < 2)) = false → ((IntKind.i64.wrap (at' + 2) == ((slen s) : Int)) = false) ∧ (0 ≤ IntKind.i64.wrap (at' + 2)) ∧ (IntKind.i64.wrap (at' + 2) < ((slen s) : Int)) ∧ (0 ≤ IntKind.i64.wrap (at' + 1)) ∧ (IntKind.i64.wrap (at' + 1) < ((slen s) : Int)) ∧ (0 ≤ IntKind.i64.wrap (at' + 0)) ∧ (IntKind.i64.wrap (at' + 0) < ((slen s) : Int))))) ∧
        ((decide (128 ≤ chr s (IntKind.i64.wrap (at' + 2)).toNat)) = false → ((decide (t6_3 < 2)) = true → ((IntKind.i64.wrap (at' + 2) == ((slen s) : Int)) = false) ∧ (0 ≤ IntKind.i64.wrap (at' + 2)) ∧ (IntKind.i64.wrap (at' + 2) < ((slen s) : Int)) ∧ (0 ≤ IntKind.i64.wrap (at' + 1)) ∧ (IntKind.i64.wrap (at' + 1) < ((slen s) : Int)) ∧ (0 ≤ IntKind.i64.wrap (at' + 0)) ∧ (IntKind.i64.wrap (at' + 0) < ((slen s) : Int))) ∧
         ((decide (t6_3 < 2)) = false → ((IntKind.i64.wrap (at' + 2) == ((slen s) : Int)) = false) ∧ (0 ≤ IntKind.i64.wrap (at' + 2)) ∧ (IntKind.i64.wrap (at' + 2) < ((slen s) : Int)) ∧ (0 ≤ IntKind.i64.wrap (at' + 1)) ∧ (IntKind.i64.wrap (at' + 1) < ((slen s) : Int)) ∧ (0 ≤ IntKind.i64.wrap (at' + 0)) ∧ (IntKind.i64.wrap (at' + 0) < ((slen s) : Int))))) ∧
       ((decide (IntKind.i64.wrap (at' + 2) < ((slen s) : Int))) = false → ((IntKind.i64.wrap (at' + 2) == ((slen s) : Int)) = true) ∧ (0 ≤ IntKind.i64.wrap (at' + 1)) ∧ (IntKind.i64.wrap (at' + 1) < ((slen s) : Int)) ∧ (0 ≤ IntKind.i64.wrap (at' + 0)) ∧ (IntKind.i64.wrap (at' + 0) < ((slen s) : Int)))) ∧
      ((decide (chr s (IntKind.i64.wrap (at' + 1)).toNat ≤ 191)) = false → ((decide (t6_3 < 1)) = true → ((IntKind.i64.wrap (at' + 1) == ((slen s) : Int)) = false) ∧ (0 ≤ IntKind.i64.wrap (at' + 1)) ∧ (IntKind.i64.wrap (at' + 1) < ((slen s) : Int)) ∧ (0 ≤ IntKind.i64.wrap (at' + 0)) ∧ (IntKind.i64.wrap (at' + 0) < ((slen s) : Int))) ∧
       ((decide (t6_3 < 1)) = false → ((IntKind.i64.wrap (at' + 1) == ((slen s) : Int)) = false) ∧ (0 ≤ IntKind.i64.wrap (at' + 1)) ∧ (IntKind.i64.wrap (at' + 1) < ((slen s) : Int)) ∧ (0 ≤ IntKind.i64.wrap (at' + 0)) ∧ (IntKind.i64.wrap (at' + 0) < ((slen s) : Int))))) ∧
     ((decide (160 ≤ chr s (IntKind.i64.wrap (at' + 1)).toNat)) = false → ((decide (t6_3 < 1)) = true → ((IntKind.i64.wrap (at' + 1) == ((slen s) : Int)) = false) ∧ (0 ≤ IntKind.i64.wrap (at' + 1)) ∧ (IntKind.i64.wrap (at' + 1) < ((slen s) : Int)) ∧ (0 ≤ IntKind.i64.wrap (at' + 0)) ∧ (IntKind.i64.wrap (at' + 0) < ((slen s) : Int))) ∧
      ((decide (t6_3 < 1)) = false → ((IntKind.i64.wrap (at' + 1) == ((slen s) : Int)) = false) ∧ (0 ≤ IntKind.i64.wrap (at' + 1)) ∧ (IntKind.i64.wrap (at' + 1) < ((slen s) : Int)) ∧ (0 ≤ IntKind.i64.wrap (at' + 0)) ∧ (IntKind.i64.wrap (at' + 0) < ((slen s) : Int))))) ∧
    ((decide (IntKind.i64.wrap (at' + 1) < ((slen s) : Int))) = false → ((IntKind.i64.wrap (at' + 1) == ((slen s) : Int)) = true) ∧ (0 ≤ IntKind.i64.wrap (at' + 0)) ∧ (IntKind.i64.wrap (at' + 0) < ((slen s) : Int)))) ∧
   ((decide (chr s (IntKind.i64.wrap (at' + 0)).toNat ≤ 224)) = false → ((decide (t6_3 < 0)) = true → ((IntKind.i64.wrap (at' + 0) == ((slen s) : Int)) = false) ∧ (0 ≤ IntKind.i64.wrap (at' + 0)) ∧ (IntKind.i64.wrap (at' + 0) < ((slen s) : Int))) ∧
    ((decide (t6_3 < 0)) = false → ((IntKind.i64.wrap (at' + 0) == ((slen s) : Int)) = false) ∧ (0 ≤ IntKind.i64.wrap (at' + 0)) ∧ (IntKind.i64.wrap (at' + 0) < ((slen s) : Int))))) ∧
  ((decide (224 ≤ chr s (IntKind.i64.wrap (at' + 0)).toNat)) = false → ((decide (t6_3 < 0)) = true → ((IntKind.i64.wrap (at' + 0) == ((slen s) : Int)) = false) ∧ (0 ≤ IntKind.i64.wrap (at' + 0)) ∧ (IntKind.i64.wrap (at' + 0) < ((slen s) : Int))) ∧
   ((decide (t6_3 < 0)) = false → ((IntKind.i64.wrap (at' + 0) == ((slen s) : Int)) = false) ∧ (0 ≤ IntKind.i64.wrap (at' + 0)) ∧ (IntKind.i64.wrap (at' + 0) < ((slen s) : Int))))) ∧
 ((decide (IntKind.i64.wrap (at' + 0) < ((slen s) : Int))) = false → (IntKind.i64.wrap (at' + 0) == ((slen s) : Int)) = true)
theorem one_ok3 (s : ByteArray) (at' t6_3 : Int) (hS : one_S3 s at' t6_3) : one_Q s at' (one_h3 s at' t6_3) (one_t3 s at' t6_3) := by
 unfold one_S3 at hS
 unfold one_t3
 refine cond_intro (P := one_Q s at' (one_h3 s at' t6_3)) _ (fun h2 => ?_) (fun h2 => ?_)
 ·skip
  refine cond_intro (P := one_Q s at' (one_h3 s at' t6_3)) _ (fun h3 => ?_) (fun h3 => ?_)
  ·skip
   refine cond_intro (P := one_Q s at' (one_h3 s at' t6_3)) _ (fun h4 => ?_) (fun h4 => ?_)
   ·skip
    refine cond_intro (P := one_Q s at' (one_h3 s at' t6_3)) _ (fun h6 => ?_) (fun h6 => ?_)
    ·skip
     refine cond_intro (P := one_Q s at' (one_h3 s at' t6_3)) _ (fun h7 => ?_) (fun h7 => ?_)
     ·skip
      refine cond_intro (P := one_Q s at' (one_h3 s at' t6_3)) _ (fun h8 => ?_) (fun h8 => ?_)
      ·skip
       refine cond_intro (P := one_Q s at' (one_h3 s at' t6_3)) _ (fun h10 => ?_) (fun h10 => ?_)
       ·skip
        refine cond_intro (P := one_Q s at' (one_h3 s at' t6_3)) _ (fun h11 => ?_) (fun h11 => ?_)
        ·skip
         refine cond_intro (P := one_Q s at' (one_h3 s at' t6_3)) _ (fun h12 => ?_) (fun h12 => ?_)
         ·skip
          have z0 := ((((((((hS.1 h2).1 h3).1 h4).1 h6).1 h7).1 h8).1 h10).1 h11).1 h12; exact ends_q KD_ok 2000 80 (bs 18 139263) [] [4] [] (and8 (dT h12) (decide_eq_true z0.1) (decide_eq_true z0.2.1) (dT h11) (decide_eq_true z0.1) (decide_eq_true z0.2.1) (dT h10) (dT h8) (and8 (decide_eq_true z0.2.2.1) (decide_eq_true z0.2.2.2.1) (dT h7) (decide_eq_true z0.2.2.1) (decide_eq_true z0.2.2.2.1) (dT h6) (dT h4) (decide_eq_true z0.2.2.2.2.1) (andI (decide_eq_true z0.2.2.2.2.2) (and4 (dT h3) (decide_eq_true z0.2.2.2.2.1) (decide_eq_true z0.2.2.2.2.2) (dT h2) rfl))))
         ·skip
          refine cond_intro (P := one_Q s at' (one_h3 s at' t6_3)) _ (fun h15 => ?_) (fun h15 => ?_)
          ·skip
           show Gets E 0 _ (one_h4 s at' (2))
           have z0 := (((((((((hS.1 h2).1 h3).1 h4).1 h6).1 h7).1 h8).1 h10).1 h11).2 h12).1 h15; exact reach_q KD_ok 2000 93 (bs 16 36863) [] [] [0, 1, 2, 3, 4, 5, 6, 7, 8, 9] [0, 1, 5, 6, 7] [] [] [] (and8 (dT h15) (dF z0.1) (dF h12) (decide_eq_true z0.2.1) (decide_eq_true z0.2.2.1) (dT h11) (decide_eq_true z0.2.1) (decide_eq_true z0.2.2.1) (and8 (dT h10) (dT h8) (decide_eq_true z0.2.2.2.1) (decide_eq_true z0.2.2.2.2.1) (dT h7) (decide_eq_true z0.2.2.2.1) (decide_eq_true z0.2.2.2.2.1) (dT h6) (andI (dT h4) (andI (decide_eq_true z0.2.2.2.2.2.1) (andI (decide_eq_true z0.2.2.2.2.2.2) (and4 (dT h3) (decide_eq_true z0.2.2.2.2.2.1) (decide_eq_true z0.2.2.2.2.2.2) (dT h2) rfl))))))
          ·skip
           show Gets E 0 _ (one_h4 s at' t6_3)
           have z0 := (((((((((hS.1 h2).1 h3).1 h4).1 h6).1 h7).1 h8).1 h10).1 h11).2 h12).2 h15; exact reach_q KD_ok 2000 90 (bs 16 4095) [] [] [0, 1, 2, 3, 4, 5, 6, 7, 8, 9] [0, 1, 5, 6, 7] [] [] [] (and8 (dF h15) (dF z0.1) (dF h12) (decide_eq_true z0.2.1) (decide_eq_true z0.2.2.1) (dT h11) (decide_eq_true z0.2.1) (decide_eq_true z0.2.2.1) (and8 (dT h10) (dT h8) (decide_eq_true z0.2.2.2.1) (decide_eq_true z0.2.2.2.2.1) (dT h7) (decide_eq_true z0.2.2.2.1) (decide_eq_true z0.2.2.2.2.1) (dT h6) (andI (dT h4) (andI (decide_eq_true z0.2.2.2.2.2.1) (andI (decide_eq_true z0.2.2.2.2.2.2) (and4 (dT h3) (decide_eq_true z0.2.2.2.2.2.1) (decide_eq_true z0.2.2.2.2.2.2) (dT h2) rfl))))))
        ·skip
         refine cond_intro (P := one_Q s at' (one_h3 s at' t6_3)) _ (fun h15 => ?_) (fun h15 => ?_)
         ·skip
          show Gets E 0 _ (one_h4 s at' (2))
          have z0 := ((((((((hS.1 h2).1 h3).1 h4).1 h6).1 h7).1 h8).1 h10).2 h11).1 h15; exact reach_q KD_ok 2000 93 (bs 16 34815) [] [] [0, 1, 2, 3, 4, 5, 6, 7, 8, 9] [0, 1, 5, 6, 7] [] [] [] (and8 (dT h15) (dF z0.1) (dF h11) (decide_eq_true z0.2.1) (decide_eq_true z0.2.2.1) (dT h10) (dT h8) (decide_eq_true z0.2.2.2.1) (and8 (decide_eq_true z0.2.2.2.2.1) (dT h7) (decide_eq_true z0.2.2.2.1) (decide_eq_true z0.2.2.2.2.1) (dT h6) (dT h4) (decide_eq_true z0.2.2.2.2.2.1) (decide_eq_true z0.2.2.2.2.2.2) (and4 (dT h3) (decide_eq_true z0.2.2.2.2.2.1) (decide_eq_true z0.2.2.2.2.2.2) (dT h2) rfl)))
         ·skip
          show Gets E 0 _ (one_h4 s at' t6_3)
          have z0 := ((((((((hS.1 h2).1 h3).1 h4).1 h6).1 h7).1 h8).1 h10).2 h11).2 h15; exact reach_q KD_ok 2000 90 (bs 16 2047) [] [] [0, 1, 2, 3, 4, 5, 6, 7, 8, 9] [0, 1, 5, 6, 7] [] [] [] (and8 (dF h15) (dF z0.1) (dF h11) (decide_eq_true z0.2.1) (decide_eq_true z0.2.2.1) (dT h10) (dT h8) (decide_eq_true z0.2.2.2.1) (and8 (decide_eq_true z0.2.2.2.2.1) (dT h7) (decide_eq_true z0.2.2.2.1) (decide_eq_true z0.2.2.2.2.1) (dT h6) (dT h4) (decide_eq_true z0.2.2.2.2.2.1) (decide_eq_true z0.2.2.2.2.2.2) (and4 (dT h3) (decide_eq_true z0.2.2.2.2.2.1) (decide_eq_true z0.2.2.2.2.2.2) (dT h2) rfl)))
       ·skip
        have z0 := ((((((hS.1 h2).1 h3).1 h4).1 h6).1 h7).1 h8).2 h10; exact ends_q KD_ok 2000 78 (bs 15 17407) [] [4] [] (and8 (dT z0.1) (dF h10) (dT h8) (decide_eq_true z0.2.1) (decide_eq_true z0.2.2.1) (dT h7) (decide_eq_true z0.2.1) (decide_eq_true z0.2.2.1) (and8 (dT h6) (dT h4) (decide_eq_true z0.2.2.2.1) (decide_eq_true z0.2.2.2.2) (dT h3) (decide_eq_true z0.2.2.2.1) (decide_eq_true z0.2.2.2.2) (dT h2) rfl))
      ·skip
       refine cond_intro (P := one_Q s at' (one_h3 s at' t6_3)) _ (fun h11 => ?_) (fun h11 => ?_)
       ·skip
        show Gets E 0 _ (one_h4 s at' (1))
        have z0 := ((((((hS.1 h2).1 h3).1 h4).1 h6).1 h7).2 h8).1 h11; exact reach_q KD_ok 2000 80 (bs 12 2303) [] [] [0, 1, 2, 3, 4, 5, 6, 7, 8, 9] [0, 1, 5, 6, 7] [] [] [] (and8 (dT h11) (dF z0.1) (dF h8) (decide_eq_true z0.2.1) (decide_eq_true z0.2.2.1) (dT h7) (decide_eq_true z0.2.1) (decide_eq_true z0.2.2.1) (and8 (dT h6) (dT h4) (decide_eq_true z0.2.2.2.1) (decide_eq_true z0.2.2.2.2) (dT h3) (decide_eq_true z0.2.2.2.1) (decide_eq_true z0.2.2.2.2) (dT h2) rfl))
       ·skip
        show Gets E 0 _ (one_h4 s at' t6_3)
        have z0 := ((((((hS.1 h2).1 h3).1 h4).1 h6).1 h7).2 h8).2 h11; exact reach_q KD_ok 2000 77 (bs 12 255) [] [] [0, 1, 2, 3, 4, 5, 6, 7, 8, 9] [0, 1, 5, 6, 7] [] [] [] (and8 (dF h11) (dF z0.1) (dF h8) (decide_eq_true z0.2.1) (decide_eq_true z0.2.2.1) (dT h7) (decide_eq_true z0.2.1) (decide_eq_true z0.2.2.1) (and8 (dT h6) (dT h4) (decide_eq_true z0.2.2.2.1) (decide_eq_true z0.2.2.2.2) (dT h3) (decide_eq_true z0.2.2.2.1) (decide_eq_true z0.2.2.2.2) (dT h2) rfl))
     ·skip
      refine cond_intro (P := one_Q s at' (one_h3 s at' t6_3)) _ (fun h11 => ?_) (fun h11 => ?_)
      ·skip
       show Gets E 0 _ (one_h4 s at' (1))
       have z0 := (((((hS.1 h2).1 h3).1 h4).1 h6).2 h7).1 h11; exact reach_q KD_ok 2000 80 (bs 12 2175) [] [] [0, 1, 2, 3, 4, 5, 6, 7, 8, 9] [0, 1, 5, 6, 7] [] [] [] (and8 (dT h11) (dF z0.1) (dF h7) (decide_eq_true z0.2.1) (decide_eq_true z0.2.2.1) (dT h6) (dT h4) (decide_eq_true z0.2.2.2.1) (andI (decide_eq_true z0.2.2.2.2) (and4 (dT h3) (decide_eq_true z0.2.2.2.1) (decide_eq_true z0.2.2.2.2) (dT h2) rfl)))
      ·skip
       show Gets E 0 _ (one_h4 s at' t6_3)
       have z0 := (((((hS.1 h2).1 h3).1 h4).1 h6).2 h7).2 h11; exact reach_q KD_ok 2000 77 (bs 12 127) [] [] [0, 1, 2, 3, 4, 5, 6, 7, 8, 9] [0, 1, 5, 6, 7] [] [] [] (and8 (dF h11) (dF z0.1) (dF h7) (decide_eq_true z0.2.1) (decide_eq_true z0.2.2.1) (dT h6) (dT h4) (decide_eq_true z0.2.2.2.1) (andI (decide_eq_true z0.2.2.2.2) (and4 (dT h3) (decide_eq_true z0.2.2.2.1) (decide_eq_true z0.2.2.2.2) (dT h2) rfl)))
    ·skip
     have z0 := (((hS.1 h2).1 h3).1 h4).2 h6; exact ends_q KD_ok 2000 65 (bs 11 1087) [] [4] [] (and8 (dT z0.1) (dF h6) (dT h4) (decide_eq_true z0.2.1) (decide_eq_true z0.2.2) (dT h3) (decide_eq_true z0.2.1) (decide_eq_true z0.2.2) (andI (dT h2) rfl))
   ·skip
    refine cond_intro (P := one_Q s at' (one_h3 s at' t6_3)) _ (fun h7 => ?_) (fun h7 => ?_)
    ·skip
     show Gets E 0 _ (one_h4 s at' (0))
     have z0 := (((hS.1 h2).1 h3).2 h4).1 h7; exact reach_q KD_ok 2000 67 (bs 8 143) [] [] [0, 1, 2, 3, 4, 5, 6, 7, 8, 9] [0, 1, 5, 6, 7] [] [] [] (and8 (dT h7) (dF z0.1) (dF h4) (decide_eq_true z0.2.1) (decide_eq_true z0.2.2) (dT h3) (decide_eq_true z0.2.1) (decide_eq_true z0.2.2) (andI (dT h2) rfl))
    ·skip
     show Gets E 0 _ (one_h4 s at' t6_3)
     have z0 := (((hS.1 h2).1 h3).2 h4).2 h7; exact reach_q KD_ok 2000 64 (bs 8 15) [] [] [0, 1, 2, 3, 4, 5, 6, 7, 8, 9] [0, 1, 5, 6, 7] [] [] [] (and8 (dF h7) (dF z0.1) (dF h4) (decide_eq_true z0.2.1) (decide_eq_true z0.2.2) (dT h3) (decide_eq_true z0.2.1) (decide_eq_true z0.2.2) (andI (dT h2) rfl))
  ·skip
   refine cond_intro (P := one_Q s at' (one_h3 s at' t6_3)) _ (fun h7 => ?_) (fun h7 => ?_)
   ·skip
    show Gets E 0 _ (one_h4 s at' (0))
    have z0 := ((hS.1 h2).2 h3).1 h7; exact reach_q KD_ok 2000 67 (bs 8 135) [] [] [0, 1, 2, 3, 4, 5, 6, 7, 8, 9] [0, 1, 5, 6, 7] [] [] [] (andI (dT h7) (andI (dF z0.1) (and4 (dF h3) (decide_eq_true z0.2.1) (decide_eq_true z0.2.2) (dT h2) rfl)))
   ·skip
    show Gets E 0 _ (one_h4 s at' t6_3)
    have z0 := ((hS.1 h2).2 h3).2 h7; exact reach_q KD_ok 2000 64 (bs 8 7) [] [] [0, 1, 2, 3, 4, 5, 6, 7, 8, 9] [0, 1, 5, 6, 7] [] [] [] (andI (dF h7) (andI (dF z0.1) (and4 (dF h3) (decide_eq_true z0.2.1) (decide_eq_true z0.2.2) (dT h2) rfl)))
 ·skip
  exact ends_q KD_ok 2000 52 (bs 7 67) [] [4] [] (andI (dT (hS.2 h2)) (andI (dF h2) rfl))
noncomputable def one_t4 (s : ByteArray) (at' t6_4 : Int) : one_R :=
 bif decide (IntKind.i64.wrap (at' + 0) < ((slen s) : Int)) then bif decide (225 ≤ chr s (IntKind.i64.wrap (at' + 0)).toNat) then bif decide (chr s (IntKind.i64.wrap (at' + 0)).toNat ≤ 236) then bif decide (IntKind.i64.wrap (at' + 1) < ((slen s) : Int)) then bif decide (128 ≤ chr s (IntKind.i64.wrap (at' + 1)).toNat) then bif decide (chr s (IntKind.i64.wrap (at' + 1)).toNat ≤ 191) then bif decide (IntKind.i64.wrap (at' + 2) < ((slen s) : Int)) then bif decide (128 ≤ chr s (IntKind.i64.wrap (at' + 2)).toNat) then bif decide (chr s (IntKind.i64.wrap (at' + 2)).toNat ≤ 191) then .inr (.inr (.inr (.inr (.inr (.inr (.inr (.inr (.inr (.inr (3))))))))))
         else bif decide (t6_4 < 2) then .inr (.inr (.inr (.inr (.inl (2)))))
          else .inr (.inr (.inr (.inr (.inl (t6_4)))))
        else bif decide (t6_4 < 2) then .inr (.inr (.inr (.inr (.inl (2)))))
         else .inr (.inr (.inr (.inr (.inl (t6_4)))))
       else .inr (.inr (.inr (.inr (.inr (.inr (.inr (.inr (.inr (.inr (0))))))))))
      else bif decide (t6_4 < 1) then .inr (.inr (.inr (.inr (.inl (1)))))
       else .inr (.inr (.inr (.inr (.inl (t6_4)))))
     else bif decide (t6_4 < 1) then .inr (.inr (.inr (.inr (.inl (1)))))
      else .inr (.inr (.inr (.inr (.inl (t6_4)))))
    else .inr (.inr (.inr (.inr (.inr (.inr (.inr (.inr (.inr (.inr (0))))))))))
   else bif decide (t6_4 < 0) then .inr (.inr (.inr (.inr (.inl (0)))))
    else .inr (.inr (.inr (.inr (.inl (t6_4)))))
  else bif decide (t6_4 < 0) then .inr (.inr (.inr (.inr (.inl (0)))))
   else .inr (.inr (.inr (.inr (.inl (t6_4)))))
 else .inr (.inr (.inr (.inr (.inr (.inr (.inr (.inr (.inr (.inr (0))))))))))
noncomputable def one_S4 (s : ByteArray) (at' t6_4 : Int) : Prop :=
 ((decide (IntKind.i64.wrap (at' + 0) < ((slen s) : Int))) = true → ((decide (225 ≤ chr s (IntKind.i64.wrap (at' + 0)).toNat)) = true → ((decide (chr s (IntKind.i64.wrap (at' + 0)).toNat ≤ 236)) = true → ((decide (IntKind.i64.wrap (at' + 1) < ((slen s) : Int))) = true → ((decide (128 ≤ chr s (IntKind.i64.wrap (at' + 1)).toNat)) = true → ((decide (chr s (IntKind.i64.wrap (at' + 1)).toNat ≤ 191)) = true → ((decide (IntKind.i64.wrap (at' + 2) < ((slen s) : Int))) = true → ((decide (128 ≤ chr s (IntKind.i64.wrap (at' + 2)).toNat)) = true → ((decide (chr s (IntKind.i64.wrap (at' + 2)).toNat ≤ 191)) = true → (0 ≤ IntKind.i64.wrap (at' + 2)) ∧ (IntKind.i64.wrap (at' + 2) < ((slen s) : Int)) ∧ (0 ≤ IntKind.i64.wrap (at' + 1)) ∧ (IntKind.i64.wrap (at' + 1) < ((slen s) : Int)) ∧ (0 ≤ IntKind.i64.wrap (at' + 0)) ∧ (IntKind.i64.wrap (at' + 0) < ((slen s) : Int))) ∧
         ((decide (chr s (IntKind.i64.wrap (at' + 2)).toNat ≤ 191)) = false → ((decide (t6_4 < 2)) = true → ((IntKind.i64.wrap (at' + 2) == ((slen s) : Int)) = false) ∧ (0 ≤ IntKind.i64.wrap (at' + 2)) ∧ (IntKind.i64.wrap (at' + 2) < ((slen s) : Int)) ∧ (0 ≤ IntKind.i64.wrap (at' + 1)) ∧ (IntKind.i64.wrap (at' + 1) < ((slen s) : Int)) ∧ (0 ≤ IntKind.i64.wrap (at' + 0)) ∧ (IntKind.i64.wrap (at' + 0) < ((slen s) : Int))) ∧
          ((decide (t6_4 < 2)) = false → ((IntKind.i64.wrap (at' + 2) == ((slen s) : Int)) = false) ∧ (0 ≤ IntKind.i64.wrap (at' + 2)) ∧ (IntKind.i64.wrap (at' + 2) < ((slen s) : Int)) ∧ (0 ≤ IntKind.i64.wrap (at' + 1)) ∧ (IntKind.i64.wrap (at' + 1) < ((slen s) : Int)) ∧ (0 ≤ IntKind.i64.wrap (at' + 0)) ∧ (IntKind.i64.wrap (at' + 0) < ((slen s) : Int))))) ∧
        ((decide (128 ≤ chr s (IntKind.i64.wrap (at' + 2)).toNat)) = false → ((decide (t6_4 < 2)) = true → ((IntKind.i64.wrap (at' + 2) == ((slen s) : Int)) = false) ∧ (0 ≤ IntKind.i64.wrap (at' + 2)) ∧ (IntKind.i64.wrap (at' + 2) < ((slen s) : Int)) ∧ (0 ≤ IntKind.i64.wrap (at' + 1)) ∧ (IntKind.i64.wrap (at' + 1) < ((slen s) : Int)) ∧ (0 ≤ IntKind.i64.wrap (at' + 0)) ∧ (IntKind.i64.wrap (at' + 0) < ((slen s) : Int))) ∧
         ((decide (t6_4 < 2)) = false → ((IntKind.i64.wrap (at' + 2) == ((slen s) : Int)) = false) ∧ (0 ≤ IntKind.i64.wrap (at' + 2)) ∧ (IntKind.i64.wrap (at' + 2) < ((slen s) : Int)) ∧ (0 ≤ IntKind.i64.wrap (at' + 1)) ∧ (IntKind.i64.wrap (at' + 1) < ((slen s) : Int)) ∧ (0 ≤ IntKind.i64.wrap (at' + 0)) ∧ (IntKind.i64.wrap (at' + 0) < ((slen s) : Int))))) ∧
       ((decide (IntKind.i64.wrap (at' + 2) < ((slen s) : Int))) = false → ((IntKind.i64.wrap (at' + 2) == ((slen s) : Int)) = true) ∧ (0 ≤ IntKind.i64.wrap (at' + 1)) ∧ (IntKind.i64.wrap (at' + 1) < ((slen s) : Int)) ∧ (0 ≤ IntKind.i64.wrap (at' + 0)) ∧ (IntKind.i64.wrap (at' + 0) < ((slen s) : Int)))) ∧
      ((decide (chr s (IntKind.i64.wrap (at' + 1)).toNat ≤ 191)) = false → ((decide (t6_4 < 1)) = true → ((IntKind.i64.wrap (at' + 1) == ((slen s) : Int)) = false) ∧ (0 ≤ IntKind.i64.wrap (at' + 1)) ∧ (IntKind.i64.wrap (at' + 1) < ((slen s) : Int)) ∧ (0 ≤ IntKind.i64.wrap (at' + 0)) ∧ (IntKind.i64.wrap (at' + 0) < ((slen s) : Int))) ∧
       ((decide (t6_4 < 1)) = false → ((IntKind.i64.wrap (at' + 1) == ((slen s) : Int)) = false) ∧ (0 ≤ IntKind.i64.wrap (at' + 1)) ∧ (IntKind.i64.wrap (at' + 1) < ((slen s) : Int)) ∧ (0 ≤ IntKind.i64.wrap (at' + 0)) ∧ (IntKind.i64.wrap (at' + 0) < ((slen s) : Int))))) ∧
     ((decide (128 ≤ chr s (IntKind.i64.wrap (at' + 1)).toNat)) = false → ((decide (t6_4 < 1)) = true → ((IntKind.i64.wrap (at' + 1) == ((slen s) : Int)) = false) ∧ (0 ≤ IntKind.i64.wrap (at' + 1)) ∧ (IntKind.i64.wrap (at' + 1) < ((slen s) : Int)) ∧ (0 ≤ IntKind.i64.wrap (at' + 0)) ∧ (IntKind.i64.wrap (at' + 0) < ((slen s) : Int))) ∧
      ((decide (t6_4 < 1)) = false → ((IntKind.i64.wrap (at' + 1) == ((slen s) : Int)) = false) ∧ (0 ≤ IntKind.i64.wrap (at' + 1)) ∧ (IntKind.i64.wrap (at' + 1) < ((slen s) : Int)) ∧ (0 ≤ IntKind.i64.wrap (at' + 0)) ∧ (IntKind.i64.wrap (at' + 0) < ((slen s) : Int))))) ∧
    ((decide (IntKind.i64.wrap (at' + 1) < ((slen s) : Int))) = false → ((IntKind.i64.wrap (at' + 1) == ((slen s) : Int)) = true) ∧ (0 ≤ IntKind.i64.wrap (at' + 0)) ∧ (IntKind.i64.wrap (at' + 0) < ((slen s) : Int)))) ∧
   ((decide (chr s (IntKind.i64.wrap (at' + 0)).toNat ≤ 236)) = false → ((decide (t6_4 < 0)) = true → ((IntKind.i64.wrap (at' + 0) == ((slen s) : Int)) = false) ∧ (0 ≤ IntKind.i64.wrap (at' + 0)) ∧ (IntKind.i64.wrap (at' + 0) < ((slen s) : Int))) ∧
    ((decide (t6_4 < 0)) = false → ((IntKind.i64.wrap (at' + 0) == ((slen s) : Int)) = false) ∧ (0 ≤ IntKind.i64.wrap (at' + 0)) ∧ (IntKind.i64.wrap (at' + 0) < ((slen s) : Int))))) ∧
  ((decide (225 ≤ chr s (IntKind.i64.wrap (at' + 0)).toNat)) = false → ((decide (t6_4 < 0)) = true → ((IntKind.i64.wrap (at' + 0) == ((slen s) : Int)) = false) ∧ (0 ≤ IntKind.i64.wrap (at' + 0)) ∧ (IntKind.i64.wrap (at' + 0) < ((slen s) : Int))) ∧
   ((decide (t6_4 < 0)) = false → ((IntKind.i64.wrap (at' + 0) == ((slen s) : Int)) = false) ∧ (0 ≤ IntKind.i64.wrap (at' + 0)) ∧ (IntKind.i64.wrap (at' + 0) < ((slen s) : Int))))) ∧
 ((decide (IntKind.i64.wrap (at' + 0) < ((slen s) : Int))) = false → (IntKind.i64.wrap (at' + 0) == ((slen s) : Int)) = true)
theorem one_ok4 (s : ByteArray) (at' t6_4 : Int) (hS : one_S4 s at' t6_4) : one_Q s at' (one_h4 s at' t6_4) (one_t4 s at' t6_4) := by
 unfold one_S4 at hS
 unfold one_t4
 refine cond_intro (P := one_Q s at' (one_h4 s at' t6_4)) _ (fun h2 => ?_) (fun h2 => ?_)
 ·skip
  refine cond_intro (P := one_Q s at' (one_h4 s at' t6_4)) _ (fun h3 => ?_) (fun h3 => ?_)
  ·skip
   refine cond_intro (P := one_Q s at' (one_h4 s at' t6_4)) _ (fun h4 => ?_) (fun h4 => ?_)
   ·skip
    refine cond_intro (P := one_Q s at' (one_h4 s at' t6_4)) _ (fun h6 => ?_) (fun h6 => ?_)
    ·skip
     refine cond_intro (P := one_Q s at' (one_h4 s at' t6_4)) _ (fun h7 => ?_) (fun h7 => ?_)
     ·skip
      refine cond_intro (P := one_Q s at' (one_h4 s at' t6_4)) _ (fun h8 => ?_) (fun h8 => ?_)
      ·skip
       refine cond_intro (P := one_Q s at' (one_h4 s at' t6_4)) _ (fun h10 => ?_) (fun h10 => ?_)
       ·skip
        refine cond_intro (P := one_Q s at' (one_h4 s at' t6_4)) _ (fun h11 => ?_) (fun h11 => ?_)
        ·skip
         refine cond_intro (P := one_Q s at' (one_h4 s at' t6_4)) _ (fun h12 => ?_) (fun h12 => ?_)
         ·skip
          have z0 := ((((((((hS.1 h2).1 h3).1 h4).1 h6).1 h7).1 h8).1 h10).1 h11).1 h12; exact ends_q KD_ok 2000 80 (bs 18 139263) [] [4] [] (and8 (dT h12) (decide_eq_true z0.1) (decide_eq_true z0.2.1) (dT h11) (decide_eq_true z0.1) (decide_eq_true z0.2.1) (dT h10) (dT h8) (and8 (decide_eq_true z0.2.2.1) (decide_eq_true z0.2.2.2.1) (dT h7) (decide_eq_true z0.2.2.1) (decide_eq_true z0.2.2.2.1) (dT h6) (dT h4) (decide_eq_true z0.2.2.2.2.1) (andI (decide_eq_true z0.2.2.2.2.2) (and4 (dT h3) (decide_eq_true z0.2.2.2.2.1) (decide_eq_true z0.2.2.2.2.2) (dT h2) rfl))))
         ·skip
          refine cond_intro (P := one_Q s at' (one_h4 s at' t6_4)) _ (fun h15 => ?_) (fun h15 => ?_)
          ·skip
           show Gets E 0 _ (one_h5 s at' (2))
           have z0 := (((((((((hS.1 h2).1 h3).1 h4).1 h6).1 h7).1 h8).1 h10).1 h11).2 h12).1 h15; exact reach_q KD_ok 2000 93 (bs 16 36863) [] [] [0, 1, 2, 3, 4, 5, 6, 7, 8, 9] [0, 1, 5, 6, 7] [] [] [] (and8 (dT h15) (dF z0.1) (dF h12) (decide_eq_true z0.2.1) (decide_eq_true z0.2.2.1) (dT h11) (decide_eq_true z0.2.1) (decide_eq_true z0.2.2.1) (and8 (dT h10) (dT h8) (decide_eq_true z0.2.2.2.1) (decide_eq_true z0.2.2.2.2.1) (dT h7) (decide_eq_true z0.2.2.2.1) (decide_eq_true z0.2.2.2.2.1) (dT h6) (andI (dT h4) (andI (decide_eq_true z0.2.2.2.2.2.1) (andI (decide_eq_true z0.2.2.2.2.2.2) (and4 (dT h3) (decide_eq_true z0.2.2.2.2.2.1) (decide_eq_true z0.2.2.2.2.2.2) (dT h2) rfl))))))
          ·skip
           show Gets E 0 _ (one_h5 s at' t6_4)
           have z0 := (((((((((hS.1 h2).1 h3).1 h4).1 h6).1 h7).1 h8).1 h10).1 h11).2 h12).2 h15; exact reach_q KD_ok 2000 90 (bs 16 4095) [] [] [0, 1, 2, 3, 4, 5, 6, 7, 8, 9] [0, 1, 5, 6, 7] [] [] [] (and8 (dF h15) (dF z0.1) (dF h12) (decide_eq_true z0.2.1) (decide_eq_true z0.2.2.1) (dT h11) (decide_eq_true z0.2.1) (decide_eq_true z0.2.2.1) (and8 (dT h10) (dT h8) (decide_eq_true z0.2.2.2.1) (decide_eq_true z0.2.2.2.2.1) (dT h7) (decide_eq_true z0.2.2.2.1) (decide_eq_true z0.2.2.2.2.1) (dT h6) (andI (dT h4) (andI (decide_eq_true z0.2.2.2.2.2.1) (andI (decide_eq_true z0.2.2.2.2.2.2) (and4 (dT h3) (decide_eq_true z0.2.2.2.2.2.1) (decide_eq_true z0.2.2.2.2.2.2) (dT h2) rfl))))))
        ·skip
         refine cond_intro (P := one_Q s at' (one_h4 s at' t6_4)) _ (fun h15 => ?_) (fun h15 => ?_)
         ·skip
          show Gets E 0 _ (one_h5 s at' (2))
          have z0 := ((((((((hS.1 h2).1 h3).1 h4).1 h6).1 h7).1 h8).1 h10).2 h11).1 h15; exact reach_q KD_ok 2000 93 (bs 16 34815) [] [] [0, 1, 2, 3, 4, 5, 6, 7, 8, 9] [0, 1, 5, 6, 7] [] [] [] (and8 (dT h15) (dF z0.1) (dF h11) (decide_eq_true z0.2.1) (decide_eq_true z0.2.2.1) (dT h10) (dT h8) (decide_eq_true z0.2.2.2.1) (and8 (decide_eq_true z0.2.2.2.2.1) (dT h7) (decide_eq_true z0.2.2.2.1) (decide_eq_true z0.2.2.2.2.1) (dT h6) (dT h4) (decide_eq_true z0.2.2.2.2.2.1) (decide_eq_true z0.2.2.2.2.2.2) (and4 (dT h3) (decide_eq_true z0.2.2.2.2.2.1) (decide_eq_true z0.2.2.2.2.2.2) (dT h2) rfl)))
         ·skip
          show Gets E 0 _ (one_h5 s at' t6_4)
          have z0 := ((((((((hS.1 h2).1 h3).1 h4).1 h6).1 h7).1 h8).1 h10).2 h11).2 h15; exact reach_q KD_ok 2000 90 (bs 16 2047) [] [] [0, 1, 2, 3, 4, 5, 6, 7, 8, 9] [0, 1, 5, 6, 7] [] [] [] (and8 (dF h15) (dF z0.1) (dF h11) (decide_eq_true z0.2.1) (decide_eq_true z0.2.2.1) (dT h10) (dT h8) (decide_eq_true z0.2.2.2.1) (and8 (decide_eq_true z0.2.2.2.2.1) (dT h7) (decide_eq_true z0.2.2.2.1) (decide_eq_true z0.2.2.2.2.1) (dT h6) (dT h4) (decide_eq_true z0.2.2.2.2.2.1) (decide_eq_true z0.2.2.2.2.2.2) (and4 (dT h3) (decide_eq_true z0.2.2.2.2.2.1) (decide_eq_true z0.2.2.2.2.2.2) (dT h2) rfl)))
       ·skip
        have z0 := ((((((hS.1 h2).1 h3).1 h4).1 h6).1 h7).1 h8).2 h10; exact ends_q KD_ok 2000 78 (bs 15 17407) [] [4] [] (and8 (dT z0.1) (dF h10) (dT h8) (decide_eq_true z0.2.1) (decide_eq_true z0.2.2.1) (dT h7) (decide_eq_true z0.2.1) (decide_eq_true z0.2.2.1) (and8 (dT h6) (dT h4) (decide_eq_true z0.2.2.2.1) (decide_eq_true z0.2.2.2.2) (dT h3) (decide_eq_true z0.2.2.2.1) (decide_eq_true z0.2.2.2.2) (dT h2) rfl))
      ·skip
       refine cond_intro (P := one_Q s at' (one_h4 s at' t6_4)) _ (fun h11 => ?_) (fun h11 => ?_)
       ·skip
        show Gets E 0 _ (one_h5 s at' (1))
        have z0 := ((((((hS.1 h2).1 h3).1 h4).1 h6).1 h7).2 h8).1 h11; exact reach_q KD_ok 2000 80 (bs 12 2303) [] [] [0, 1, 2, 3, 4, 5, 6, 7, 8, 9] [0, 1, 5, 6, 7] [] [] [] (and8 (dT h11) (dF z0.1) (dF h8) (decide_eq_true z0.2.1) (decide_eq_true z0.2.2.1) (dT h7) (decide_eq_true z0.2.1) (decide_eq_true z0.2.2.1) (and8 (dT h6) (dT h4) (decide_eq_true z0.2.2.2.1) (decide_eq_true z0.2.2.2.2) (dT h3) (decide_eq_true z0.2.2.2.1) (decide_eq_true z0.2.2.2.2) (dT h2) rfl))
       ·skip
        show Gets E 0 _ (one_h5 s at' t6_4)
        have z0 := ((((((hS.1 h2).1 h3).1 h4).1 h6).1 h7).2 h8).2 h11; exact reach_q KD_ok 2000 77 (bs 12 255) [] [] [0, 1, 2, 3, 4, 5, 6, 7, 8, 9] [0, 1, 5, 6, 7] [] [] [] (and8 (dF h11) (dF z0.1) (dF h8) (decide_eq_true z0.2.1) (decide_eq_true z0.2.2.1) (dT h7) (decide_eq_true z0.2.1) (decide_eq_true z0.2.2.1) (and8 (dT h6) (dT h4) (decide_eq_true z0.2.2.2.1) (decide_eq_true z0.2.2.2.2) (dT h3) (decide_eq_true z0.2.2.2.1) (decide_eq_true z0.2.2.2.2) (dT h2) rfl))
     ·skip
      refine cond_intro (P := one_Q s at' (one_h4 s at' t6_4)) _ (fun h11 => ?_) (fun h11 => ?_)
      ·skip
       show Gets E 0 _ (one_h5 s at' (1))
       have z0 := (((((hS.1 h2).1 h3).1 h4).1 h6).2 h7).1 h11; exact reach_q KD_ok 2000 80 (bs 12 2175) [] [] [0, 1, 2, 3, 4, 5, 6, 7, 8, 9] [0, 1, 5, 6, 7] [] [] [] (and8 (dT h11) (dF z0.1) (dF h7) (decide_eq_true z0.2.1) (decide_eq_true z0.2.2.1) (dT h6) (dT h4) (decide_eq_true z0.2.2.2.1) (andI (decide_eq_true z0.2.2.2.2) (and4 (dT h3) (decide_eq_true z0.2.2.2.1) (decide_eq_true z0.2.2.2.2) (dT h2) rfl)))
      ·skip
       show Gets E 0 _ (one_h5 s at' t6_4)
       have z0 := (((((hS.1 h2).1 h3).1 h4).1 h6).2 h7).2 h11; exact reach_q KD_ok 2000 77 (bs 12 127) [] [] [0, 1, 2, 3, 4, 5, 6, 7, 8, 9] [0, 1, 5, 6, 7] [] [] [] (and8 (dF h11) (dF z0.1) (dF h7) (decide_eq_true z0.2.1) (decide_eq_true z0.2.2.1) (dT h6) (dT h4) (decide_eq_true z0.2.2.2.1) (andI (decide_eq_true z0.2.2.2.2) (and4 (dT h3) (decide_eq_true z0.2.2.2.1) (decide_eq_true z0.2.2.2.2) (dT h2) rfl)))
    ·skip
     have z0 := (((hS.1 h2).1 h3).1 h4).2 h6; exact ends_q KD_ok 2000 65 (bs 11 1087) [] [4] [] (and8 (dT z0.1) (dF h6) (dT h4) (decide_eq_true z0.2.1) (decide_eq_true z0.2.2) (dT h3) (decide_eq_true z0.2.1) (decide_eq_true z0.2.2) (andI (dT h2) rfl))
   ·skip
    refine cond_intro (P := one_Q s at' (one_h4 s at' t6_4)) _ (fun h7 => ?_) (fun h7 => ?_)
    ·skip
     show Gets E 0 _ (one_h5 s at' (0))
     have z0 := (((hS.1 h2).1 h3).2 h4).1 h7; exact reach_q KD_ok 2000 67 (bs 8 143) [] [] [0, 1, 2, 3, 4, 5, 6, 7, 8, 9] [0, 1, 5, 6, 7] [] [] [] (and8 (dT h7) (dF z0.1) (dF h4) (decide_eq_true z0.2.1) (decide_eq_true z0.2.2) (dT h3) (decide_eq_true z0.2.1) (decide_eq_true z0.2.2) (andI (dT h2) rfl))
    ·skip
     show Gets E 0 _ (one_h5 s at' t6_4)
     have z0 := (((hS.1 h2).1 h3).2 h4).2 h7; exact reach_q KD_ok 2000 64 (bs 8 15) [] [] [0, 1, 2, 3, 4, 5, 6, 7, 8, 9] [0, 1, 5, 6, 7] [] [] [] (and8 (dF h7) (dF z0.1) (dF h4) (decide_eq_true z0.2.1) (decide_eq_true z0.2.2) (dT h3) (decide_eq_true z0.2.1) (decide_eq_true z0.2.2) (andI (dT h2) rfl))
  ·skip
   refine cond_intro (P := one_Q s at' (one_h4 s at' t6_4)) _ (fun h7 => ?_) (fun h7 => ?_)
   ·skip
    show Gets E 0 _ (one_h5 s at' (0))
    have z0 := ((hS.1 h2).2 h3).1 h7; exact reach_q KD_ok 2000 67 (bs 8 135) [] [] [0, 1, 2, 3, 4, 5, 6, 7, 8, 9] [0, 1, 5, 6, 7] [] [] [] (andI (dT h7) (andI (dF z0.1) (and4 (dF h3) (decide_eq_true z0.2.1) (decide_eq_true z0.2.2) (dT h2) rfl)))
   ·skip
    show Gets E 0 _ (one_h5 s at' t6_4)
    have z0 := ((hS.1 h2).2 h3).2 h7; exact reach_q KD_ok 2000 64 (bs 8 7) [] [] [0, 1, 2, 3, 4, 5, 6, 7, 8, 9] [0, 1, 5, 6, 7] [] [] [] (andI (dF h7) (andI (dF z0.1) (and4 (dF h3) (decide_eq_true z0.2.1) (decide_eq_true z0.2.2) (dT h2) rfl)))
 ·skip
  exact ends_q KD_ok 2000 52 (bs 7 67) [] [4] [] (andI (dT (hS.2 h2)) (andI (dF h2) rfl))
noncomputable def one_t5 (s : ByteArray) (at' t6_5 : Int) : one_R :=
 bif decide (IntKind.i64.wrap (at' + 0) < ((slen s) : Int)) then bif decide (237 ≤ chr s (IntKind.i64.wrap (at' + 0)).toNat) then bif decide (chr s (IntKind.i64.wrap (at' + 0)).toNat ≤ 237) then bif decide (IntKind.i64.wrap (at' + 1) < ((slen s) : Int)) then bif decide (128 ≤ chr s (IntKind.i64.wrap (at' + 1)).toNat) then bif decide (chr s (IntKind.i64.wrap (at' + 1)).toNat ≤ 159) then bif decide (IntKind.i64.wrap (at' + 2) < ((slen s) : Int)) then bif decide (128 ≤ chr s (IntKind.i64.wrap (at' + 2)).toNat) then bif decide (chr s (IntKind.i64.wrap (at' + 2)).toNat ≤ 191) then .inr (.inr (.inr (.inr (.inr (.inr (.inr (.inr (.inr (.inr (3))))))))))
         else bif decide (t6_5 < 2) then .inr (.inr (.inr (.inr (.inr (.inl (2))))))
          else .inr (.inr (.inr (.inr (.inr (.inl (t6_5))))))
        else bif decide (t6_5 < 2) then .inr (.inr (.inr (.inr (.inr (.inl (2))))))
         else .inr (.inr (.inr (.inr (.inr (.inl (t6_5))))))
       else .inr (.inr (.inr (.inr (.inr (.inr (.inr (.inr (.inr (.inr (0))))))))))
      else bif decide (t6_5 < 1) then .inr (.inr (.inr (.inr (.inr (.inl (1))))))
       else .inr (.inr (.inr (.inr (.inr (.inl (t6_5))))))
     else bif decide (t6_5 < 1) then .inr (.inr (.inr (.inr (.inr (.inl (1))))))
      else .inr (.inr (.inr (.inr (.inr (.inl (t6_5))))))
    else .inr (.inr (.inr (.inr (.inr (.inr (.inr (.inr (.inr (.inr (0))))))))))
   else bif decide (t6_5 < 0) then .inr (.inr (.inr (.inr (.inr (.inl (0))))))
    else .inr (.inr (.inr (.inr (.inr (.inl (t6_5))))))
  else bif decide (t6_5 < 0) then .inr (.inr (.inr (.inr (.inr (.inl (0))))))
   else .inr (.inr (.inr (.inr (.inr (.inl (t6_5))))))
 else .inr (.inr (.inr (.inr (.inr (.inr (.inr (.inr (.inr (.inr (0))))))))))
noncomputable def one_S5 (s : ByteArray) (at' t6_5 : Int) : Prop :=
 ((decide (IntKind.i64.wrap (at' + 0) < ((slen s) : Int))) = true → ((decide (237 ≤ chr s (IntKind.i64.wrap (at' + 0)).toNat)) = true → ((decide (chr s (IntKind.i64.wrap (at' + 0)).toNat ≤ 237)) = true → ((decide (IntKind.i64.wrap (at' + 1) < ((slen s) : Int))) = true → ((decide (128 ≤ chr s (IntKind.i64.wrap (at' + 1)).toNat)) = true → ((decide (chr s (IntKind.i64.wrap (at' + 1)).toNat ≤ 159)) = true → ((decide (IntKind.i64.wrap (at' + 2) < ((slen s) : Int))) = true → ((decide (128 ≤ chr s (IntKind.i64.wrap (at' + 2)).toNat)) = true → ((decide (chr s (IntKind.i64.wrap (at' + 2)).toNat ≤ 191)) = true → (0 ≤ IntKind.i64.wrap (at' + 2)) ∧ (IntKind.i64.wrap (at' + 2) < ((slen s) : Int)) ∧ (0 ≤ IntKind.i64.wrap (at' + 1)) ∧ (IntKind.i64.wrap (at' + 1) < ((slen s) : Int)) ∧ (0 ≤ IntKind.i64.wrap (at' + 0)) ∧ (IntKind.i64.wrap (at' + 0) < ((slen s) : Int))) ∧
         ((decide (chr s (IntKind.i64.wrap (at' + 2)).toNat ≤ 191)) = false → ((decide (t6_5 < 2)) = true → ((IntKind.i64.wrap (at' + 2) == ((slen s) : Int)) = false) ∧ (0 ≤ IntKind.i64.wrap (at' + 2)) ∧ (IntKind.i64.wrap (at' + 2) < ((slen s) : Int)) ∧ (0 ≤ IntKind.i64.wrap (at' + 1)) ∧ (IntKind.i64.wrap (at' + 1) < ((slen s) : Int)) ∧ (0 ≤ IntKind.i64.wrap (at' + 0)) ∧ (IntKind.i64.wrap (at' + 0) < ((slen s) : Int))) ∧
          ((decide (t6_5 < 2)) = false → ((IntKind.i64.wrap (at' + 2) == ((slen s) : Int)) = false) ∧ (0 ≤ IntKind.i64.wrap (at' + 2)) ∧ (IntKind.i64.wrap (at' + 2) < ((slen s) : Int)) ∧ (0 ≤ IntKind.i64.wrap (at' + 1)) ∧ (IntKind.i64.wrap (at' + 1) < ((slen s) : Int)) ∧ (0 ≤ IntKind.i64.wrap (at' + 0)) ∧ (IntKind.i64.wrap (at' + 0) < ((slen s) : Int))))) ∧
        ((decide (128 ≤ chr s (IntKind.i64.wrap (at' + 2)).toNat)) = false → ((decide (t6_5 < 2)) = true → ((IntKind.i64.wrap (at' + 2) == ((slen s) : Int)) = false) ∧ (0 ≤ IntKind.i64.wrap (at' + 2)) ∧ (IntKind.i64.wrap (at' + 2) < ((slen s) : Int)) ∧ (0 ≤ IntKind.i64.wrap (at' + 1)) ∧ (IntKind.i64.wrap (at' + 1) < ((slen s) : Int)) ∧ (0 ≤ IntKind.i64.wrap (at' + 0)) ∧ (IntKind.i64.wrap (at' + 0) < ((slen s) : Int))) ∧
         ((decide (t6_5 < 2)) = false → ((IntKind.i64.wrap (at' + 2) == ((slen s) : Int)) = false) ∧ (0 ≤ IntKind.i64.wrap (at' + 2)) ∧ (IntKind.i64.wrap (at' + 2) < ((slen s) : Int)) ∧ (0 ≤ IntKind.i64.wrap (at' + 1)) ∧ (IntKind.i64.wrap (at' + 1) < ((slen s) : Int)) ∧ (0 ≤ IntKind.i64.wrap (at' + 0)) ∧ (IntKind.i64.wrap (at' + 0) < ((slen s) : Int))))) ∧
       ((decide (IntKind.i64.wrap (at' + 2) < ((slen s) : Int))) = false → ((IntKind.i64.wrap (at' + 2) == ((slen s) : Int)) = true) ∧ (0 ≤ IntKind.i64.wrap (at' + 1)) ∧ (IntKind.i64.wrap (at' + 1) < ((slen s) : Int)) ∧ (0 ≤ IntKind.i64.wrap (at' + 0)) ∧ (IntKind.i64.wrap (at' + 0) < ((slen s) : Int)))) ∧
      ((decide (chr s (IntKind.i64.wrap (at' + 1)).toNat ≤ 159)) = false → ((decide (t6_5 < 1)) = true → ((IntKind.i64.wrap (at' + 1) == ((slen s) : Int)) = false) ∧ (0 ≤ IntKind.i64.wrap (at' + 1)) ∧ (IntKind.i64.wrap (at' + 1) < ((slen s) : Int)) ∧ (0 ≤ IntKind.i64.wrap (at' + 0)) ∧ (IntKind.i64.wrap (at' + 0) < ((slen s) : Int))) ∧
       ((decide (t6_5 < 1)) = false → ((IntKind.i64.wrap (at' + 1) == ((slen s) : Int)) = false) ∧ (0 ≤ IntKind.i64.wrap (at' + 1)) ∧ (IntKind.i64.wrap (at' + 1) < ((slen s) : Int)) ∧ (0 ≤ IntKind.i64.wrap (at' + 0)) ∧ (IntKind.i64.wrap (at' + 0) < ((slen s) : Int))))) ∧
     ((decide (128 ≤ chr s (IntKind.i64.wrap (at' + 1)).toNat)) = false → ((decide (t6_5 < 1)) = true → ((IntKind.i64.wrap (at' + 1) == ((slen s) : Int)) = false) ∧ (0 ≤ IntKind.i64.wrap (at' + 1)) ∧ (IntKind.i64.wrap (at' + 1) < ((slen s) : Int)) ∧ (0 ≤ IntKind.i64.wrap (at' + 0)) ∧ (IntKind.i64.wrap (at' + 0) < ((slen s) : Int))) ∧
      ((decide (t6_5 < 1)) = false → ((IntKind.i64.wrap (at' + 1) == ((slen s) : Int)) = false) ∧ (0 ≤ IntKind.i64.wrap (at' + 1)) ∧ (IntKind.i64.wrap (at' + 1) < ((slen s) : Int)) ∧ (0 ≤ IntKind.i64.wrap (at' + 0)) ∧ (IntKind.i64.wrap (at' + 0) < ((slen s) : Int))))) ∧
    ((decide (IntKind.i64.wrap (at' + 1) < ((slen s) : Int))) = false → ((IntKind.i64.wrap (at' + 1) == ((slen s) : Int)) = true) ∧ (0 ≤ IntKind.i64.wrap (at' + 0)) ∧ (IntKind.i64.wrap (at' + 0) < ((slen s) : Int)))) ∧
   ((decide (chr s (IntKind.i64.wrap (at' + 0)).toNat ≤ 237)) = false → ((decide (t6_5 < 0)) = true → ((IntKind.i64.wrap (at' + 0) == ((slen s) : Int)) = false) ∧ (0 ≤ IntKind.i64.wrap (at' + 0)) ∧ (IntKind.i64.wrap (at' + 0) < ((slen s) : Int))) ∧
    ((decide (t6_5 < 0)) = false → ((IntKind.i64.wrap (at' + 0) == ((slen s) : Int)) = false) ∧ (0 ≤ IntKind.i64.wrap (at' + 0)) ∧ (IntKind.i64.wrap (at' + 0) < ((slen s) : Int))))) ∧
  ((decide (237 ≤ chr s (IntKind.i64.wrap (at' + 0)).toNat)) = false → ((decide (t6_5 < 0)) = true → ((IntKind.i64.wrap (at' + 0) == ((slen s) : Int)) = false) ∧ (0 ≤ IntKind.i64.wrap (at' + 0)) ∧ (IntKind.i64.wrap (at' + 0) < ((slen s) : Int))) ∧
   ((decide (t6_5 < 0)) = false → ((IntKind.i64.wrap (at' + 0) == ((slen s) : Int)) = false) ∧ (0 ≤ IntKind.i64.wrap (at' + 0)) ∧ (IntKind.i64.wrap (at' + 0) < ((slen s) : Int))))) ∧
 ((decide (IntKind.i64.wrap (at' + 0) < ((slen s) : Int))) = false → (IntKind.i64.wrap (at' + 0) == ((slen s) : Int)) = true)
theorem one_ok5 (s : ByteArray) (at' t6_5 : Int) (hS : one_S5 s at' t6_5) : one_Q s at' (one_h5 s at' t6_5) (one_t5 s at' t6_5) := by
 unfold one_S5 at hS
 unfold one_t5
 refine cond_intro (P := one_Q s at' (one_h5 s at' t6_5)) _ (fun h2 => ?_) (fun h2 => ?_)
 ·skip
  refine cond_intro (P := one_Q s at' (one_h5 s at' t6_5)) _ (fun h3 => ?_) (fun h3 => ?_)
  ·skip
   refine cond_intro (P := one_Q s at' (one_h5 s at' t6_5)) _ (fun h4 => ?_) (fun h4 => ?_)
   ·skip
    refine cond_intro (P := one_Q s at' (one_h5 s at' t6_5)) _ (fun h6 => ?_) (fun h6 => ?_)
    ·skip
     refine cond_intro (P := one_Q s at' (one_h5 s at' t6_5)) _ (fun h7 => ?_) (fun h7 => ?_)
     ·skip
      refine cond_intro (P := one_Q s at' (one_h5 s at' t6_5)) _ (fun h8 => ?_) (fun h8 => ?_)
      ·skip
       refine cond_intro (P := one_Q s at' (one_h5 s at' t6_5)) _ (fun h10 => ?_) (fun h10 => ?_)
       ·skip
        refine cond_intro (P := one_Q s at' (one_h5 s at' t6_5)) _ (fun h11 => ?_) (fun h11 => ?_)
        ·skip
         refine cond_intro (P := one_Q s at' (one_h5 s at' t6_5)) _ (fun h12 => ?_) (fun h12 => ?_)
         ·skip
          have z0 := ((((((((hS.1 h2).1 h3).1 h4).1 h6).1 h7).1 h8).1 h10).1 h11).1 h12; exact ends_q KD_ok 2000 80 (bs 18 139263) [] [4] [] (and8 (dT h12) (decide_eq_true z0.1) (decide_eq_true z0.2.1) (dT h11) (decide_eq_true z0.1) (decide_eq_true z0.2.1) (dT h10) (dT h8) (and8 (decide_eq_true z0.2.2.1) (decide_eq_true z0.2.2.2.1) (dT h7) (decide_eq_true z0.2.2.1) (decide_eq_true z0.2.2.2.1) (dT h6) (dT h4) (decide_eq_true z0.2.2.2.2.1) (andI (decide_eq_true z0.2.2.2.2.2) (and4 (dT h3) (decide_eq_true z0.2.2.2.2.1) (decide_eq_true z0.2.2.2.2.2) (dT h2) rfl))))
         ·skip
          refine cond_intro (P := one_Q s at' (one_h5 s at' t6_5)) _ (fun h15 => ?_) (fun h15 => ?_)
          ·skip
           show Gets E 0 _ (one_h6 s at' (2))
           have z0 := (((((((((hS.1 h2).1 h3).1 h4).1 h6).1 h7).1 h8).1 h10).1 h11).2 h12).1 h15; exact reach_q KD_ok 2000 93 (bs 16 36863) [] [] [0, 1, 2, 3, 4, 5, 6, 7, 8, 9] [0, 1, 5, 6, 7] [] [] [] (and8 (dT h15) (dF z0.1) (dF h12) (decide_eq_true z0.2.1) (decide_eq_true z0.2.2.1) (dT h11) (decide_eq_true z0.2.1) (decide_eq_true z0.2.2.1) (and8 (dT h10) (dT h8) (decide_eq_true z0.2.2.2.1) (decide_eq_true z0.2.2.2.2.1) (dT h7) (decide_eq_true z0.2.2.2.1) (decide_eq_true z0.2.2.2.2.1) (dT h6) (andI (dT h4) (andI (decide_eq_true z0.2.2.2.2.2.1) (andI (decide_eq_true z0.2.2.2.2.2.2) (and4 (dT h3) (decide_eq_true z0.2.2.2.2.2.1) (decide_eq_true z0.2.2.2.2.2.2) (dT h2) rfl))))))
          ·skip
           show Gets E 0 _ (one_h6 s at' t6_5)
           have z0 := (((((((((hS.1 h2).1 h3).1 h4).1 h6).1 h7).1 h8).1 h10).1 h11).2 h12).2 h15; exact reach_q KD_ok 2000 90 (bs 16 4095) [] [] [0, 1, 2, 3, 4, 5, 6, 7, 8, 9] [0, 1, 5, 6, 7] [] [] [] (and8 (dF h15) (dF z0.1) (dF h12) (decide_eq_true z0.2.1) (decide_eq_true z0.2.2.1) (dT h11) (decide_eq_true z0.2.1) (decide_eq_true z0.2.2.1) (and8 (dT h10) (dT h8) (decide_eq_true z0.2.2.2.1) (decide_eq_true z0.2.2.2.2.1) (dT h7) (decide_eq_true z0.2.2.2.1) (decide_eq_true z0.2.2.2.2.1) (dT h6) (andI (dT h4) (andI (decide_eq_true z0.2.2.2.2.2.1) (andI (decide_eq_true z0.2.2.2.2.2.2) (and4 (dT h3) (decide_eq_true z0.2.2.2.2.2.1) (decide_eq_true z0.2.2.2.2.2.2) (dT h2) rfl))))))
        ·skip
         refine cond_intro (P := one_Q s at' (one_h5 s at' t6_5)) _ (fun h15 => ?_) (fun h15 => ?_)
         ·skip
          show Gets E 0 _ (one_h6 s at' (2))
          have z0 := ((((((((hS.1 h2).1 h3).1 h4).1 h6).1 h7).1 h8).1 h10).2 h11).1 h15; exact reach_q KD_ok 2000 93 (bs 16 34815) [] [] [0, 1, 2, 3, 4, 5, 6, 7, 8, 9] [0, 1, 5, 6, 7] [] [] [] (and8 (dT h15) (dF z0.1) (dF h11) (decide_eq_true z0.2.1) (decide_eq_true z0.2.2.1) (dT h10) (dT h8) (decide_eq_true z0.2.2.2.1) (and8 (decide_eq_true z0.2.2.2.2.1) (dT h7) (decide_eq_true z0.2.2.2.1) (decide_eq_true z0.2.2.2.2.1) (dT h6) (dT h4) (decide_eq_true z0.2.2.2.2.2.1) (decide_eq_true z0.2.2.2.2.2.2) (and4 (dT h3) (decide_eq_true z0.2.2.2.2.2.1) (decide_eq_true z0.2.2.2.2.2.2) (dT h2) rfl)))
         ·skip
          show Gets E 0 _ (one_h6 s at' t6_5)
          have z0 := ((((((((hS.1 h2).1 h3).1 h4).1 h6).1 h7).1 h8).1 h10).2 h11).2 h15; exact reach_q KD_ok 2000 90 (bs 16 2047) [] [] [0, 1, 2, 3, 4, 5, 6, 7, 8, 9] [0, 1, 5, 6, 7] [] [] [] (and8 (dF h15) (dF z0.1) (dF h11) (decide_eq_true z0.2.1) (decide_eq_true z0.2.2.1) (dT h10) (dT h8) (decide_eq_true z0.2.2.2.1) (and8 (decide_eq_true z0.2.2.2.2.1) (dT h7) (decide_eq_true z0.2.2.2.1) (decide_eq_true z0.2.2.2.2.1) (dT h6) (dT h4) (decide_eq_true z0.2.2.2.2.2.1) (decide_eq_true z0.2.2.2.2.2.2) (and4 (dT h3) (decide_eq_true z0.2.2.2.2.2.1) (decide_eq_true z0.2.2.2.2.2.2) (dT h2) rfl)))
       ·skip
        have z0 := ((((((hS.1 h2).1 h3).1 h4).1 h6).1 h7).1 h8).2 h10; exact ends_q KD_ok 2000 78 (bs 15 17407) [] [4] [] (and8 (dT z0.1) (dF h10) (dT h8) (decide_eq_true z0.2.1) (decide_eq_true z0.2.2.1) (dT h7) (decide_eq_true z0.2.1) (decide_eq_true z0.2.2.1) (and8 (dT h6) (dT h4) (decide_eq_true z0.2.2.2.1) (decide_eq_true z0.2.2.2.2) (dT h3) (decide_eq_true z0.2.2.2.1) (decide_eq_true z0.2.2.2.2) (dT h2) rfl))
      ·skip
       refine cond_intro (P := one_Q s at' (one_h5 s at' t6_5)) _ (fun h11 => ?_) (fun h11 => ?_)
       ·skip
        show Gets E 0 _ (one_h6 s at' (1))
        have z0 := ((((((hS.1 h2).1 h3).1 h4).1 h6).1 h7).2 h8).1 h11; exact reach_q KD_ok 2000 80 (bs 12 2303) [] [] [0, 1, 2, 3, 4, 5, 6, 7, 8, 9] [0, 1, 5, 6, 7] [] [] [] (and8 (dT h11) (dF z0.1) (dF h8) (decide_eq_true z0.2.1) (decide_eq_true z0.2.2.1) (dT h7) (decide_eq_true z0.2.1) (decide_eq_true z0.2.2.1) (and8 (dT h6) (dT h4) (decide_eq_true z0.2.2.2.1) (decide_eq_true z0.2.2.2.2) (dT h3) (decide_eq_true z0.2.2.2.1) (decide_eq_true z0.2.2.2.2) (dT h2) rfl))
       ·skip
        show Gets E 0 _ (one_h6 s at' t6_5)
        have z0 := ((((((hS.1 h2).1 h3).1 h4).1 h6).1 h7).2 h8).2 h11; exact reach_q KD_ok 2000 77 (bs 12 255) [] [] [0, 1, 2, 3, 4, 5, 6, 7, 8, 9] [0, 1, 5, 6, 7] [] [] [] (and8 (dF h11) (dF z0.1) (dF h8) (decide_eq_true z0.2.1) (decide_eq_true z0.2.2.1) (dT h7) (decide_eq_true z0.2.1) (decide_eq_true z0.2.2.1) (and8 (dT h6) (dT h4) (decide_eq_true z0.2.2.2.1) (decide_eq_true z0.2.2.2.2) (dT h3) (decide_eq_true z0.2.2.2.1) (decide_eq_true z0.2.2.2.2) (dT h2) rfl))
     ·skip
      refine cond_intro (P := one_Q s at' (one_h5 s at' t6_5)) _ (fun h11 => ?_) (fun h11 => ?_)
      ·skip
       show Gets E 0 _ (one_h6 s at' (1))
       have z0 := (((((hS.1 h2).1 h3).1 h4).1 h6).2 h7).1 h11; exact reach_q KD_ok 2000 80 (bs 12 2175) [] [] [0, 1, 2, 3, 4, 5, 6, 7, 8, 9] [0, 1, 5, 6, 7] [] [] [] (and8 (dT h11) (dF z0.1) (dF h7) (decide_eq_true z0.2.1) (decide_eq_true z0.2.2.1) (dT h6) (dT h4) (decide_eq_true z0.2.2.2.1) (andI (decide_eq_true z0.2.2.2.2) (and4 (dT h3) (decide_eq_true z0.2.2.2.1) (decide_eq_true z0.2.2.2.2) (dT h2) rfl)))
      ·skip
       show Gets E 0 _ (one_h6 s at' t6_5)
       have z0 := (((((hS.1 h2).1 h3).1 h4).1 h6).2 h7).2 h11; exact reach_q KD_ok 2000 77 (bs 12 127) [] [] [0, 1, 2, 3, 4, 5, 6, 7, 8, 9] [0, 1, 5, 6, 7] [] [] [] (and8 (dF h11) (dF z0.1) (dF h7) (decide_eq_true z0.2.1) (decide_eq_true z0.2.2.1) (dT h6) (dT h4) (decide_eq_true z0.2.2.2.1) (andI (decide_eq_true z0.2.2.2.2) (and4 (dT h3) (decide_eq_true z0.2.2.2.1) (decide_eq_true z0.2.2.2.2) (dT h2) rfl)))
    ·skip
     have z0 := (((hS.1 h2).1 h3).1 h4).2 h6; exact ends_q KD_ok 2000 65 (bs 11 1087) [] [4] [] (and8 (dT z0.1) (dF h6) (dT h4) (decide_eq_true z0.2.1) (decide_eq_true z0.2.2) (dT h3) (decide_eq_true z0.2.1) (decide_eq_true z0.2.2) (andI (dT h2) rfl))
   ·skip
    refine cond_intro (P := one_Q s at' (one_h5 s at' t6_5)) _ (fun h7 => ?_) (fun h7 => ?_)
    ·skip
     show Gets E 0 _ (one_h6 s at' (0))
     have z0 := (((hS.1 h2).1 h3).2 h4).1 h7; exact reach_q KD_ok 2000 67 (bs 8 143) [] [] [0, 1, 2, 3, 4, 5, 6, 7, 8, 9] [0, 1, 5, 6, 7] [] [] [] (and8 (dT h7) (dF z0.1) (dF h4) (decide_eq_true z0.2.1) (decide_eq_true z0.2.2) (dT h3) (decide_eq_true z0.2.1) (decide_eq_true z0.2.2) (andI (dT h2) rfl))
    ·skip
     show Gets E 0 _ (one_h6 s at' t6_5)
     have z0 := (((hS.1 h2).1 h3).2 h4).2 h7; exact reach_q KD_ok 2000 64 (bs 8 15) [] [] [0, 1, 2, 3, 4, 5, 6, 7, 8, 9] [0, 1, 5, 6, 7] [] [] [] (and8 (dF h7) (dF z0.1) (dF h4) (decide_eq_true z0.2.1) (decide_eq_true z0.2.2) (dT h3) (decide_eq_true z0.2.1) (decide_eq_true z0.2.2) (andI (dT h2) rfl))
  ·skip
   refine cond_intro (P := one_Q s at' (one_h5 s at' t6_5)) _ (fun h7 => ?_) (fun h7 => ?_)
   ·skip
    show Gets E 0 _ (one_h6 s at' (0))
    have z0 := ((hS.1 h2).2 h3).1 h7; exact reach_q KD_ok 2000 67 (bs 8 135) [] [] [0, 1, 2, 3, 4, 5, 6, 7, 8, 9] [0, 1, 5, 6, 7] [] [] [] (andI (dT h7) (andI (dF z0.1) (and4 (dF h3) (decide_eq_true z0.2.1) (decide_eq_true z0.2.2) (dT h2) rfl)))
   ·skip
    show Gets E 0 _ (one_h6 s at' t6_5)
    have z0 := ((hS.1 h2).2 h3).2 h7; exact reach_q KD_ok 2000 64 (bs 8 7) [] [] [0, 1, 2, 3, 4, 5, 6, 7, 8, 9] [0, 1, 5, 6, 7] [] [] [] (andI (dF h7) (andI (dF z0.1) (and4 (dF h3) (decide_eq_true z0.2.1) (decide_eq_true z0.2.2) (dT h2) rfl)))
 ·skip
  exact ends_q KD_ok 2000 52 (bs 7 67) [] [4] [] (andI (dT (hS.2 h2)) (andI (dF h2) rfl))
noncomputable def one_t6 (s : ByteArray) (at' t6_6 : Int) : one_R :=
 bif decide (IntKind.i64.wrap (at' + 0) < ((slen s) : Int)) then bif decide (238 ≤ chr s (IntKind.i64.wrap (at' + 0)).toNat) then bif decide (chr s (IntKind.i64.wrap (at' + 0)).toNat ≤ 239) then bif decide (IntKind.i64.wrap (at' + 1) < ((slen s) : Int)) then bif decide (128 ≤ chr s (IntKind.i64.wrap (at' + 1)).toNat) then bif decide (chr s (IntKind.i64.wrap (at' + 1)).toNat ≤ 191) then bif decide (IntKind.i64.wrap (at' + 2) < ((slen s) : Int)) then bif decide (128 ≤ chr s (IntKind.i64.wrap (at' + 2)).toNat) then bif decide (chr s (IntKind.i64.wrap (at' + 2)).toNat ≤ 191) then .inr (.inr (.inr (.inr (.inr (.inr (.inr (.inr (.inr (.inr (3))))))))))
         else bif decide (t6_6 < 2) then .inr (.inr (.inr (.inr (.inr (.inr (.inl (2)))))))
          else .inr (.inr (.inr (.inr (.inr (.inr (.inl (t6_6)))))))
        else bif decide (t6_6 < 2) then .inr (.inr (.inr (.inr (.inr (.inr (.inl (2)))))))
         else .inr (.inr (.inr (.inr (.inr (.inr (.inl (t6_6)))))))
       else .inr (.inr (.inr (.inr (.inr (.inr (.inr (.inr (.inr (.inr (0))))))))))
      else bif decide (t6_6 < 1) then .inr (.inr (.inr (.inr (.inr (.inr (.inl (1)))))))
       else .inr (.inr (.inr (.inr (.inr (.inr (.inl (t6_6)))))))
     else bif decide (t6_6 < 1) then .inr (.inr (.inr (.inr (.inr (.inr (.inl (1)))))))
      else .inr (.inr (.inr (.inr (.inr (.inr (.inl (t6_6)))))))
    else .inr (.inr (.inr (.inr (.inr (.inr (.inr (.inr (.inr (.inr (0))))))))))
   else bif decide (t6_6 < 0) then .inr (.inr (.inr (.inr (.inr (.inr (.inl (0)))))))
    else .inr (.inr (.inr (.inr (.inr (.inr (.inl (t6_6)))))))
  else bif decide (t6_6 < 0) then .inr (.inr (.inr (.inr (.inr (.inr (.inl (0)))))))
   else .inr (.inr (.inr (.inr (.inr (.inr (.inl (t6_6)))))))
 else .inr (.inr (.inr (.inr (.inr (.inr (.inr (.inr (.inr (.inr (0))))))))))
noncomputable def one_S6 (s : ByteArray) (at' t6_6 : Int) : Prop :=
 ((decide (IntKind.i64.wrap (at' + 0) < ((slen s) : Int))) = true → ((decide (238 ≤ chr s (IntKind.i64.wrap (at' + 0)).toNat)) = true → ((decide (chr s (IntKind.i64.wrap (at' + 0)).toNat ≤ 239)) = true → ((decide (IntKind.i64.wrap (at' + 1) < ((slen s) : Int))) = true → ((decide (128 ≤ chr s (IntKind.i64.wrap (at' + 1)).toNat)) = true → ((decide (chr s (IntKind.i64.wrap (at' + 1)).toNat ≤ 191)) = true → ((decide (IntKind.i64.wrap (at' + 2) < ((slen s) : Int))) = true → ((decide (128 ≤ chr s (IntKind.i64.wrap (at' + 2)).toNat)) = true → ((decide (chr s (IntKind.i64.wrap (at' + 2)).toNat ≤ 191)) = true → (0 ≤ IntKind.i64.wrap (at' + 2)) ∧ (IntKind.i64.wrap (at' + 2) < ((slen s) : Int)) ∧ (0 ≤ IntKind.i64.wrap (at' + 1)) ∧ (IntKind.i64.wrap (at' + 1) < ((slen s) : Int)) ∧ (0 ≤ IntKind.i64.wrap (at' + 0)) ∧ (IntKind.i64.wrap (at' + 0) < ((slen s) : Int))) ∧
         ((decide (chr s (IntKind.i64.wrap (at' + 2)).toNat ≤ 191)) = false → ((decide (t6_6 < 2)) = true → ((IntKind.i64.wrap (at' + 2) == ((slen s) : Int)) = false) ∧ (0 ≤ IntKind.i64.wrap (at' + 2)) ∧ (IntKind.i64.wrap (at' + 2) < ((slen s) : Int)) ∧ (0 ≤ IntKind.i64.wrap (at' + 1)) ∧ (IntKind.i64.wrap (at' + 1) < ((slen s) : Int)) ∧ (0 ≤ IntKind.i64.wrap (at' + 0)) ∧ (IntKind.i64.wrap (at' + 0) < ((slen s) : Int))) ∧
          ((decide (t6_6 < 2)) = false → ((IntKind.i64.wrap (at' + 2) == ((slen s) : Int)) = false) ∧ (0 ≤ IntKind.i64.wrap (at' + 2)) ∧ (IntKind.i64.wrap (at' + 2) < ((slen s) : Int)) ∧ (0 ≤ IntKind.i64.wrap (at' + 1)) ∧ (IntKind.i64.wrap (at' + 1) < ((slen s) : Int)) ∧ (0 ≤ IntKind.i64.wrap (at' + 0)) ∧ (IntKind.i64.wrap (at' + 0) < ((slen s) : Int))))) ∧
        ((decide (128 ≤ chr s (IntKind.i64.wrap (at' + 2)).toNat)) = false → ((decide (t6_6 < 2)) = true → ((IntKind.i64.wrap (at' + 2) == ((slen s) : Int)) = false) ∧ (0 ≤ IntKind.i64.wrap (at' + 2)) ∧ (IntKind.i64.wrap (at' + 2) < ((slen s) : Int)) ∧ (0 ≤ IntKind.i64.wrap (at' + 1)) ∧ (IntKind.i64.wrap (at' + 1) < ((slen s) : Int)) ∧ (0 ≤ IntKind.i64.wrap (at' + 0)) ∧ (IntKind.i64.wrap (at' + 0) < ((slen s) : Int))) ∧
         ((decide (t6_6 < 2)) = false → ((IntKind.i64.wrap (at' + 2) == ((slen s) : Int)) = false) ∧ (0 ≤ IntKind.i64.wrap (at' + 2)) ∧ (IntKind.i64.wrap (at' + 2) < ((slen s) : Int)) ∧ (0 ≤ IntKind.i64.wrap (at' + 1)) ∧ (IntKind.i64.wrap (at' + 1) < ((slen s) : Int)) ∧ (0 ≤ IntKind.i64.wrap (at' + 0)) ∧ (IntKind.i64.wrap (at' + 0) < ((slen s) : Int))))) ∧
       ((decide (IntKind.i64.wrap (at' + 2) < ((slen s) : Int))) = false → ((IntKind.i64.wrap (at' + 2) == ((slen s) : Int)) = true) ∧ (0 ≤ IntKind.i64.wrap (at' + 1)) ∧ (IntKind.i64.wrap (at' + 1) < ((slen s) : Int)) ∧ (0 ≤ IntKind.i64.wrap (at' + 0)) ∧ (IntKind.i64.wrap (at' + 0) < ((slen s) : Int)))) ∧
      ((decide (chr s (IntKind.i64.wrap (at' + 1)).toNat ≤ 191)) = false → ((decide (t6_6 < 1)) = true → ((IntKind.i64.wrap (at' + 1) == ((slen s) : Int)) = false) ∧ (0 ≤ IntKind.i64.wrap (at' + 1)) ∧ (IntKind.i64.wrap (at' + 1) < ((slen s) : Int)) ∧ (0 ≤ IntKind.i64.wrap (at' + 0)) ∧ (IntKind.i64.wrap (at' + 0) < ((slen s) : Int))) ∧
       ((decide (t6_6 < 1)) = false → ((IntKind.i64.wrap (at' + 1) == ((slen s) : Int)) = false) ∧ (0 ≤ IntKind.i64.wrap (at' + 1)) ∧ (IntKind.i64.wrap (at' + 1) < ((slen s) : Int)) ∧ (0 ≤ IntKind.i64.wrap (at' + 0)) ∧ (IntKind.i64.wrap (at' + 0) < ((slen s) : Int))))) ∧
     ((decide (128 ≤ chr s (IntKind.i64.wrap (at' + 1)).toNat)) = false → ((decide (t6_6 < 1)) = true → ((IntKind.i64.wrap (at' + 1) == ((slen s) : Int)) = false) ∧ (0 ≤ IntKind.i64.wrap (at' + 1)) ∧ (IntKind.i64.wrap (at' + 1) < ((slen s) : Int)) ∧ (0 ≤ IntKind.i64.wrap (at' + 0)) ∧ (IntKind.i64.wrap (at' + 0) < ((slen s) : Int))) ∧
      ((decide (t6_6 < 1)) = false → ((IntKind.i64.wrap (at' + 1) == ((slen s) : Int)) = false) ∧ (0 ≤ IntKind.i64.wrap (at' + 1)) ∧ (IntKind.i64.wrap (at' + 1) < ((slen s) : Int)) ∧ (0 ≤ IntKind.i64.wrap (at' + 0)) ∧ (IntKind.i64.wrap (at' + 0) < ((slen s) : Int))))) ∧
    ((decide (IntKind.i64.wrap (at' + 1) < ((slen s) : Int))) = false → ((IntKind.i64.wrap (at' + 1) == ((slen s) : Int)) = true) ∧ (0 ≤ IntKind.i64.wrap (at' + 0)) ∧ (IntKind.i64.wrap (at' + 0) < ((slen s) : Int)))) ∧
   ((decide (chr s (IntKind.i64.wrap (at' + 0)).toNat ≤ 239)) = false → ((decide (t6_6 < 0)) = true → ((IntKind.i64.wrap (at' + 0) == ((slen s) : Int)) = false) ∧ (0 ≤ IntKind.i64.wrap (at' + 0)) ∧ (IntKind.i64.wrap (at' + 0) < ((slen s) : Int))) ∧
    ((decide (t6_6 < 0)) = false → ((IntKind.i64.wrap (at' + 0) == ((slen s) : Int)) = false) ∧ (0 ≤ IntKind.i64.wrap (at' + 0)) ∧ (IntKind.i64.wrap (at' + 0) < ((slen s) : Int))))) ∧
  ((decide (238 ≤ chr s (IntKind.i64.wrap (at' + 0)).toNat)) = false → ((decide (t6_6 < 0)) = true → ((IntKind.i64.wrap (at' + 0) == ((slen s) : Int)) = false) ∧ (0 ≤ IntKind.i64.wrap (at' + 0)) ∧ (IntKind.i64.wrap (at' + 0) < ((slen s) : Int))) ∧
   ((decide (t6_6 < 0)) = false → ((IntKind.i64.wrap (at' + 0) == ((slen s) : Int)) = false) ∧ (0 ≤ IntKind.i64.wrap (at' + 0)) ∧ (IntKind.i64.wrap (at' + 0) < ((slen s) : Int))))) ∧
 ((decide (IntKind.i64.wrap (at' + 0) < ((slen s) : Int))) = false → (IntKind.i64.wrap (at' + 0) == ((slen s) : Int)) = true)
theorem one_ok6 (s : ByteArray) (at' t6_6 : Int) (hS : one_S6 s at' t6_6) : one_Q s at' (one_h6 s at' t6_6) (one_t6 s at' t6_6) := by
 unfold one_S6 at hS
 unfold one_t6
 refine cond_intro (P := one_Q s at' (one_h6 s at' t6_6)) _ (fun h2 => ?_) (fun h2 => ?_)
 ·skip
  refine cond_intro (P := one_Q s at' (one_h6 s at' t6_6)) _ (fun h3 => ?_) (fun h3 => ?_)
  ·skip
   refine cond_intro (P := one_Q s at' (one_h6 s at' t6_6)) _ (fun h4 => ?_) (fun h4 => ?_)
   ·skip
    refine cond_intro (P := one_Q s at' (one_h6 s at' t6_6)) _ (fun h6 => ?_) (fun h6 => ?_)
    ·skip
     refine cond_intro (P := one_Q s at' (one_h6 s at' t6_6)) _ (fun h7 => ?_) (fun h7 => ?_)
     ·skip
      refine cond_intro (P := one_Q s at' (one_h6 s at' t6_6)) _ (fun h8 => ?_) (fun h8 => ?_)
      ·skip
       refine cond_intro (P := one_Q s at' (one_h6 s at' t6_6)) _ (fun h10 => ?_) (fun h10 => ?_)
       ·skip
        refine cond_intro (P := one_Q s at' (one_h6 s at' t6_6)) _ (fun h11 => ?_) (fun h11 => ?_)
        ·skip
         refine cond_intro (P := one_Q s at' (one_h6 s at' t6_6)) _ (fun h12 => ?_) (fun h12 => ?_)
         ·skip
          have z0 := ((((((((hS.1 h2).1 h3).1 h4).1 h6).1 h7).1 h8).1 h10).1 h11).1 h12; exact ends_q KD_ok 2000 80 (bs 18 139263) [] [4] [] (and8 (dT h12) (decide_eq_true z0.1) (decide_eq_true z0.2.1) (dT h11) (decide_eq_true z0.1) (decide_eq_true z0.2.1) (dT h10) (dT h8) (and8 (decide_eq_true z0.2.2.1) (decide_eq_true z0.2.2.2.1) (dT h7) (decide_eq_true z0.2.2.1) (decide_eq_true z0.2.2.2.1) (dT h6) (dT h4) (decide_eq_true z0.2.2.2.2.1) (andI (decide_eq_true z0.2.2.2.2.2) (and4 (dT h3) (decide_eq_true z0.2.2.2.2.1) (decide_eq_true z0.2.2.2.2.2) (dT h2) rfl))))
         ·skip
          refine cond_intro (P := one_Q s at' (one_h6 s at' t6_6)) _ (fun h15 => ?_) (fun h15 => ?_)
          ·skip
           show Gets E 0 _ (one_h7 s at' (2))
           have z0 := (((((((((hS.1 h2).1 h3).1 h4).1 h6).1 h7).1 h8).1 h10).1 h11).2 h12).1 h15; exact reach_q KD_ok 2000 93 (bs 16 36863) [] [] [0, 1, 2, 3, 4, 5, 6, 7, 8, 9] [0, 1, 5, 6, 7] [] [] [] (and8 (dT h15) (dF z0.1) (dF h12) (decide_eq_true z0.2.1) (decide_eq_true z0.2.2.1) (dT h11) (decide_eq_true z0.2.1) (decide_eq_true z0.2.2.1) (and8 (dT h10) (dT h8) (decide_eq_true z0.2.2.2.1) (decide_eq_true z0.2.2.2.2.1) (dT h7) (decide_eq_true z0.2.2.2.1) (decide_eq_true z0.2.2.2.2.1) (dT h6) (andI (dT h4) (andI (decide_eq_true z0.2.2.2.2.2.1) (andI (decide_eq_true z0.2.2.2.2.2.2) (and4 (dT h3) (decide_eq_true z0.2.2.2.2.2.1) (decide_eq_true z0.2.2.2.2.2.2) (dT h2) rfl))))))
          ·skip
           show Gets E 0 _ (one_h7 s at' t6_6)
           have z0 := (((((((((hS.1 h2).1 h3).1 h4).1 h6).1 h7).1 h8).1 h10).1 h11).2 h12).2 h15; exact reach_q KD_ok 2000 90 (bs 16 4095) [] [] [0, 1, 2, 3, 4, 5, 6, 7, 8, 9] [0, 1, 5, 6, 7] [] [] [] (and8 (dF h15) (dF z0.1) (dF h12) (decide_eq_true z0.2.1) (decide_eq_true z0.2.2.1) (dT h11) (decide_eq_true z0.2.1) (decide_eq_true z0.2.2.1) (and8 (dT h10) (dT h8) (decide_eq_true z0.2.2.2.1) (decide_eq_true z0.2.2.2.2.1) (dT h7) (decide_eq_true z0.2.2.2.1) (decide_eq_true z0.2.2.2.2.1) (dT h6) (andI (dT h4) (andI (decide_eq_true z0.2.2.2.2.2.1) (andI (decide_eq_true z0.2.2.2.2.2.2) (and4 (dT h3) (decide_eq_true z0.2.2.2.2.2.1) (decide_eq_true z0.2.2.2.2.2.2) (dT h2) rfl))))))
        ·skip
         refine cond_intro (P := one_Q s at' (one_h6 s at' t6_6)) _ (fun h15 => ?_) (fun h15 => ?_)
         ·skip
          show Gets E 0 _ (one_h7 s at' (2))
          have z0 := ((((((((hS.1 h2).1 h3).1 h4).1 h6).1 h7).1 h8).1 h10).2 h11).1 h15; exact reach_q KD_ok 2000 93 (bs 16 34815) [] [] [0, 1, 2, 3, 4, 5, 6, 7, 8, 9] [0, 1, 5, 6, 7] [] [] [] (and8 (dT h15) (dF z0.1) (dF h11) (decide_eq_true z0.2.1) (decide_eq_true z0.2.2.1) (dT h10) (dT h8) (decide_eq_true z0.2.2.2.1) (and8 (decide_eq_true z0.2.2.2.2.1) (dT h7) (decide_eq_true z0.2.2.2.1) (decide_eq_true z0.2.2.2.2.1) (dT h6) (dT h4) (decide_eq_true z0.2.2.2.2.2.1) (decide_eq_true z0.2.2.2.2.2.2) (and4 (dT h3) (decide_eq_true z0.2.2.2.2.2.1) (decide_eq_true z0.2.2.2.2.2.2) (dT h2) rfl)))
         ·skip
          show Gets E 0 _ (one_h7 s at' t6_6)
          have z0 := ((((((((hS.1 h2).1 h3).1 h4).1 h6).1 h7).1 h8).1 h10).2 h11).2 h15; exact reach_q KD_ok 2000 90 (bs 16 2047) [] [] [0, 1, 2, 3, 4, 5, 6, 7, 8, 9] [0, 1, 5, 6, 7] [] [] [] (and8 (dF h15) (dF z0.1) (dF h11) (decide_eq_true z0.2.1) (decide_eq_true z0.2.2.1) (dT h10) (dT h8) (decide_eq_true z0.2.2.2.1) (and8 (decide_eq_true z0.2.2.2.2.1) (dT h7) (decide_eq_true z0.2.2.2.1) (decide_eq_true z0.2.2.2.2.1) (dT h6) (dT h4) (decide_eq_true z0.2.2.2.2.2.1) (decide_eq_true z0.2.2.2.2.2.2) (and4 (dT h3) (decide_eq_true z0.2.2.2.2.2.1) (decide_eq_true z0.2.2.2.2.2.2) (dT h2) rfl)))
       ·skip
        have z0 := ((((((hS.1 h2).1 h3).1 h4).1 h6).1 h7).1 h8).2 h10; exact ends_q KD_ok 2000 78 (bs 15 17407) [] [4] [] (and8 (dT z0.1) (dF h10) (dT h8) (decide_eq_true z0.2.1) (decide_eq_true z0.2.2.1) (dT h7) (decide_eq_true z0.2.1) (decide_eq_true z0.2.2.1) (and8 (dT h6) (dT h4) (decide_eq_true z0.2.2.2.1) (decide_eq_true z0.2.2.2.2) (dT h3) (decide_eq_true z0.2.2.2.1) (decide_eq_true z0.2.2.2.2) (dT h2) rfl))
      ·skip
       refine cond_intro (P := one_Q s at' (one_h6 s at' t6_6)) _ (fun h11 => ?_) (fun h11 => ?_)
       ·skip
        show Gets E 0 _ (one_h7 s at' (1))
        have z0 := ((((((hS.1 h2).1 h3).1 h4).1 h6).1 h7).2 h8).1 h11; exact reach_q KD_ok 2000 80 (bs 12 2303) [] [] [0, 1, 2, 3, 4, 5, 6, 7, 8, 9] [0, 1, 5, 6, 7] [] [] [] (and8 (dT h11) (dF z0.1) (dF h8) (decide_eq_true z0.2.1) (decide_eq_true z0.2.2.1) (dT h7) (decide_eq_true z0.2.1) (decide_eq_true z0.2.2.1) (and8 (dT h6) (dT h4) (decide_eq_true z0.2.2.2.1) (decide_eq_true z0.2.2.2.2) (dT h3) (decide_eq_true z0.2.2.2.1) (decide_eq_true z0.2.2.2.2) (dT h2) rfl))
       ·skip
        show Gets E 0 _ (one_h7 s at' t6_6)
        have z0 := ((((((hS.1 h2).1 h3).1 h4).1 h6).1 h7).2 h8).2 h11; exact reach_q KD_ok 2000 77 (bs 12 255) [] [] [0, 1, 2, 3, 4, 5, 6, 7, 8, 9] [0, 1, 5, 6, 7] [] [] [] (and8 (dF h11) (dF z0.1) (dF h8) (decide_eq_true z0.2.1) (decide_eq_true z0.2.2.1) (dT h7) (decide_eq_true z0.2.1) (decide_eq_true z0.2.2.1) (and8 (dT h6) (dT h4) (decide_eq_true z0.2.2.2.1) (decide_eq_true z0.2.2.2.2) (dT h3) (decide_eq_true z0.2.2.2.1) (decide_eq_true z0.2.2.2.2) (dT h2) rfl))
     ·skip
      refine cond_intro (P := one_Q s at' (one_h6 s at' t6_6)) _ (fun h11 => ?_) (fun h11 => ?_)
      ·skip
       show Gets E 0 _ (one_h7 s at' (1))
       have z0 := (((((hS.1 h2).1 h3).1 h4).1 h6).2 h7).1 h11; exact reach_q KD_ok 2000 80 (bs 12 2175) [] [] [0, 1, 2, 3, 4, 5, 6, 7, 8, 9] [0, 1, 5, 6, 7] [] [] [] (and8 (dT h11) (dF z0.1) (dF h7) (decide_eq_true z0.2.1) (decide_eq_true z0.2.2.1) (dT h6) (dT h4) (decide_eq_true z0.2.2.2.1) (andI (decide_eq_true z0.2.2.2.2) (and4 (dT h3) (decide_eq_true z0.2.2.2.1) (decide_eq_true z0.2.2.2.2) (dT h2) rfl)))
      ·skip
       show Gets E 0 _ (one_h7 s at' t6_6)
       have z0 := (((((hS.1 h2).1 h3).1 h4).1 h6).2 h7).2 h11; exact reach_q KD_ok 2000 77 (bs 12 127) [] [] [0, 1, 2, 3, 4, 5, 6, 7, 8, 9] [0, 1, 5, 6, 7] [] [] [] (and8 (dF h11) (dF z0.1) (dF h7) (decide_eq_true z0.2.1) (decide_eq_true z0.2.2.1) (dT h6) (dT h4) (decide_eq_true z0.2.2.2.1) (andI (decide_eq_true z0.2.2.2.2) (and4 (dT h3) (decide_eq_true z0.2.2.2.1) (decide_eq_true z0.2.2.2.2) (dT h2) rfl)))
    ·skip
     have z0 := (((hS.1 h2).1 h3).1 h4).2 h6; exact ends_q KD_ok 2000 65 (bs 11 1087) [] [4] [] (and8 (dT z0.1) (dF h6) (dT h4) (decide_eq_true z0.2.1) (decide_eq_true z0.2.2) (dT h3) (decide_eq_true z0.2.1) (decide_eq_true z0.2.2) (andI (dT h2) rfl))
   ·skip
    refine cond_intro (P := one_Q s at' (one_h6 s at' t6_6)) _ (fun h7 => ?_) (fun h7 => ?_)
    ·skip
     show Gets E 0 _ (one_h7 s at' (0))
     have z0 := (((hS.1 h2).1 h3).2 h4).1 h7; exact reach_q KD_ok 2000 67 (bs 8 143) [] [] [0, 1, 2, 3, 4, 5, 6, 7, 8, 9] [0, 1, 5, 6, 7] [] [] [] (and8 (dT h7) (dF z0.1) (dF h4) (decide_eq_true z0.2.1) (decide_eq_true z0.2.2) (dT h3) (decide_eq_true z0.2.1) (decide_eq_true z0.2.2) (andI (dT h2) rfl))
    ·skip
     show Gets E 0 _ (one_h7 s at' t6_6)
     have z0 := (((hS.1 h2).1 h3).2 h4).2 h7; exact reach_q KD_ok 2000 64 (bs 8 15) [] [] [0, 1, 2, 3, 4, 5, 6, 7, 8, 9] [0, 1, 5, 6, 7] [] [] [] (and8 (dF h7) (dF z0.1) (dF h4) (decide_eq_true z0.2.1) (decide_eq_true z0.2.2) (dT h3) (decide_eq_true z0.2.1) (decide_eq_true z0.2.2) (andI (dT h2) rfl))
  ·skip
   refine cond_intro (P := one_Q s at' (one_h6 s at' t6_6)) _ (fun h7 => ?_) (fun h7 => ?_)
   ·skip
    show Gets E 0 _ (one_h7 s at' (0))
    have z0 := ((hS.1 h2).2 h3).1 h7; exact reach_q KD_ok 2000 67 (bs 8 135) [] [] [0, 1, 2, 3, 4, 5, 6, 7, 8, 9] [0, 1, 5, 6, 7] [] [] [] (andI (dT h7) (andI (dF z0.1) (and4 (dF h3) (decide_eq_true z0.2.1) (decide_eq_true z0.2.2) (dT h2) rfl)))
   ·skip
    show Gets E 0 _ (one_h7 s at' t6_6)
    have z0 := ((hS.1 h2).2 h3).2 h7; exact reach_q KD_ok 2000 64 (bs 8 7) [] [] [0, 1, 2, 3, 4, 5, 6, 7, 8, 9] [0, 1, 5, 6, 7] [] [] [] (andI (dF h7) (andI (dF z0.1) (and4 (dF h3) (decide_eq_true z0.2.1) (decide_eq_true z0.2.2) (dT h2) rfl)))
 ·skip
  exact ends_q KD_ok 2000 52 (bs 7 67) [] [4] [] (andI (dT (hS.2 h2)) (andI (dF h2) rfl))
noncomputable def one_t7 (s : ByteArray) (at' t6_7 : Int) : one_R :=
 bif decide (IntKind.i64.wrap (at' + 0) < ((slen s) : Int)) then bif decide (240 ≤ chr s (IntKind.i64.wrap (at' + 0)).toNat) then bif decide (chr s (IntKind.i64.wrap (at' + 0)).toNat ≤ 240) then bif decide (IntKind.i64.wrap (at' + 1) < ((slen s) : Int)) then bif decide (144 ≤ chr s (IntKind.i64.wrap (at' + 1)).toNat) then bif decide (chr s (IntKind.i64.wrap (at' + 1)).toNat ≤ 191) then bif decide (IntKind.i64.wrap (at' + 2) < ((slen s) : Int)) then bif decide (128 ≤ chr s (IntKind.i64.wrap (at' + 2)).toNat) then bif decide (chr s (IntKind.i64.wrap (at' + 2)).toNat ≤ 191) then bif decide (IntKind.i64.wrap (at' + 3) < ((slen s) : Int)) then bif decide (128 ≤ chr s (IntKind.i64.wrap (at' + 3)).toNat) then bif decide (chr s (IntKind.i64.wrap (at' + 3)).toNat ≤ 191) then .inr (.inr (.inr (.inr (.inr (.inr (.inr (.inr (.inr (.inr (4))))))))))
            else bif decide (t6_7 < 3) then .inr (.inr (.inr (.inr (.inr (.inr (.inr (.inl (3))))))))
             else .inr (.inr (.inr (.inr (.inr (.inr (.inr (.inl (t6_7))))))))
           else bif decide (t6_7 < 3) then .inr (.inr (.inr (.inr (.inr (.inr (.inr (.inl (3))))))))
            else .inr (.inr (.inr (.inr (.inr (.inr (.inr (.inl (t6_7))))))))
          else .inr (.inr (.inr (.inr (.inr (.inr (.inr (.inr (.inr (.inr (0))))))))))
         else bif decide (t6_7 < 2) then .inr (.inr (.inr (.inr (.inr (.inr (.inr (.inl (2))))))))
          else .inr (.inr (.inr (.inr (.inr (.inr (.inr (.inl (t6_7))))))))
        else bif decide (t6_7 < 2) then .inr (.inr (.inr (.inr (.inr (.inr (.inr (.inl (2))))))))
         else .inr (.inr (.inr (.inr (.inr (.inr (.inr (.inl (t6_7))))))))
       else .inr (.inr (.inr (.inr (.inr (.inr (.inr (.inr (.inr (.inr (0))))))))))
      else bif decide (t6_7 < 1) then .inr (.inr (.inr (.inr (.inr (.inr (.inr (.inl (1))))))))
       else .inr (.inr (.inr (.inr (.inr (.inr (.inr (.inl (t6_7))))))))
     else bif decide (t6_7 < 1) then .inr (.inr (.inr (.inr (.inr (.inr (.inr (.inl (1))))))))
      else .inr (.inr (.inr (.inr (.inr (.inr (.inr (.inl (t6_7))))))))
    else .inr (.inr (.inr (.inr (.inr (.inr (.inr (.inr (.inr (.inr (0))))))))))
   else bif decide (t6_7 < 0) then .inr (.inr (.inr (.inr (.inr (.inr (.inr (.inl (0))))))))
    else .inr (.inr (.inr (.inr (.inr (.inr (.inr (.inl (t6_7))))))))
  else bif decide (t6_7 < 0) then .inr (.inr (.inr (.inr (.inr (.inr (.inr (.inl (0))))))))
   else .inr (.inr (.inr (.inr (.inr (.inr (.inr (.inl (t6_7))))))))
 else .inr (.inr (.inr (.inr (.inr (.inr (.inr (.inr (.inr (.inr (0))))))))))
noncomputable def one_S7 (s : ByteArray) (at' t6_7 : Int) : Prop :=
 ((decide (IntKind.i64.wrap (at' + 0) < ((slen s) : Int))) = true → ((decide (240 ≤ chr s (IntKind.i64.wrap (at' + 0)).toNat)) = true → ((decide (chr s (IntKind.i64.wrap (at' + 0)).toNat ≤ 240)) = true → ((decide (IntKind.i64.wrap (at' + 1) < ((slen s) : Int))) = true → ((decide (144 ≤ chr s (IntKind.i64.wrap (at' + 1)).toNat)) = true → ((decide (chr s (IntKind.i64.wrap (at' + 1)).toNat ≤ 191)) = true → ((decide (IntKind.i64.wrap (at' + 2) < ((slen s) : Int))) = true → ((decide (128 ≤ chr s (IntKind.i64.wrap (at' + 2)).toNat)) = true → ((decide (chr s (IntKind.i64.wrap (at' + 2)).toNat ≤ 191)) = true → ((decide (IntKind.i64.wrap (at' + 3) < ((slen s) : Int))) = true → ((decide (128 ≤ chr s (IntKind.i64.wrap (at' + 3)).toNat)) = true → ((decide (chr s (IntKind.i64.wrap (at' + 3)).toNat ≤ 191)) = true → (0 ≤ IntKind.i64.wrap (at' + 3)) ∧ (IntKind.i64.wrap (at' + 3) < ((slen s) : Int)) ∧ (0 ≤ IntKind.i64.wrap (at' + 2)) ∧ (IntKind.i64.wrap (at' + 2) < ((slen s) : Int)) ∧ (0 ≤ IntKind.i64.wrap (at' + 1)) ∧ (IntKind.i64.wrap (at' + 1) < ((slen s) : Int)) ∧ (0 ≤ IntKind.i64.wrap (at' + 0)) ∧ (IntKind.i64.wrap (at' + 0) < ((slen s) : Int))) ∧
            ((decide (chr s (IntKind.i64.wrap (at' + 3)).toNat ≤ 191)) = false → ((decide (t6_7 < 3)) = true → ((IntKind.i64.wrap (at' + 3) == ((slen s) : Int)) = false) ∧ (0 ≤ IntKind.i64.wrap (at' + 3)) ∧ (IntKind.i64.wrap (at' + 3) < ((slen s) : Int)) ∧ (0 ≤ IntKind.i64.wrap (at' + 2)) ∧ (IntKind.i64.wrap (at' + 2) < ((slen s) : Int)) ∧ (0 ≤ IntKind.i64.wrap (at' + 1)) ∧ (IntKind.i64.wrap (at' + 1) < ((slen s) : Int)) ∧ (0 ≤ IntKind.i64.wrap (at' + 0)) ∧ (IntKind.i64.wrap (at' + 0) < ((slen s) : Int))) ∧
             ((decide (t6_7 < 3)) = false → ((IntKind.i64.wrap (at' + 3) == ((slen s) : Int)) = false) ∧ (0 ≤ IntKind.i64.wrap (at' + 3)) ∧ (IntKind.i64.wrap (at' + 3) < ((slen s) : Int)) ∧ (0 ≤ IntKind.i64.wrap (at' + 2)) ∧ (IntKind.i64.wrap (at' + 2) < ((slen s) : Int)) ∧ (0 ≤ IntKind.i64.wrap (at' + 1)) ∧ (IntKind.i64.wrap (at' + 1) < ((slen s) : Int)) ∧ (0 ≤ IntKind.i64.wrap (at' + 0)) ∧ (IntKind.i64.wrap (at' + 0) < ((slen s) : Int))))) ∧
           ((decide (128 ≤ chr s (IntKind.i64.wrap (at' + 3)).toNat)) = false → ((decide (t6_7 < 3)) = true → ((IntKind.i64.wrap (at' + 3) == ((slen s) : Int)) = false) ∧ (0 ≤ IntKind.i64.wrap (at' + 3)) ∧ (IntKind.i64.wrap (at' + 3) < ((slen s) : Int)) ∧ (0 ≤ IntKind.i64.wrap (at' + 2)) ∧ (IntKind.i64.wrap (at' + 2) < ((slen s) : Int)) ∧ (0 ≤ IntKind.i64.wrap (at' + 1)) ∧ (IntKind.i64.wrap (at' + 1) < ((slen s) : Int)) ∧ (0 ≤ IntKind.i64.wrap (at' + 0)) ∧ (IntKind.i64.wrap (at' + 0) < ((slen s) : Int))) ∧
            ((decide (t6_7 < 3)) = false → ((IntKind.i64.wrap (at' + 3) == ((slen s) : Int)) = false) ∧ (0 ≤ IntKind.i64.wrap (at' + 3)) ∧ (IntKind.i64.wrap (at' + 3) < ((slen s) : Int)) ∧ (0 ≤ IntKind.i64.wrap (at' + 2)) ∧ (IntKind.i64.wrap (at' + 2) < ((slen s) : Int)) ∧ (0 ≤ IntKind.i64.wrap (at' + 1)) ∧ (IntKind.i64.wrap (at' + 1) < ((slen s) : Int)) ∧ (0 ≤ IntKind.i64.wrap (at' + 0)) ∧ (IntKind.i64.wrap (at' + 0) < ((slen s) : Int))))) ∧
          ((decide (IntKind.i64.wrap (at' + 3) < ((slen s) : Int))) = false → ((IntKind.i64.wrap (at' + 3) == ((slen s) : Int)) = true) ∧ (0 ≤ IntKind.i64.wrap (at' + 2)) ∧ (IntKind.i64.wrap (at' + 2) < ((slen s) : Int)) ∧ (0 ≤ IntKind.i64.wrap (at' + 1)) ∧ (IntKind.i64.wrap (at' + 1) < ((slen s) : Int)) ∧ (0 ≤ IntKind.i64.wrap (at' + 0)) ∧ (IntKind.i64.wrap (at' + 0) < ((slen s) : Int)))) ∧
         ((decide (chr s (IntKind.i64.wrap (at' + 2)).toNat ≤ 191)) = false → ((decide (t6_7 < 2)) = true → ((IntKind.i64.wrap (at' + 2) == ((slen s) : Int)) = false) ∧ (0 ≤ IntKind.i64.wrap (at' + 2)) ∧ (IntKind.i64.wrap (at' + 2) < ((slen s) : Int)) ∧ (0 ≤ IntKind.i64.wrap (at' + 1)) ∧ (IntKind.i64.wrap (at' + 1) < ((slen s) : Int)) ∧ (0 ≤ IntKind.i64.wrap (at' + 0)) ∧ (IntKind.i64.wrap (at' + 0) < ((slen s) : Int))) ∧
          ((decide (t6_7 < 2)) = false → ((IntKind.i64.wrap (at' + 2) == ((slen s) : Int)) = false) ∧ (0 ≤ IntKind.i64.wrap (at' + 2)) ∧ (IntKind.i64.wrap (at' + 2) < ((slen s) : Int)) ∧ (0 ≤ IntKind.i64.wrap (at' + 1)) ∧ (IntKind.i64.wrap (at' + 1) < ((slen s) : Int)) ∧ (0 ≤ IntKind.i64.wrap (at' + 0)) ∧ (IntKind.i64.wrap (at' + 0) < ((slen s) : Int))))) ∧
        ((decide (128 ≤ chr s (IntKind.i64.wrap (at' + 2)).toNat)) = false → ((decide (t6_7 < 2)) = true → ((IntKind.i64.wrap (at' + 2) == ((slen s) : Int)) = false) ∧ (0 ≤ IntKind.i64.wrap (at' + 2)) ∧ (IntKind.i64.wrap (at' + 2) < ((slen s) : Int)) ∧ (0 ≤ IntKind.i64.wrap (at' + 1)) ∧ (IntKind.i64.wrap (at' + 1) < ((slen s) : Int)) ∧ (0 ≤ IntKind.i64.wrap (at' + 0)) ∧ (IntKind.i64.wrap (at' + 0) < ((slen s) : Int))) ∧
         ((decide (t6_7 < 2)) = false → ((IntKind.i64.wrap (at' + 2) == ((slen s) : Int)) = false) ∧ (0 ≤ IntKind.i64.wrap (at' + 2)) ∧ (IntKind.i64.wrap (at' + 2) < ((slen s) : Int)) ∧ (0 ≤ IntKind.i64.wrap (at' + 1)) ∧ (IntKind.i64.wrap (at' + 1) < ((slen s) : Int)) ∧ (0 ≤ IntKind.i64.wrap (at' + 0)) ∧ (IntKind.i64.wrap (at' + 0) < ((slen s) : Int))))) ∧
       ((decide (IntKind.i64.wrap (at' + 2) < ((slen s) : Int))) = false → ((IntKind.i64.wrap (at' + 2) == ((slen s) : Int)) = true) ∧ (0 ≤ IntKind.i64.wrap (at' + 1)) ∧ (IntKind.i64.wrap (at' + 1) < ((slen s) : Int)) ∧ (0 ≤ IntKind.i64.wrap (at' + 0)) ∧ (IntKind.i64.wrap (at' + 0) < ((slen s) : Int)))) ∧
      ((decide (chr s (IntKind.i64.wrap (at' + 1)).toNat ≤ 191)) = false → ((decide (t6_7 < 1)) = true → ((IntKind.i64.wrap (at' + 1) == ((slen s) : Int)) = false) ∧ (0 ≤ IntKind.i64.wrap (at' + 1)) ∧ (IntKind.i64.wrap (at' + 1) < ((slen s) : Int)) ∧ (0 ≤ IntKind.i64.wrap (at' + 0)) ∧ (IntKind.i64.wrap (at' + 0) < ((slen s) : Int))) ∧
       ((decide (t6_7 < 1)) = false → ((IntKind.i64.wrap (at' + 1) == ((slen s) : Int)) = false) ∧ (0 ≤ IntKind.i64.wrap (at' + 1)) ∧ (IntKind.i64.wrap (at' + 1) < ((slen s) : Int)) ∧ (0 ≤ IntKind.i64.wrap (at' + 0)) ∧ (IntKind.i64.wrap (at' + 0) < ((slen s) : Int))))) ∧
     ((decide (144 ≤ chr s (IntKind.i64.wrap (at' + 1)).toNat)) = false → ((decide (t6_7 < 1)) = true → ((IntKind.i64.wrap (at' + 1) == ((slen s) : Int)) = false) ∧ (0 ≤ IntKind.i64.wrap (at' + 1)) ∧ (IntKind.i64.wrap (at' + 1) < ((slen s) : Int)) ∧ (0 ≤ IntKind.i64.wrap (at' + 0)) ∧ (IntKind.i64.wrap (at' + 0) < ((slen s) : Int))) ∧
      ((decide (t6_7 < 1)) = false → ((IntKind.i64.wrap (at' + 1) == ((slen s) : Int)) = false) ∧ (0 ≤ IntKind.i64.wrap (at' + 1)) ∧ (IntKind.i64.wrap (at' + 1) < ((slen s) : Int)) ∧ (0 ≤ IntKind.i64.wrap (at' + 0)) ∧ (IntKind.i64.wrap (at' + 0) < ((slen s) : Int))))) ∧
    ((decide (IntKind.i64.wrap (at' + 1) < ((slen s) : Int))) = false → ((IntKind.i64.wrap (at' + 1) == ((slen s) : Int)) = true) ∧ (0 ≤ IntKind.i64.wrap (at' + 0)) ∧ (IntKind.i64.wrap (at' + 0) < ((slen s) : Int)))) ∧
   ((decide (chr s (IntKind.i64.wrap (at' + 0)).toNat ≤ 240)) = false → ((decide (t6_7 < 0)) = true → ((IntKind.i64.wrap (at' + 0) == ((slen s) : Int)) = false) ∧ (0 ≤ IntKind.i64.wrap (at' + 0)) ∧ (IntKind.i64.wrap (at' + 0) < ((slen s) : Int))) ∧
    ((decide (t6_7 < 0)) = false → ((IntKind.i64.wrap (at' + 0) == ((slen s) : Int)) = false) ∧ (0 ≤ IntKind.i64.wrap (at' + 0)) ∧ (IntKind.i64.wrap (at' + 0) < ((slen s) : Int))))) ∧
  ((decide (240 ≤ chr s (IntKind.i64.wrap (at' + 0)).toNat)) = false → ((decide (t6_7 < 0)) = true → ((IntKind.i64.wrap (at' + 0) == ((slen s) : Int)) = false) ∧ (0 ≤ IntKind.i64.wrap (at' + 0)) ∧ (IntKind.i64.wrap (at' + 0) < ((slen s) : Int))) ∧
   ((decide (t6_7 < 0)) = false → ((IntKind.i64.wrap (at' + 0) == ((slen s) : Int)) = false) ∧ (0 ≤ IntKind.i64.wrap (at' + 0)) ∧ (IntKind.i64.wrap (at' + 0) < ((slen s) : Int))))) ∧
 ((decide (IntKind.i64.wrap (at' + 0) < ((slen s) : Int))) = false → (IntKind.i64.wrap (at' + 0) == ((slen s) : Int)) = true)
theorem one_ok7 (s : ByteArray) (at' t6_7 : Int) (hS : one_S7 s at' t6_7) : one_Q s at' (one_h7 s at' t6_7) (one_t7 s at' t6_7) := by
 unfold one_S7 at hS
 unfold one_t7
 refine cond_intro (P := one_Q s at' (one_h7 s at' t6_7)) _ (fun h2 => ?_) (fun h2 => ?_)
 ·skip
  refine cond_intro (P := one_Q s at' (one_h7 s at' t6_7)) _ (fun h3 => ?_) (fun h3 => ?_)
  ·skip
   refine cond_intro (P := one_Q s at' (one_h7 s at' t6_7)) _ (fun h4 => ?_) (fun h4 => ?_)
   ·skip
    refine cond_intro (P := one_Q s at' (one_h7 s at' t6_7)) _ (fun h6 => ?_) (fun h6 => ?_)
    ·skip
     refine cond_intro (P := one_Q s at' (one_h7 s at' t6_7)) _ (fun h7 => ?_) (fun h7 => ?_)
     ·skip
      refine cond_intro (P := one_Q s at' (one_h7 s at' t6_7)) _ (fun h8 => ?_) (fun h8 => ?_)
      ·skip
       refine cond_intro (P := one_Q s at' (one_h7 s at' t6_7)) _ (fun h10 => ?_) (fun h10 => ?_)
       ·skip
        refine cond_intro (P := one_Q s at' (one_h7 s at' t6_7)) _ (fun h11 => ?_) (fun h11 => ?_)
        ·skip
         refine cond_intro (P := one_Q s at' (one_h7 s at' t6_7)) _ (fun h12 => ?_) (fun h12 => ?_)
         ·skip
          refine cond_intro (P := one_Q s at' (one_h7 s at' t6_7)) _ (fun h14 => ?_) (fun h14 => ?_)
          ·skip
           refine cond_intro (P := one_Q s at' (one_h7 s at' t6_7)) _ (fun h15 => ?_) (fun h15 => ?_)
           ·skip
            refine cond_intro (P := one_Q s at' (one_h7 s at' t6_7)) _ (fun h16 => ?_) (fun h16 => ?_)
            ·skip
             have z0 := (((((((((((hS.1 h2).1 h3).1 h4).1 h6).1 h7).1 h8).1 h10).1 h11).1 h12).1 h14).1 h15).1 h16; exact ends_q KD_ok 2000 93 (bs 22 2228223) [] [4] [] (and8 (dT h16) (decide_eq_true z0.1) (decide_eq_true z0.2.1) (dT h15) (decide_eq_true z0.1) (decide_eq_true z0.2.1) (dT h14) (dT h12) (and8 (decide_eq_true z0.2.2.1) (decide_eq_true z0.2.2.2.1) (dT h11) (decide_eq_true z0.2.2.1) (decide_eq_true z0.2.2.2.1) (dT h10) (dT h8) (decide_eq_true z0.2.2.2.2.1) (and8 (decide_eq_true z0.2.2.2.2.2.1) (dT h7) (decide_eq_true z0.2.2.2.2.1) (decide_eq_true z0.2.2.2.2.2.1) (dT h6) (dT h4) (decide_eq_true z0.2.2.2.2.2.2.1) (decide_eq_true z0.2.2.2.2.2.2.2) (and4 (dT h3) (decide_eq_true z0.2.2.2.2.2.2.1) (decide_eq_true z0.2.2.2.2.2.2.2) (dT h2) rfl))))
            ·skip
             refine cond_intro (P := one_Q s at' (one_h7 s at' t6_7)) _ (fun h19 => ?_) (fun h19 => ?_)
             ·skip
              show Gets E 0 _ (one_h8 s at' (3))
              have z0 := ((((((((((((hS.1 h2).1 h3).1 h4).1 h6).1 h7).1 h8).1 h10).1 h11).1 h12).1 h14).1 h15).2 h16).1 h19; exact reach_q KD_ok 2000 106 (bs 20 589823) [] [] [0, 1, 2, 3, 4, 5, 6, 7, 8, 9] [0, 1, 5, 6, 7] [] [] [] (and8 (dT h19) (dF z0.1) (dF h16) (decide_eq_true z0.2.1) (decide_eq_true z0.2.2.1) (dT h15) (decide_eq_true z0.2.1) (decide_eq_true z0.2.2.1) (and8 (dT h14) (dT h12) (decide_eq_true z0.2.2.2.1) (decide_eq_true z0.2.2.2.2.1) (dT h11) (decide_eq_true z0.2.2.2.1) (decide_eq_true z0.2.2.2.2.1) (dT h10) (and8 (dT h8) (decide_eq_true z0.2.2.2.2.2.1) (decide_eq_true z0.2.2.2.2.2.2.1) (dT h7) (decide_eq_true z0.2.2.2.2.2.1) (decide_eq_true z0.2.2.2.2.2.2.1) (dT h6) (dT h4) (andI (decide_eq_true z0.2.2.2.2.2.2.2.1) (andI (decide_eq_true z0.2.2.2.2.2.2.2.2) (and4 (dT h3) (decide_eq_true z0.2.2.2.2.2.2.2.1) (decide_eq_true z0.2.2.2.2.2.2.2.2) (dT h2) rfl))))))
             ·skip
              show Gets E 0 _ (one_h8 s at' t6_7)
              have z0 := ((((((((((((hS.1 h2).1 h3).1 h4).1 h6).1 h7).1 h8).1 h10).1 h11).1 h12).1 h14).1 h15).2 h16).2 h19; exact reach_q KD_ok 2000 103 (bs 20 65535) [] [] [0, 1, 2, 3, 4, 5, 6, 7, 8, 9] [0, 1, 5, 6, 7] [] [] [] (and8 (dF h19) (dF z0.1) (dF h16) (decide_eq_true z0.2.1) (decide_eq_true z0.2.2.1) (dT h15) (decide_eq_true z0.2.1) (decide_eq_true z0.2.2.1) (and8 (dT h14) (dT h12) (decide_eq_true z0.2.2.2.1) (decide_eq_true z0.2.2.2.2.1) (dT h11) (decide_eq_true z0.2.2.2.1) (decide_eq_true z0.2.2.2.2.1) (dT h10) (and8 (dT h8) (decide_eq_true z0.2.2.2.2.2.1) (decide_eq_true z0.2.2.2.2.2.2.1) (dT h7) (decide_eq_true z0.2.2.2.2.2.1) (decide_eq_true z0.2.2.2.2.2.2.1) (dT h6) (dT h4) (andI (decide_eq_true z0.2.2.2.2.2.2.2.1) (andI (decide_eq_true z0.2.2.2.2.2.2.2.2) (and4 (dT h3) (decide_eq_true z0.2.2.2.2.2.2.2.1) (decide_eq_true z0.2.2.2.2.2.2.2.2) (dT h2) rfl))))))
           ·skip
            refine cond_intro (P := one_Q s at' (one_h7 s at' t6_7)) _ (fun h19 => ?_) (fun h19 => ?_)
            ·skip
             show Gets E 0 _ (one_h8 s at' (3))
             have z0 := (((((((((((hS.1 h2).1 h3).1 h4).1 h6).1 h7).1 h8).1 h10).1 h11).1 h12).1 h14).2 h15).1 h19; exact reach_q KD_ok 2000 106 (bs 20 557055) [] [] [0, 1, 2, 3, 4, 5, 6, 7, 8, 9] [0, 1, 5, 6, 7] [] [] [] (and8 (dT h19) (dF z0.1) (dF h15) (decide_eq_true z0.2.1) (decide_eq_true z0.2.2.1) (dT h14) (dT h12) (decide_eq_true z0.2.2.2.1) (and8 (decide_eq_true z0.2.2.2.2.1) (dT h11) (decide_eq_true z0.2.2.2.1) (decide_eq_true z0.2.2.2.2.1) (dT h10) (dT h8) (decide_eq_true z0.2.2.2.2.2.1) (decide_eq_true z0.2.2.2.2.2.2.1) (and8 (dT h7) (decide_eq_true z0.2.2.2.2.2.1) (decide_eq_true z0.2.2.2.2.2.2.1) (dT h6) (dT h4) (decide_eq_true z0.2.2.2.2.2.2.2.1) (decide_eq_true z0.2.2.2.2.2.2.2.2) (dT h3) (andI (decide_eq_true z0.2.2.2.2.2.2.2.1) (andI (decide_eq_true z0.2.2.2.2.2.2.2.2) (andI (dT h2) rfl))))))
            ·skip
             show Gets E 0 _ (one_h8 s at' t6_7)
             have z0 := (((((((((((hS.1 h2).1 h3).1 h4).1 h6).1 h7).1 h8).1 h10).1 h11).1 h12).1 h14).2 h15).2 h19; exact reach_q KD_ok 2000 103 (bs 20 32767) [] [] [0, 1, 2, 3, 4, 5, 6, 7, 8, 9] [0, 1, 5, 6, 7] [] [] [] (and8 (dF h19) (dF z0.1) (dF h15) (decide_eq_true z0.2.1) (decide_eq_true z0.2.2.1) (dT h14) (dT h12) (decide_eq_true z0.2.2.2.1) (and8 (decide_eq_true z0.2.2.2.2.1) (dT h11) (decide_eq_true z0.2.2.2.1) (decide_eq_true z0.2.2.2.2.1) (dT h10) (dT h8) (decide_eq_true z0.2.2.2.2.2.1) (decide_eq_true z0.2.2.2.2.2.2.1) (and8 (dT h7) (decide_eq_true z0.2.2.2.2.2.1) (decide_eq_true z0.2.2.2.2.2.2.1) (dT h6) (dT h4) (decide_eq_true z0.2.2.2.2.2.2.2.1) (decide_eq_true z0.2.2.2.2.2.2.2.2) (dT h3) (andI (decide_eq_true z0.2.2.2.2.2.2.2.1) (andI (decide_eq_true z0.2.2.2.2.2.2.2.2) (andI (dT h2) rfl))))))
          ·skip
           have z0 := (((((((((hS.1 h2).1 h3).1 h4).1 h6).1 h7).1 h8).1 h10).1 h11).1 h12).2 h14; exact ends_q KD_ok 2000 91 (bs 19 278527) [] [4] [] (and8 (dT z0.1) (dF h14) (dT h12) (decide_eq_true z0.2.1) (decide_eq_true z0.2.2.1) (dT h11) (decide_eq_true z0.2.1) (decide_eq_true z0.2.2.1) (and8 (dT h10) (dT h8) (decide_eq_true z0.2.2.2.1) (decide_eq_true z0.2.2.2.2.1) (dT h7) (decide_eq_true z0.2.2.2.1) (decide_eq_true z0.2.2.2.2.1) (dT h6) (andI (dT h4) (andI (decide_eq_true z0.2.2.2.2.2.1) (andI (decide_eq_true z0.2.2.2.2.2.2) (and4 (dT h3) (decide_eq_true z0.2.2.2.2.2.1) (decide_eq_true z0.2.2.2.2.2.2) (dT h2) rfl))))))
         ·skip
          refine cond_intro (P := one_Q s at' (one_h7 s at' t6_7)) _ (fun h15 => ?_) (fun h15 => ?_)
          ·skip
           show Gets E 0 _ (one_h8 s at' (2))
           have z0 := (((((((((hS.1 h2).1 h3).1 h4).1 h6).1 h7).1 h8).1 h10).1 h11).2 h12).1 h15; exact reach_q KD_ok 2000 93 (bs 16 36863) [] [] [0, 1, 2, 3, 4, 5, 6, 7, 8, 9] [0, 1, 5, 6, 7] [] [] [] (and8 (dT h15) (dF z0.1) (dF h12) (decide_eq_true z0.2.1) (decide_eq_true z0.2.2.1) (dT h11) (decide_eq_true z0.2.1) (decide_eq_true z0.2.2.1) (and8 (dT h10) (dT h8) (decide_eq_true z0.2.2.2.1) (decide_eq_true z0.2.2.2.2.1) (dT h7) (decide_eq_true z0.2.2.2.1) (decide_eq_true z0.2.2.2.2.1) (dT h6) (andI (dT h4) (andI (decide_eq_true z0.2.2.2.2.2.1) (andI (decide_eq_true z0.2.2.2.2.2.2) (and4 (dT h3) (decide_eq_true z0.2.2.2.2.2.1) (decide_eq_true z0.2.2.2.2.2.2) (dT h2) rfl))))))
          ·skip
           show Gets E 0 _ (one_h8 s at' t6_7)
           have z0 := (((((((((hS.1 h2).1 h3).1 h4).1 h6).1 h7).1 h8).1 h10).1 h11).2 h12).2 h15; exact reach_q KD_ok 2000 90 (bs 16 4095) [] [] [0, 1, 2, 3, 4, 5, 6, 7, 8, 9] [0, 1, 5, 6, 7] [] [] [] (and8 (dF h15) (dF z0.1) (dF h12) (decide_eq_true z0.2.1) (decide_eq_true z0.2.2.1) (dT h11) (decide_eq_true z0.2.1) (decide_eq_true z0.2.2.1) (and8 (dT h10) (dT h8) (decide_eq_true z0.2.2.2.1) (decide_eq_true z0.2.2.2.2.1) (dT h7) (decide_eq_true z0.2.2.2.1) (decide_eq_true z0.2.2.2.2.1) (dT h6) (andI (dT h4) (andI (decide_eq_true z0.2.2.2.2.2.1) (andI (decide_eq_true z0.2.2.2.2.2.2) (and4 (dT h3) (decide_eq_true z0.2.2.2.2.2.1) (decide_eq_true z0.2.2.2.2.2.2) (dT h2) rfl))))))
        ·skip
         refine cond_intro (P := one_Q s at' (one_h7 s at' t6_7)) _ (fun h15 => ?_) (fun h15 => ?_)
         ·skip
          show Gets E 0 _ (one_h8 s at' (2))
          have z0 := ((((((((hS.1 h2).1 h3).1 h4).1 h6).1 h7).1 h8).1 h10).2 h11).1 h15; exact reach_q KD_ok 2000 93 (bs 16 34815) [] [] [0, 1, 2, 3, 4, 5, 6, 7, 8, 9] [0, 1, 5, 6, 7] [] [] [] (and8 (dT h15) (dF z0.1) (dF h11) (decide_eq_true z0.2.1) (decide_eq_true z0.2.2.1) (dT h10) (dT h8) (decide_eq_true z0.2.2.2.1) (and8 (decide_eq_true z0.2.2.2.2.1) (dT h7) (decide_eq_true z0.2.2.2.1) (decide_eq_true z0.2.2.2.2.1) (dT h6) (dT h4) (decide_eq_true z0.2.2.2.2.2.1) (decide_eq_true z0.2.2.2.2.2.2) (and4 (dT h3) (decide_eq_true z0.2.2.2.2.2.1) (decide_eq_true z0.2.2.2.2.2.2) (dT h2) rfl)))
         ·skip
          show Gets E 0 _ (one_h8 s at' t6_7)
          have z0 := ((((((((hS.1 h2).1 h3).1 h4).1 h6).1 h7).1 h8).1 h10).2 h11).2 h15; exact reach_q KD_ok 2000 90 (bs 16 2047) [] [] [0, 1, 2, 3, 4, 5, 6, 7, 8, 9] [0, 1, 5, 6, 7] [] [] [] (and8 (dF h15) (dF z0.1) (dF h11) (decide_eq_true z0.2.1) (decide_eq_true z0.2.2.1) (dT h10) (dT h8) (decide_eq_true z0.2.2.2.1) (and8 (decide_eq_true z0.2.2.2.2.1) (dT h7) (decide_eq_true z0.2.2.2.1) (decide_eq_true z0.2.2.2.2.1) (dT h6) (dT h4) (decide_eq_true z0.2.2.2.2.2.1) (decide_eq_true z0.2.2.2.2.2.2) (and4 (dT h3) (decide_eq_true z0.2.2.2.2.2.1) (decide_eq_true z0.2.2.2.2.2.2) (dT h2) rfl)))
       ·skip
        have z0 := ((((((hS.1 h2).1 h3).1 h4).1 h6).1 h7).1 h8).2 h10; exact ends_q KD_ok 2000 78 (bs 15 17407) [] [4] [] (and8 (dT z0.1) (dF h10) (dT h8) (decide_eq_true z0.2.1) (decide_eq_true z0.2.2.1) (dT h7) (decide_eq_true z0.2.1) (decide_eq_true z0.2.2.1) (and8 (dT h6) (dT h4) (decide_eq_true z0.2.2.2.1) (decide_eq_true z0.2.2.2.2) (dT h3) (decide_eq_true z0.2.2.2.1) (decide_eq_true z0.2.2.2.2) (dT h2) rfl))
      ·skip
       refine cond_intro (P := one_Q s at' (one_h7 s at' t6_7)) _ (fun h11 => ?_) (fun h11 => ?_)
       ·skip
        show Gets E 0 _ (one_h8 s at' (1))
        have z0 := ((((((hS.1 h2).1 h3).1 h4).1 h6).1 h7).2 h8).1 h11; exact reach_q KD_ok 2000 80 (bs 12 2303) [] [] [0, 1, 2, 3, 4, 5, 6, 7, 8, 9] [0, 1, 5, 6, 7] [] [] [] (and8 (dT h11) (dF z0.1) (dF h8) (decide_eq_true z0.2.1) (decide_eq_true z0.2.2.1) (dT h7) (decide_eq_true z0.2.1) (decide_eq_true z0.2.2.1) (and8 (dT h6) (dT h4) (decide_eq_true z0.2.2.2.1) (decide_eq_true z0.2.2.2.2) (dT h3) (decide_eq_true z0.2.2.2.1) (decide_eq_true z0.2.2.2.2) (dT h2) rfl))
       ·skip
        show Gets E 0 _ (one_h8 s at' t6_7)
        have z0 := ((((((hS.1 h2).1 h3).1 h4).1 h6).1 h7).2 h8).2 h11; exact reach_q KD_ok 2000 77 (bs 12 255) [] [] [0, 1, 2, 3, 4, 5, 6, 7, 8, 9] [0, 1, 5, 6, 7] [] [] [] (and8 (dF h11) (dF z0.1) (dF h8) (decide_eq_true z0.2.1) (decide_eq_true z0.2.2.1) (dT h7) (decide_eq_true z0.2.1) (decide_eq_true z0.2.2.1) (and8 (dT h6) (dT h4) (decide_eq_true z0.2.2.2.1) (decide_eq_true z0.2.2.2.2) (dT h3) (decide_eq_true z0.2.2.2.1) (decide_eq_true z0.2.2.2.2) (dT h2) rfl))
     ·skip
      refine cond_intro (P := one_Q s at' (one_h7 s at' t6_7)) _ (fun h11 => ?_) (fun h11 => ?_)
      ·skip
       show Gets E 0 _ (one_h8 s at' (1))
       have z0 := (((((hS.1 h2).1 h3).1 h4).1 h6).2 h7).1 h11; exact reach_q KD_ok 2000 80 (bs 12 2175) [] [] [0, 1, 2, 3, 4, 5, 6, 7, 8, 9] [0, 1, 5, 6, 7] [] [] [] (and8 (dT h11) (dF z0.1) (dF h7) (decide_eq_true z0.2.1) (decide_eq_true z0.2.2.1) (dT h6) (dT h4) (decide_eq_true z0.2.2.2.1) (andI (decide_eq_true z0.2.2.2.2) (and4 (dT h3) (decide_eq_true z0.2.2.2.1) (decide_eq_true z0.2.2.2.2) (dT h2) rfl)))
      ·skip
       show Gets E 0 _ (one_h8 s at' t6_7)
       have z0 := (((((hS.1 h2).1 h3).1 h4).1 h6).2 h7).2 h11; exact reach_q KD_ok 2000 77 (bs 12 127) [] [] [0, 1, 2, 3, 4, 5, 6, 7, 8, 9] [0, 1, 5, 6, 7] [] [] [] (and8 (dF h11) (dF z0.1) (dF h7) (decide_eq_true z0.2.1) (decide_eq_true z0.2.2.1) (dT h6) (dT h4) (decide_eq_true z0.2.2.2.1) (andI (decide_eq_true z0.2.2.2.2) (and4 (dT h3) (decide_eq_true z0.2.2.2.1) (decide_eq_true z0.2.2.2.2) (dT h2) rfl)))
    ·skip
     have z0 := (((hS.1 h2).1 h3).1 h4).2 h6; exact ends_q KD_ok 2000 65 (bs 11 1087) [] [4] [] (and8 (dT z0.1) (dF h6) (dT h4) (decide_eq_true z0.2.1) (decide_eq_true z0.2.2) (dT h3) (decide_eq_true z0.2.1) (decide_eq_true z0.2.2) (andI (dT h2) rfl))
   ·skip
    refine cond_intro (P := one_Q s at' (one_h7 s at' t6_7)) _ (fun h7 => ?_) (fun h7 => ?_)
    ·skip
     show Gets E 0 _ (one_h8 s at' (0))
     have z0 := (((hS.1 h2).1 h3).2 h4).1 h7; exact reach_q KD_ok 2000 67 (bs 8 143) [] [] [0, 1, 2, 3, 4, 5, 6, 7, 8, 9] [0, 1, 5, 6, 7] [] [] [] (and8 (dT h7) (dF z0.1) (dF h4) (decide_eq_true z0.2.1) (decide_eq_true z0.2.2) (dT h3) (decide_eq_true z0.2.1) (decide_eq_true z0.2.2) (andI (dT h2) rfl))
    ·skip
     show Gets E 0 _ (one_h8 s at' t6_7)
     have z0 := (((hS.1 h2).1 h3).2 h4).2 h7; exact reach_q KD_ok 2000 64 (bs 8 15) [] [] [0, 1, 2, 3, 4, 5, 6, 7, 8, 9] [0, 1, 5, 6, 7] [] [] [] (and8 (dF h7) (dF z0.1) (dF h4) (decide_eq_true z0.2.1) (decide_eq_true z0.2.2) (dT h3) (decide_eq_true z0.2.1) (decide_eq_true z0.2.2) (andI (dT h2) rfl))
  ·skip
   refine cond_intro (P := one_Q s at' (one_h7 s at' t6_7)) _ (fun h7 => ?_) (fun h7 => ?_)
   ·skip
    show Gets E 0 _ (one_h8 s at' (0))
    have z0 := ((hS.1 h2).2 h3).1 h7; exact reach_q KD_ok 2000 67 (bs 8 135) [] [] [0, 1, 2, 3, 4, 5, 6, 7, 8, 9] [0, 1, 5, 6, 7] [] [] [] (andI (dT h7) (andI (dF z0.1) (and4 (dF h3) (decide_eq_true z0.2.1) (decide_eq_true z0.2.2) (dT h2) rfl)))
   ·skip
    show Gets E 0 _ (one_h8 s at' t6_7)
    have z0 := ((hS.1 h2).2 h3).2 h7; exact reach_q KD_ok 2000 64 (bs 8 7) [] [] [0, 1, 2, 3, 4, 5, 6, 7, 8, 9] [0, 1, 5, 6, 7] [] [] [] (andI (dF h7) (andI (dF z0.1) (and4 (dF h3) (decide_eq_true z0.2.1) (decide_eq_true z0.2.2) (dT h2) rfl)))
 ·skip
  exact ends_q KD_ok 2000 52 (bs 7 67) [] [4] [] (andI (dT (hS.2 h2)) (andI (dF h2) rfl))
noncomputable def one_t8 (s : ByteArray) (at' t6_8 : Int) : one_R :=
 bif decide (IntKind.i64.wrap (at' + 0) < ((slen s) : Int)) then bif decide (241 ≤ chr s (IntKind.i64.wrap (at' + 0)).toNat) then bif decide (chr s (IntKind.i64.wrap (at' + 0)).toNat ≤ 243) then bif decide (IntKind.i64.wrap (at' + 1) < ((slen s) : Int)) then bif decide (128 ≤ chr s (IntKind.i64.wrap (at' + 1)).toNat) then bif decide (chr s (IntKind.i64.wrap (at' + 1)).toNat ≤ 191) then bif decide (IntKind.i64.wrap (at' + 2) < ((slen s) : Int)) then bif decide (128 ≤ chr s (IntKind.i64.wrap (at' + 2)).toNat) then bif decide (chr s (IntKind.i64.wrap (at' + 2)).toNat ≤ 191) then bif decide (IntKind.i64.wrap (at' + 3) < ((slen s) : Int)) then bif decide (128 ≤ chr s (IntKind.i64.wrap (at' + 3)).toNat) then bif decide (chr s (IntKind.i64.wrap (at' + 3)).toNat ≤ 191) then .inr (.inr (.inr (.inr (.inr (.inr (.inr (.inr (.inr (.inr (4))))))))))
            else bif decide (t6_8 < 3) then .inr (.inr (.inr (.inr (.inr (.inr (.inr (.inr (.inl (3)))))))))
             else .inr (.inr (.inr (.inr (.inr (.inr (.inr (.inr (.inl (t6_8)))))))))
           else bif decide (t6_8 < 3) then .inr (.inr (.inr (.inr (.inr (.inr (.inr (.inr (.inl (3)))))))))
            else .inr (.inr (.inr (.inr (.inr (.inr (.inr (.inr (.inl (t6_8)))))))))
          else .inr (.inr (.inr (.inr (.inr (.inr (.inr (.inr (.inr (.inr (0))))))))))
         else bif decide (t6_8 < 2) then .inr (.inr (.inr (.inr (.inr (.inr (.inr (.inr (.inl (2)))))))))
          else .inr (.inr (.inr (.inr (.inr (.inr (.inr (.inr (.inl (t6_8)))))))))
        else bif decide (t6_8 < 2) then .inr (.inr (.inr (.inr (.inr (.inr (.inr (.inr (.inl (2)))))))))
         else .inr (.inr (.inr (.inr (.inr (.inr (.inr (.inr (.inl (t6_8)))))))))
       else .inr (.inr (.inr (.inr (.inr (.inr (.inr (.inr (.inr (.inr (0))))))))))
      else bif decide (t6_8 < 1) then .inr (.inr (.inr (.inr (.inr (.inr (.inr (.inr (.inl (1)))))))))
       else .inr (.inr (.inr (.inr (.inr (.inr (.inr (.inr (.inl (t6_8)))))))))
     else bif decide (t6_8 < 1) then .inr (.inr (.inr (.inr (.inr (.inr (.inr (.inr (.inl (1)))))))))
      else .inr (.inr (.inr (.inr (.inr (.inr (.inr (.inr (.inl (t6_8)))))))))
    else .inr (.inr (.inr (.inr (.inr (.inr (.inr (.inr (.inr (.inr (0))))))))))
   else bif decide (t6_8 < 0) then .inr (.inr (.inr (.inr (.inr (.inr (.inr (.inr (.inl (0)))))))))
    else .inr (.inr (.inr (.inr (.inr (.inr (.inr (.inr (.inl (t6_8)))))))))
  else bif decide (t6_8 < 0) then .inr (.inr (.inr (.inr (.inr (.inr (.inr (.inr (.inl (0)))))))))
   else .inr (.inr (.inr (.inr (.inr (.inr (.inr (.inr (.inl (t6_8)))))))))
 else .inr (.inr (.inr (.inr (.inr (.inr (.inr (.inr (.inr (.inr (0))))))))))
noncomputable def one_S8 (s : ByteArray) (at' t6_8 : Int) : Prop :=
 ((decide (IntKind.i64.wrap (at' + 0) < ((slen s) : Int))) = true → ((decide (241 ≤ chr s (IntKind.i64.wrap (at' + 0)).toNat)) = true → ((decide (chr s (IntKind.i64.wrap (at' + 0)).toNat ≤ 243)) = true → ((decide (IntKind.i64.wrap (at' + 1) < ((slen s) : Int))) = true → ((decide (128 ≤ chr s (IntKind.i64.wrap (at' + 1)).toNat)) = true → ((decide (chr s (IntKind.i64.wrap (at' + 1)).toNat ≤ 191)) = true → ((decide (IntKind.i64.wrap (at' + 2) < ((slen s) : Int))) = true → ((decide (128 ≤ chr s (IntKind.i64.wrap (at' + 2)).toNat)) = true → ((decide (chr s (IntKind.i64.wrap (at' + 2)).toNat ≤ 191)) = true → ((decide (IntKind.i64.wrap (at' + 3) < ((slen s) : Int))) = true → ((decide (128 ≤ chr s (IntKind.i64.wrap (at' + 3)).toNat)) = true → ((decide (chr s (IntKind.i64.wrap (at' + 3)).toNat ≤ 191)) = true → (0 ≤ IntKind.i64.wrap (at' + 3)) ∧ (IntKind.i64.wrap (at' + 3) < ((slen s) : Int)) ∧ (0 ≤ IntKind.i64.wrap (at' + 2)) ∧ (IntKind.i64.wrap (at' + 2) < ((slen s) : Int)) ∧ (0 ≤ IntKind.i64.wrap (at' + 1)) ∧ (IntKind.i64.wrap (at' + 1) < ((slen s) : Int)) ∧ (0 ≤ IntKind.i64.wrap (at' + 0)) ∧ (IntKind.i64.wrap (at' + 0) < ((slen s) : Int))) ∧
            ((decide (chr s (IntKind.i64.wrap (at' + 3)).toNat ≤ 191)) = false → ((decide (t6_8 < 3)) = true → ((IntKind.i64.wrap (at' + 3) == ((slen s) : Int)) = false) ∧ (0 ≤ IntKind.i64.wrap (at' + 3)) ∧ (IntKind.i64.wrap (at' + 3) < ((slen s) : Int)) ∧ (0 ≤ IntKind.i64.wrap (at' + 2)) ∧ (IntKind.i64.wrap (at' + 2) < ((slen s) : Int)) ∧ (0 ≤ IntKind.i64.wrap (at' + 1)) ∧ (IntKind.i64.wrap (at' + 1) < ((slen s) : Int)) ∧ (0 ≤ IntKind.i64.wrap (at' + 0)) ∧ (IntKind.i64.wrap (at' + 0) < ((slen s) : Int))) ∧
             ((decide (t6_8 < 3)) = false → ((IntKind.i64.wrap (at' + 3) == ((slen s) : Int)) = false) ∧ (0 ≤ IntKind.i64.wrap (at' + 3)) ∧ (IntKind.i64.wrap (at' + 3) < ((slen s) : Int)) ∧ (0 ≤ IntKind.i64.wrap (at' + 2)) ∧ (IntKind.i64.wrap (at' + 2) < ((slen s) : Int)) ∧ (0 ≤ IntKind.i64.wrap (at' + 1)) ∧ (IntKind.i64.wrap (at' + 1) < ((slen s) : Int)) ∧ (0 ≤ IntKind.i64.wrap (at' + 0)) ∧ (IntKind.i64.wrap (at' + 0) < ((slen s) : Int))))) ∧
           ((decide (128 ≤ chr s (IntKind.i64.wrap (at' + 3)).toNat)) = false → ((decide (t6_8 < 3)) = true → ((IntKind.i64.wrap (at' + 3) == ((slen s) : Int)) = false) ∧ (0 ≤ IntKind.i64.wrap (at' + 3)) ∧ (IntKind.i64.wrap (at' + 3) < ((slen s) : Int)) ∧ (0 ≤ IntKind.i64.wrap (at' + 2)) ∧ (IntKind.i64.wrap (at' + 2) < ((slen s) : Int)) ∧ (0 ≤ IntKind.i64.wrap (at' + 1)) ∧ (IntKind.i64.wrap (at' + 1) < ((slen s) : Int)) ∧ (0 ≤ IntKind.i64.wrap (at' + 0)) ∧ (IntKind.i64.wrap (at' + 0) < ((slen s) : Int))) ∧
            ((decide (t6_8 < 3)) = false → ((IntKind.i64.wrap (at' + 3) == ((slen s) : Int)) = false) ∧ (0 ≤ IntKind.i64.wrap (at' + 3)) ∧ (IntKind.i64.wrap (at' + 3) < ((slen s) : Int)) ∧ (0 ≤ IntKind.i64.wrap (at' + 2)) ∧ (IntKind.i64.wrap (at' + 2) < ((slen s) : Int)) ∧ (0 ≤ IntKind.i64.wrap (at' + 1)) ∧ (IntKind.i64.wrap (at' + 1) < ((slen s) : Int)) ∧ (0 ≤ IntKind.i64.wrap (at' + 0)) ∧ (IntKind.i64.wrap (at' + 0) < ((slen s) : Int))))) ∧
          ((decide (IntKind.i64.wrap (at' + 3) < ((slen s) : Int))) = false → ((IntKind.i64.wrap (at' + 3) == ((slen s) : Int)) = true) ∧ (0 ≤ IntKind.i64.wrap (at' + 2)) ∧ (IntKind.i64.wrap (at' + 2) < ((slen s) : Int)) ∧ (0 ≤ IntKind.i64.wrap (at' + 1)) ∧ (IntKind.i64.wrap (at' + 1) < ((slen s) : Int)) ∧ (0 ≤ IntKind.i64.wrap (at' + 0)) ∧ (IntKind.i64.wrap (at' + 0) < ((slen s) : Int)))) ∧
         ((decide (chr s (IntKind.i64.wrap (at' + 2)).toNat ≤ 191)) = false → ((decide (t6_8 < 2)) = true → ((IntKind.i64.wrap (at' + 2) == ((slen s) : Int)) = false) ∧ (0 ≤ IntKind.i64.wrap (at' + 2)) ∧ (IntKind.i64.wrap (at' + 2) < ((slen s) : Int)) ∧ (0 ≤ IntKind.i64.wrap (at' + 1)) ∧ (IntKind.i64.wrap (at' + 1) < ((slen s) : Int)) ∧ (0 ≤ IntKind.i64.wrap (at' + 0)) ∧ (IntKind.i64.wrap (at' + 0) < ((slen s) : Int))) ∧
          ((decide (t6_8 < 2)) = false → ((IntKind.i64.wrap (at' + 2) == ((slen s) : Int)) = false) ∧ (0 ≤ IntKind.i64.wrap (at' + 2)) ∧ (IntKind.i64.wrap (at' + 2) < ((slen s) : Int)) ∧ (0 ≤ IntKind.i64.wrap (at' + 1)) ∧ (IntKind.i64.wrap (at' + 1) < ((slen s) : Int)) ∧ (0 ≤ IntKind.i64.wrap (at' + 0)) ∧ (IntKind.i64.wrap (at' + 0) < ((slen s) : Int))))) ∧
        ((decide (128 ≤ chr s (IntKind.i64.wrap (at' + 2)).toNat)) = false → ((decide (t6_8 < 2)) = true → ((IntKind.i64.wrap (at' + 2) == ((slen s) : Int)) = false) ∧ (0 ≤ IntKind.i64.wrap (at' + 2)) ∧ (IntKind.i64.wrap (at' + 2) < ((slen s) : Int)) ∧ (0 ≤ IntKind.i64.wrap (at' + 1)) ∧ (IntKind.i64.wrap (at' + 1) < ((slen s) : Int)) ∧ (0 ≤ IntKind.i64.wrap (at' + 0)) ∧ (IntKind.i64.wrap (at' + 0) < ((slen s) : Int))) ∧
         ((decide (t6_8 < 2)) = false → ((IntKind.i64.wrap (at' + 2) == ((slen s) : Int)) = false) ∧ (0 ≤ IntKind.i64.wrap (at' + 2)) ∧ (IntKind.i64.wrap (at' + 2) < ((slen s) : Int)) ∧ (0 ≤ IntKind.i64.wrap (at' + 1)) ∧ (IntKind.i64.wrap (at' + 1) < ((slen s) : Int)) ∧ (0 ≤ IntKind.i64.wrap (at' + 0)) ∧ (IntKind.i64.wrap (at' + 0) < ((slen s) : Int))))) ∧
       ((decide (IntKind.i64.wrap (at' + 2) < ((slen s) : Int))) = false → ((IntKind.i64.wrap (at' + 2) == ((slen s) : Int)) = true) ∧ (0 ≤ IntKind.i64.wrap (at' + 1)) ∧ (IntKind.i64.wrap (at' + 1) < ((slen s) : Int)) ∧ (0 ≤ IntKind.i64.wrap (at' + 0)) ∧ (IntKind.i64.wrap (at' + 0) < ((slen s) : Int)))) ∧
      ((decide (chr s (IntKind.i64.wrap (at' + 1)).toNat ≤ 191)) = false → ((decide (t6_8 < 1)) = true → ((IntKind.i64.wrap (at' + 1) == ((slen s) : Int)) = false) ∧ (0 ≤ IntKind.i64.wrap (at' + 1)) ∧ (IntKind.i64.wrap (at' + 1) < ((slen s) : Int)) ∧ (0 ≤ IntKind.i64.wrap (at' + 0)) ∧ (IntKind.i64.wrap (at' + 0) < ((slen s) : Int))) ∧
       ((decide (t6_8 < 1)) = false → ((IntKind.i64.wrap (at' + 1) == ((slen s) : Int)) = false) ∧ (0 ≤ IntKind.i64.wrap (at' + 1)) ∧ (IntKind.i64.wrap (at' + 1) < ((slen s) : Int)) ∧ (0 ≤ IntKind.i64.wrap (at' + 0)) ∧ (IntKind.i64.wrap (at' + 0) < ((slen s) : Int))))) ∧
     ((decide (128 ≤ chr s (IntKind.i64.wrap (at' + 1)).toNat)) = false → ((decide (t6_8 < 1)) = true → ((IntKind.i64.wrap (at' + 1) == ((slen s) : Int)) = false) ∧ (0 ≤ IntKind.i64.wrap (at' + 1)) ∧ (IntKind.i64.wrap (at' + 1) < ((slen s) : Int)) ∧ (0 ≤ IntKind.i64.wrap (at' + 0)) ∧ (IntKind.i64.wrap (at' + 0) < ((slen s) : Int))) ∧
      ((decide (t6_8 < 1)) = false → ((IntKind.i64.wrap (at' + 1) == ((slen s) : Int)) = false) ∧ (0 ≤ IntKind.i64.wrap (at' + 1)) ∧ (IntKind.i64.wrap (at' + 1) < ((slen s) : Int)) ∧ (0 ≤ IntKind.i64.wrap (at' + 0)) ∧ (IntKind.i64.wrap (at' + 0) < ((slen s) : Int))))) ∧
    ((decide (IntKind.i64.wrap (at' + 1) < ((slen s) : Int))) = false → ((IntKind.i64.wrap (at' + 1) == ((slen s) : Int)) = true) ∧ (0 ≤ IntKind.i64.wrap (at' + 0)) ∧ (IntKind.i64.wrap (at' + 0) < ((slen s) : Int)))) ∧
   ((decide (chr s (IntKind.i64.wrap (at' + 0)).toNat ≤ 243)) = false → ((decide (t6_8 < 0)) = true → ((IntKind.i64.wrap (at' + 0) == ((slen s) : Int)) = false) ∧ (0 ≤ IntKind.i64.wrap (at' + 0)) ∧ (IntKind.i64.wrap (at' + 0) < ((slen s) : Int))) ∧
    ((decide (t6_8 < 0)) = false → ((IntKind.i64.wrap (at' + 0) == ((slen s) : Int)) = false) ∧ (0 ≤ IntKind.i64.wrap (at' + 0)) ∧ (IntKind.i64.wrap (at' + 0) < ((slen s) : Int))))) ∧
  ((decide (241 ≤ chr s (IntKind.i64.wrap (at' + 0)).toNat)) = false → ((decide (t6_8 < 0)) = true → ((IntKind.i64.wrap (at' + 0) == ((slen s) : Int)) = false) ∧ (0 ≤ IntKind.i64.wrap (at' + 0)) ∧ (IntKind.i64.wrap (at' + 0) < ((slen s) : Int))) ∧
   ((decide (t6_8 < 0)) = false → ((IntKind.i64.wrap (at' + 0) == ((slen s) : Int)) = false) ∧ (0 ≤ IntKind.i64.wrap (at' + 0)) ∧ (IntKind.i64.wrap (at' + 0) < ((slen s) : Int))))) ∧
 ((decide (IntKind.i64.wrap (at' + 0) < ((slen s) : Int))) = false → (IntKind.i64.wrap (at' + 0) == ((slen s) : Int)) = true)
theorem one_ok8 (s : ByteArray) (at' t6_8 : Int) (hS : one_S8 s at' t6_8) : one_Q s at' (one_h8 s at' t6_8) (one_t8 s at' t6_8) := by
 unfold one_S8 at hS
 unfold one_t8
 refine cond_intro (P := one_Q s at' (one_h8 s at' t6_8)) _ (fun h2 => ?_) (fun h2 => ?_)
 ·skip
  refine cond_intro (P := one_Q s at' (one_h8 s at' t6_8)) _ (fun h3 => ?_) (fun h3 => ?_)
  ·skip
   refine cond_intro (P := one_Q s at' (one_h8 s at' t6_8)) _ (fun h4 => ?_) (fun h4 => ?_)
   ·skip
    refine cond_intro (P := one_Q s at' (one_h8 s at' t6_8)) _ (fun h6 => ?_) (fun h6 => ?_)
    ·skip
     refine cond_intro (P := one_Q s at' (one_h8 s at' t6_8)) _ (fun h7 => ?_) (fun h7 => ?_)
     ·skip
      refine cond_intro (P := one_Q s at' (one_h8 s at' t6_8)) _ (fun h8 => ?_) (fun h8 => ?_)
      ·skip
       refine cond_intro (P := one_Q s at' (one_h8 s at' t6_8)) _ (fun h10 => ?_) (fun h10 => ?_)
       ·skip
        refine cond_intro (P := one_Q s at' (one_h8 s at' t6_8)) _ (fun h11 => ?_) (fun h11 => ?_)
        ·skip
         refine cond_intro (P := one_Q s at' (one_h8 s at' t6_8)) _ (fun h12 => ?_) (fun h12 => ?_)
         ·skip
          refine cond_intro (P := one_Q s at' (one_h8 s at' t6_8)) _ (fun h14 => ?_) (fun h14 => ?_)
          ·skip
           refine cond_intro (P := one_Q s at' (one_h8 s at' t6_8)) _ (fun h15 => ?_) (fun h15 => ?_)
           ·skip
            refine cond_intro (P := one_Q s at' (one_h8 s at' t6_8)) _ (fun h16 => ?_) (fun h16 => ?_)
            ·skip
             have z0 := (((((((((((hS.1 h2).1 h3).1 h4).1 h6).1 h7).1 h8).1 h10).1 h11).1 h12).1 h14).1 h15).1 h16; exact ends_q KD_ok 2000 93 (bs 22 2228223) [] [4] [] (and8 (dT h16) (decide_eq_true z0.1) (decide_eq_true z0.2.1) (dT h15) (decide_eq_true z0.1) (decide_eq_true z0.2.1) (dT h14) (dT h12) (and8 (decide_eq_true z0.2.2.1) (decide_eq_true z0.2.2.2.1) (dT h11) (decide_eq_true z0.2.2.1) (decide_eq_true z0.2.2.2.1) (dT h10) (dT h8) (decide_eq_true z0.2.2.2.2.1) (and8 (decide_eq_true z0.2.2.2.2.2.1) (dT h7) (decide_eq_true z0.2.2.2.2.1) (decide_eq_true z0.2.2.2.2.2.1) (dT h6) (dT h4) (decide_eq_true z0.2.2.2.2.2.2.1) (decide_eq_true z0.2.2.2.2.2.2.2) (and4 (dT h3) (decide_eq_true z0.2.2.2.2.2.2.1) (decide_eq_true z0.2.2.2.2.2.2.2) (dT h2) rfl))))
            ·skip
             refine cond_intro (P := one_Q s at' (one_h8 s at' t6_8)) _ (fun h19 => ?_) (fun h19 => ?_)
             ·skip
              show Gets E 0 _ (one_h9 s at' (3))
              have z0 := ((((((((((((hS.1 h2).1 h3).1 h4).1 h6).1 h7).1 h8).1 h10).1 h11).1 h12).1 h14).1 h15).2 h16).1 h19; exact reach_q KD_ok 2000 106 (bs 20 589823) [] [] [0, 1, 2, 3, 4, 5, 6, 7, 8, 9] [0, 1, 5, 6, 7] [] [] [] (and8 (dT h19) (dF z0.1) (dF h16) (decide_eq_true z0.2.1) (decide_eq_true z0.2.2.1) (dT h15) (decide_eq_true z0.2.1) (decide_eq_true z0.2.2.1) (and8 (dT h14) (dT h12) (decide_eq_true z0.2.2.2.1) (decide_eq_true z0.2.2.2.2.1) (dT h11) (decide_eq_true z0.2.2.2.1) (decide_eq_true z0.2.2.2.2.1) (dT h10) (and8 (dT h8) (decide_eq_true z0.2.2.2.2.2.1) (decide_eq_true z0.2.2.2.2.2.2.1) (dT h7) (decide_eq_true z0.2.2.2.2.2.1) (decide_eq_true z0.2.2.2.2.2.2.1) (dT h6) (dT h4) (andI (decide_eq_true z0.2.2.2.2.2.2.2.1) (andI (decide_eq_true z0.2.2.2.2.2.2.2.2) (and4 (dT h3) (decide_eq_true z0.2.2.2.2.2.2.2.1) (decide_eq_true z0.2.2.2.2.2.2.2.2) (dT h2) rfl))))))
             ·skip
              show Gets E 0 _ (one_h9 s at' t6_8)
              have z0 := ((((((((((((hS.1 h2).1 h3).1 h4).1 h6).1 h7).1 h8).1 h10).1 h11).1 h12).1 h14).1 h15).2 h16).2 h19; exact reach_q KD_ok 2000 103 (bs 20 65535) [] [] [0, 1, 2, 3, 4, 5, 6, 7, 8, 9] [0, 1, 5, 6, 7] [] [] [] (and8 (dF h19) (dF z0.1) (dF h16) (decide_eq_true z0.2.1) (decide_eq_true z0.2.2.1) (dT h15) (decide_eq_true z0.2.1) (decide_eq_true z0.2.2.1) (and8 (dT h14) (dT h12) (decide_eq_true z0.2.2.2.1) (decide_eq_true z0.2.2.2.2.1) (dT h11) (decide_eq_true z0.2.2.2.1) (decide_eq_true z0.2.2.2.2.1) (dT h10) (and8 (dT h8) (decide_eq_true z0.2.2.2.2.2.1) (decide_eq_true z0.2.2.2.2.2.2.1) (dT h7) (decide_eq_true z0.2.2.2.2.2.1) (decide_eq_true z0.2.2.2.2.2.2.1) (dT h6) (dT h4) (andI (decide_eq_true z0.2.2.2.2.2.2.2.1) (andI (decide_eq_true z0.2.2.2.2.2.2.2.2) (and4 (dT h3) (decide_eq_true z0.2.2.2.2.2.2.2.1) (decide_eq_true z0.2.2.2.2.2.2.2.2) (dT h2) rfl))))))
           ·skip
            refine cond_intro (P := one_Q s at' (one_h8 s at' t6_8)) _ (fun h19 => ?_) (fun h19 => ?_)
            ·skip
             show Gets E 0 _ (one_h9 s at' (3))
             have z0 := (((((((((((hS.1 h2).1 h3).1 h4).1 h6).1 h7).1 h8).1 h10).1 h11).1 h12).1 h14).2 h15).1 h19; exact reach_q KD_ok 2000 106 (bs 20 557055) [] [] [0, 1, 2, 3, 4, 5, 6, 7, 8, 9] [0, 1, 5, 6, 7] [] [] [] (and8 (dT h19) (dF z0.1) (dF h15) (decide_eq_true z0.2.1) (decide_eq_true z0.2.2.1) (dT h14) (dT h12) (decide_eq_true z0.2.2.2.1) (and8 (decide_eq_true z0.2.2.2.2.1) (dT h11) (decide_eq_true z0.2.2.2.1) (decide_eq_true z0.2.2.2.2.1) (dT h10) (dT h8) (decide_eq_true z0.2.2.2.2.2.1) (decide_eq_true z0.2.2.2.2.2.2.1) (and8 (dT h7) (decide_eq_true z0.2.2.2.2.2.1) (decide_eq_true z0.2.2.2.2.2.2.1) (dT h6) (dT h4) (decide_eq_true z0.2.2.2.2.2.2.2.1) (decide_eq_true z0.2.2.2.2.2.2.2.2) (dT h3) (andI (decide_eq_true z0.2.2.2.2.2.2.2.1) (andI (decide_eq_true z0.2.2.2.2.2.2.2.2) (andI (dT h2) rfl))))))
            ·skip
             show Gets E 0 _ (one_h9 s at' t6_8)
             have z0 := (((((((((((hS.1 h2).1 h3).1 h4).1 h6).1 h7).1 h8).1 h10).1 h11).1 h12).1 h14).2 h15).2 h19; exact reach_q KD_ok 2000 103 (bs 20 32767) [] [] [0, 1, 2, 3, 4, 5, 6, 7, 8, 9] [0, 1, 5, 6, 7] [] [] [] (and8 (dF h19) (dF z0.1) (dF h15) (decide_eq_true z0.2.1) (decide_eq_true z0.2.2.1) (dT h14) (dT h12) (decide_eq_true z0.2.2.2.1) (and8 (decide_eq_true z0.2.2.2.2.1) (dT h11) (decide_eq_true z0.2.2.2.1) (decide_eq_true z0.2.2.2.2.1) (dT h10) (dT h8) (decide_eq_true z0.2.2.2.2.2.1) (decide_eq_true z0.2.2.2.2.2.2.1) (and8 (dT h7) (decide_eq_true z0.2.2.2.2.2.1) (decide_eq_true z0.2.2.2.2.2.2.1) (dT h6) (dT h4) (decide_eq_true z0.2.2.2.2.2.2.2.1) (decide_eq_true z0.2.2.2.2.2.2.2.2) (dT h3) (andI (decide_eq_true z0.2.2.2.2.2.2.2.1) (andI (decide_eq_true z0.2.2.2.2.2.2.2.2) (andI (dT h2) rfl))))))
          ·skip
           have z0 := (((((((((hS.1 h2).1 h3).1 h4).1 h6).1 h7).1 h8).1 h10).1 h11).1 h12).2 h14; exact ends_q KD_ok 2000 91 (bs 19 278527) [] [4] [] (and8 (dT z0.1) (dF h14) (dT h12) (decide_eq_true z0.2.1) (decide_eq_true z0.2.2.1) (dT h11) (decide_eq_true z0.2.1) (decide_eq_true z0.2.2.1) (and8 (dT h10) (dT h8) (decide_eq_true z0.2.2.2.1) (decide_eq_true z0.2.2.2.2.1) (dT h7) (decide_eq_true z0.2.2.2.1) (decide_eq_true z0.2.2.2.2.1) (dT h6) (andI (dT h4) (andI (decide_eq_true z0.2.2.2.2.2.1) (andI (decide_eq_true z0.2.2.2.2.2.2) (and4 (dT h3) (decide_eq_true z0.2.2.2.2.2.1) (decide_eq_true z0.2.2.2.2.2.2) (dT h2) rfl))))))
         ·skip
          refine cond_intro (P := one_Q s at' (one_h8 s at' t6_8)) _ (fun h15 => ?_) (fun h15 => ?_)
          ·skip
           show Gets E 0 _ (one_h9 s at' (2))
           have z0 := (((((((((hS.1 h2).1 h3).1 h4).1 h6).1 h7).1 h8).1 h10).1 h11).2 h12).1 h15; exact reach_q KD_ok 2000 93 (bs 16 36863) [] [] [0, 1, 2, 3, 4, 5, 6, 7, 8, 9] [0, 1, 5, 6, 7] [] [] [] (and8 (dT h15) (dF z0.1) (dF h12) (decide_eq_true z0.2.1) (decide_eq_true z0.2.2.1) (dT h11) (decide_eq_true z0.2.1) (decide_eq_true z0.2.2.1) (and8 (dT h10) (dT h8) (decide_eq_true z0.2.2.2.1) (decide_eq_true z0.2.2.2.2.1) (dT h7) (decide_eq_true z0.2.2.2.1) (decide_eq_true z0.2.2.2.2.1) (dT h6) (andI (dT h4) (andI (decide_eq_true z0.2.2.2.2.2.1) (andI (decide_eq_true z0.2.2.2.2.2.2) (and4 (dT h3) (decide_eq_true z0.2.2.2.2.2.1) (decide_eq_true z0.2.2.2.2.2.2) (dT h2) rfl))))))
          ·skip
           show Gets E 0 _ (one_h9 s at' t6_8)
           have z0 := (((((((((hS.1 h2).1 h3).1 h4).1 h6).1 h7).1 h8).1 h10).1 h11).2 h12).2 h15; exact reach_q KD_ok 2000 90 (bs 16 4095) [] [] [0, 1, 2, 3, 4, 5, 6, 7, 8, 9] [0, 1, 5, 6, 7] [] [] [] (and8 (dF h15) (dF z0.1) (dF h12) (decide_eq_true z0.2.1) (decide_eq_true z0.2.2.1) (dT h11) (decide_eq_true z0.2.1) (decide_eq_true z0.2.2.1) (and8 (dT h10) (dT h8) (decide_eq_true z0.2.2.2.1) (decide_eq_true z0.2.2.2.2.1) (dT h7) (decide_eq_true z0.2.2.2.1) (decide_eq_true z0.2.2.2.2.1) (dT h6) (andI (dT h4) (andI (decide_eq_true z0.2.2.2.2.2.1) (andI (decide_eq_true z0.2.2.2.2.2.2) (and4 (dT h3) (decide_eq_true z0.2.2.2.2.2.1) (decide_eq_true z0.2.2.2.2.2.2) (dT h2) rfl))))))
        ·skip
         refine cond_intro (P := one_Q s at' (one_h8 s at' t6_8)) _ (fun h15 => ?_) (fun h15 => ?_)
         ·skip
          show Gets E 0 _ (one_h9 s at' (2))
          have z0 := ((((((((hS.1 h2).1 h3).1 h4).1 h6).1 h7).1 h8).1 h10).2 h11).1 h15; exact reach_q KD_ok 2000 93 (bs 16 34815) [] [] [0, 1, 2, 3, 4, 5, 6, 7, 8, 9] [0, 1, 5, 6, 7] [] [] [] (and8 (dT h15) (dF z0.1) (dF h11) (decide_eq_true z0.2.1) (decide_eq_true z0.2.2.1) (dT h10) (dT h8) (decide_eq_true z0.2.2.2.1) (and8 (decide_eq_true z0.2.2.2.2.1) (dT h7) (decide_eq_true z0.2.2.2.1) (decide_eq_true z0.2.2.2.2.1) (dT h6) (dT h4) (decide_eq_true z0.2.2.2.2.2.1) (decide_eq_true z0.2.2.2.2.2.2) (and4 (dT h3) (decide_eq_true z0.2.2.2.2.2.1) (decide_eq_true z0.2.2.2.2.2.2) (dT h2) rfl)))
         ·skip
          show Gets E 0 _ (one_h9 s at' t6_8)
          have z0 := ((((((((hS.1 h2).1 h3).1 h4).1 h6).1 h7).1 h8).1 h10).2 h11).2 h15; exact reach_q KD_ok 2000 90 (bs 16 2047) [] [] [0, 1, 2, 3, 4, 5, 6, 7, 8, 9] [0, 1, 5, 6, 7] [] [] [] (and8 (dF h15) (dF z0.1) (dF h11) (decide_eq_true z0.2.1) (decide_eq_true z0.2.2.1) (dT h10) (dT h8) (decide_eq_true z0.2.2.2.1) (and8 (decide_eq_true z0.2.2.2.2.1) (dT h7) (decide_eq_true z0.2.2.2.1) (decide_eq_true z0.2.2.2.2.1) (dT h6) (dT h4) (decide_eq_true z0.2.2.2.2.2.1) (decide_eq_true z0.2.2.2.2.2.2) (and4 (dT h3) (decide_eq_true z0.2.2.2.2.2.1) (decide_eq_true z0.2.2.2.2.2.2) (dT h2) rfl)))
       ·skip
        have z0 := ((((((hS.1 h2).1 h3).1 h4).1 h6).1 h7).1 h8).2 h10; exact ends_q KD_ok 2000 78 (bs 15 17407) [] [4] [] (and8 (dT z0.1) (dF h10) (dT h8) (decide_eq_true z0.2.1) (decide_eq_true z0.2.2.1) (dT h7) (decide_eq_true z0.2.1) (decide_eq_true z0.2.2.1) (and8 (dT h6) (dT h4) (decide_eq_true z0.2.2.2.1) (decide_eq_true z0.2.2.2.2) (dT h3) (decide_eq_true z0.2.2.2.1) (decide_eq_true z0.2.2.2.2) (dT h2) rfl))
      ·skip
       refine cond_intro (P := one_Q s at' (one_h8 s at' t6_8)) _ (fun h11 => ?_) (fun h11 => ?_)
       ·skip
        show Gets E 0 _ (one_h9 s at' (1))
        have z0 := ((((((hS.1 h2).1 h3).1 h4).1 h6).1 h7).2 h8).1 h11; exact reach_q KD_ok 2000 80 (bs 12 2303) [] [] [0, 1, 2, 3, 4, 5, 6, 7, 8, 9] [0, 1, 5, 6, 7] [] [] [] (and8 (dT h11) (dF z0.1) (dF h8) (decide_eq_true z0.2.1) (decide_eq_true z0.2.2.1) (dT h7) (decide_eq_true z0.2.1) (decide_eq_true z0.2.2.1) (and8 (dT h6) (dT h4) (decide_eq_true z0.2.2.2.1) (decide_eq_true z0.2.2.2.2) (dT h3) (decide_eq_true z0.2.2.2.1) (decide_eq_true z0.2.2.2.2) (dT h2) rfl))
       ·skip
        show Gets E 0 _ (one_h9 s at' t6_8)
        have z0 := ((((((hS.1 h2).1 h3).1 h4).1 h6).1 h7).2 h8).2 h11; exact reach_q KD_ok 2000 77 (bs 12 255) [] [] [0, 1, 2, 3, 4, 5, 6, 7, 8, 9] [0, 1, 5, 6, 7] [] [] [] (and8 (dF h11) (dF z0.1) (dF h8) (decide_eq_true z0.2.1) (decide_eq_true z0.2.2.1) (dT h7) (decide_eq_true z0.2.1) (decide_eq_true z0.2.2.1) (and8 (dT h6) (dT h4) (decide_eq_true z0.2.2.2.1) (decide_eq_true z0.2.2.2.2) (dT h3) (decide_eq_true z0.2.2.2.1) (decide_eq_true z0.2.2.2.2) (dT h2) rfl))
     ·skip
      refine cond_intro (P := one_Q s at' (one_h8 s at' t6_8)) _ (fun h11 => ?_) (fun h11 => ?_)
      ·skip
       show Gets E 0 _ (one_h9 s at' (1))
       have z0 := (((((hS.1 h2).1 h3).1 h4).1 h6).2 h7).1 h11; exact reach_q KD_ok 2000 80 (bs 12 2175) [] [] [0, 1, 2, 3, 4, 5, 6, 7, 8, 9] [0, 1, 5, 6, 7] [] [] [] (and8 (dT h11) (dF z0.1) (dF h7) (decide_eq_true z0.2.1) (decide_eq_true z0.2.2.1) (dT h6) (dT h4) (decide_eq_true z0.2.2.2.1) (andI (decide_eq_true z0.2.2.2.2) (and4 (dT h3) (decide_eq_true z0.2.2.2.1) (decide_eq_true z0.2.2.2.2) (dT h2) rfl)))
      ·skip
       show Gets E 0 _ (one_h9 s at' t6_8)
       have z0 := (((((hS.1 h2).1 h3).1 h4).1 h6).2 h7).2 h11; exact reach_q KD_ok 2000 77 (bs 12 127) [] [] [0, 1, 2, 3, 4, 5, 6, 7, 8, 9] [0, 1, 5, 6, 7] [] [] [] (and8 (dF h11) (dF z0.1) (dF h7) (decide_eq_true z0.2.1) (decide_eq_true z0.2.2.1) (dT h6) (dT h4) (decide_eq_true z0.2.2.2.1) (andI (decide_eq_true z0.2.2.2.2) (and4 (dT h3) (decide_eq_true z0.2.2.2.1) (decide_eq_true z0.2.2.2.2) (dT h2) rfl)))
    ·skip
     have z0 := (((hS.1 h2).1 h3).1 h4).2 h6; exact ends_q KD_ok 2000 65 (bs 11 1087) [] [4] [] (and8 (dT z0.1) (dF h6) (dT h4) (decide_eq_true z0.2.1) (decide_eq_true z0.2.2) (dT h3) (decide_eq_true z0.2.1) (decide_eq_true z0.2.2) (andI (dT h2) rfl))
   ·skip
    refine cond_intro (P := one_Q s at' (one_h8 s at' t6_8)) _ (fun h7 => ?_) (fun h7 => ?_)
    ·skip
     show Gets E 0 _ (one_h9 s at' (0))
     have z0 := (((hS.1 h2).1 h3).2 h4).1 h7; exact reach_q KD_ok 2000 67 (bs 8 143) [] [] [0, 1, 2, 3, 4, 5, 6, 7, 8, 9] [0, 1, 5, 6, 7] [] [] [] (and8 (dT h7) (dF z0.1) (dF h4) (decide_eq_true z0.2.1) (decide_eq_true z0.2.2) (dT h3) (decide_eq_true z0.2.1) (decide_eq_true z0.2.2) (andI (dT h2) rfl))
    ·skip
     show Gets E 0 _ (one_h9 s at' t6_8)
     have z0 := (((hS.1 h2).1 h3).2 h4).2 h7; exact reach_q KD_ok 2000 64 (bs 8 15) [] [] [0, 1, 2, 3, 4, 5, 6, 7, 8, 9] [0, 1, 5, 6, 7] [] [] [] (and8 (dF h7) (dF z0.1) (dF h4) (decide_eq_true z0.2.1) (decide_eq_true z0.2.2) (dT h3) (decide_eq_true z0.2.1) (decide_eq_true z0.2.2) (andI (dT h2) rfl))
  ·skip
   refine cond_intro (P := one_Q s at' (one_h8 s at' t6_8)) _ (fun h7 => ?_) (fun h7 => ?_)
   ·skip
    show Gets E 0 _ (one_h9 s at' (0))
    have z0 := ((hS.1 h2).2 h3).1 h7; exact reach_q KD_ok 2000 67 (bs 8 135) [] [] [0, 1, 2, 3, 4, 5, 6, 7, 8, 9] [0, 1, 5, 6, 7] [] [] [] (andI (dT h7) (andI (dF z0.1) (and4 (dF h3) (decide_eq_true z0.2.1) (decide_eq_true z0.2.2) (dT h2) rfl)))
   ·skip
    show Gets E 0 _ (one_h9 s at' t6_8)
    have z0 := ((hS.1 h2).2 h3).2 h7; exact reach_q KD_ok 2000 64 (bs 8 7) [] [] [0, 1, 2, 3, 4, 5, 6, 7, 8, 9] [0, 1, 5, 6, 7] [] [] [] (andI (dF h7) (andI (dF z0.1) (and4 (dF h3) (decide_eq_true z0.2.1) (decide_eq_true z0.2.2) (dT h2) rfl)))
 ·skip
  exact ends_q KD_ok 2000 52 (bs 7 67) [] [4] [] (andI (dT (hS.2 h2)) (andI (dF h2) rfl))
noncomputable def one_t9 (s : ByteArray) (at' t6_9 : Int) : one_R :=
 bif decide (IntKind.i64.wrap (at' + 0) < ((slen s) : Int)) then bif decide (244 ≤ chr s (IntKind.i64.wrap (at' + 0)).toNat) then bif decide (chr s (IntKind.i64.wrap (at' + 0)).toNat ≤ 244) then bif decide (IntKind.i64.wrap (at' + 1) < ((slen s) : Int)) then bif decide (128 ≤ chr s (IntKind.i64.wrap (at' + 1)).toNat) then bif decide (chr s (IntKind.i64.wrap (at' + 1)).toNat ≤ 143) then bif decide (IntKind.i64.wrap (at' + 2) < ((slen s) : Int)) then bif decide (128 ≤ chr s (IntKind.i64.wrap (at' + 2)).toNat) then bif decide (chr s (IntKind.i64.wrap (at' + 2)).toNat ≤ 191) then bif decide (IntKind.i64.wrap (at' + 3) < ((slen s) : Int)) then bif decide (128 ≤ chr s (IntKind.i64.wrap (at' + 3)).toNat) then bif decide (chr s (IntKind.i64.wrap (at' + 3)).toNat ≤ 191) then .inr (.inr (.inr (.inr (.inr (.inr (.inr (.inr (.inr (.inr (4))))))))))
            else bif decide (t6_9 < 3) then .inr (.inr (.inr (.inr (.inr (.inr (.inr (.inr (.inr (.inl (3))))))))))
             else .inr (.inr (.inr (.inr (.inr (.inr (.inr (.inr (.inr (.inl (t6_9))))))))))
           else bif decide (t6_9 < 3) then .inr (.inr (.inr (.inr (.inr (.inr (.inr (.inr (.inr (.inl (3))))))))))
            else .inr (.inr (.inr (.inr (.inr (.inr (.inr (.inr (.inr (.inl (t6_9))))))))))
          else .inr (.inr (.inr (.inr (.inr (.inr (.inr (.inr (.inr (.inr (0))))))))))
         else bif decide (t6_9 < 2) then .inr (.inr (.inr (.inr (.inr (.inr (.inr (.inr (.inr (.inl (2))))))))))
          else .inr (.inr (.inr (.inr (.inr (.inr (.inr (.inr (.inr (.inl (t6_9))))))))))
        else bif decide (t6_9 < 2) then .inr (.inr (.inr (.inr (.inr (.inr (.inr (.inr (.inr (.inl (2))))))))))
         else .inr (.inr (.inr (.inr (.inr (.inr (.inr (.inr (.inr (.inl (t6_9))))))))))
       else .inr (.inr (.inr (.inr (.inr (.inr (.inr (.inr (.inr (.inr (0))))))))))
      else bif decide (t6_9 < 1) then .inr (.inr (.inr (.inr (.inr (.inr (.inr (.inr (.inr (.inl (1))))))))))
       else .inr (.inr (.inr (.inr (.inr (.inr (.inr (.inr (.inr (.inl (t6_9))))))))))
     else bif decide (t6_9 < 1) then .inr (.inr (.inr (.inr (.inr (.inr (.inr (.inr (.inr (.inl (1))))))))))
      else .inr (.inr (.inr (.inr (.inr (.inr (.inr (.inr (.inr (.inl (t6_9))))))))))
    else .inr (.inr (.inr (.inr (.inr (.inr (.inr (.inr (.inr (.inr (0))))))))))
   else bif decide (t6_9 < 0) then .inr (.inr (.inr (.inr (.inr (.inr (.inr (.inr (.inr (.inl (0))))))))))
    else .inr (.inr (.inr (.inr (.inr (.inr (.inr (.inr (.inr (.inl (t6_9))))))))))
  else bif decide (t6_9 < 0) then .inr (.inr (.inr (.inr (.inr (.inr (.inr (.inr (.inr (.inl (0))))))))))
   else .inr (.inr (.inr (.inr (.inr (.inr (.inr (.inr (.inr (.inl (t6_9))))))))))
 else .inr (.inr (.inr (.inr (.inr (.inr (.inr (.inr (.inr (.inr (0))))))))))
noncomputable def one_S9 (s : ByteArray) (at' t6_9 : Int) : Prop :=
 ((decide (IntKind.i64.wrap (at' + 0) < ((slen s) : Int))) = true → ((decide (244 ≤ chr s (IntKind.i64.wrap (at' + 0)).toNat)) = true → ((decide (chr s (IntKind.i64.wrap (at' + 0)).toNat ≤ 244)) = true → ((decide (IntKind.i64.wrap (at' + 1) < ((slen s) : Int))) = true → ((decide (128 ≤ chr s (IntKind.i64.wrap (at' + 1)).toNat)) = true → ((decide (chr s (IntKind.i64.wrap (at' + 1)).toNat ≤ 143)) = true → ((decide (IntKind.i64.wrap (at' + 2) < ((slen s) : Int))) = true → ((decide (128 ≤ chr s (IntKind.i64.wrap (at' + 2)).toNat)) = true → ((decide (chr s (IntKind.i64.wrap (at' + 2)).toNat ≤ 191)) = true → ((decide (IntKind.i64.wrap (at' + 3) < ((slen s) : Int))) = true → ((decide (128 ≤ chr s (IntKind.i64.wrap (at' + 3)).toNat)) = true → ((decide (chr s (IntKind.i64.wrap (at' + 3)).toNat ≤ 191)) = true → (0 ≤ IntKind.i64.wrap (at' + 3)) ∧ (IntKind.i64.wrap (at' + 3) < ((slen s) : Int)) ∧ (0 ≤ IntKind.i64.wrap (at' + 2)) ∧ (IntKind.i64.wrap (at' + 2) < ((slen s) : Int)) ∧ (0 ≤ IntKind.i64.wrap (at' + 1)) ∧ (IntKind.i64.wrap (at' + 1) < ((slen s) : Int)) ∧ (0 ≤ IntKind.i64.wrap (at' + 0)) ∧ (IntKind.i64.wrap (at' + 0) < ((slen s) : Int))) ∧
            ((decide (chr s (IntKind.i64.wrap (at' + 3)).toNat ≤ 191)) = false → ((decide (t6_9 < 3)) = true → ((IntKind.i64.wrap (at' + 3) == ((slen s) : Int)) = false) ∧ (0 ≤ IntKind.i64.wrap (at' + 3)) ∧ (IntKind.i64.wrap (at' + 3) < ((slen s) : Int)) ∧ (0 ≤ IntKind.i64.wrap (at' + 2)) ∧ (IntKind.i64.wrap (at' + 2) < ((slen s) : Int)) ∧ (0 ≤ IntKind.i64.wrap (at' + 1)) ∧ (IntKind.i64.wrap (at' + 1) < ((slen s) : Int)) ∧ (0 ≤ IntKind.i64.wrap (at' + 0)) ∧ (IntKind.i64.wrap (at' + 0) < ((slen s) : Int))) ∧
             ((decide (t6_9 < 3)) = false → ((IntKind.i64.wrap (at' + 3) == ((slen s) : Int)) = false) ∧ (0 ≤ IntKind.i64.wrap (at' + 3)) ∧ (IntKind.i64.wrap (at' + 3) < ((slen s) : Int)) ∧ (0 ≤ IntKind.i64.wrap (at' + 2)) ∧ (IntKind.i64.wrap (at' + 2) < ((slen s) : Int)) ∧ (0 ≤ IntKind.i64.wrap (at' + 1)) ∧ (IntKind.i64.wrap (at' + 1) < ((slen s) : Int)) ∧ (0 ≤ IntKind.i64.wrap (at' + 0)) ∧ (IntKind.i64.wrap (at' + 0) < ((slen s) : Int))))) ∧
           ((decide (128 ≤ chr s (IntKind.i64.wrap (at' + 3)).toNat)) = false → ((decide (t6_9 < 3)) = true → ((IntKind.i64.wrap (at' + 3) == ((slen s) : Int)) = false) ∧ (0 ≤ IntKind.i64.wrap (at' + 3)) ∧ (IntKind.i64.wrap (at' + 3) < ((slen s) : Int)) ∧ (0 ≤ IntKind.i64.wrap (at' + 2)) ∧ (IntKind.i64.wrap (at' + 2) < ((slen s) : Int)) ∧ (0 ≤ IntKind.i64.wrap (at' + 1)) ∧ (IntKind.i64.wrap (at' + 1) < ((slen s) : Int)) ∧ (0 ≤ IntKind.i64.wrap (at' + 0)) ∧ (IntKind.i64.wrap (at' + 0) < ((slen s) : Int))) ∧
            ((decide (t6_9 < 3)) = false → ((IntKind.i64.wrap (at' + 3) == ((slen s) : Int)) = false) ∧ (0 ≤ IntKind.i64.wrap (at' + 3)) ∧ (IntKind.i64.wrap (at' + 3) < ((slen s) : Int)) ∧ (0 ≤ IntKind.i64.wrap (at' + 2)) ∧ (IntKind.i64.wrap (at' + 2) < ((slen s) : Int)) ∧ (0 ≤ IntKind.i64.wrap (at' + 1)) ∧ (IntKind.i64.wrap (at' + 1) < ((slen s) : Int)) ∧ (0 ≤ IntKind.i64.wrap (at' + 0)) ∧ (IntKind.i64.wrap (at' + 0) < ((slen s) : Int))))) ∧
          ((decide (IntKind.i64.wrap (at' + 3) < ((slen s) : Int))) = false → ((IntKind.i64.wrap (at' + 3) == ((slen s) : Int)) = true) ∧ (0 ≤ IntKind.i64.wrap (at' + 2)) ∧ (IntKind.i64.wrap (at' + 2) < ((slen s) : Int)) ∧ (0 ≤ IntKind.i64.wrap (at' + 1)) ∧ (IntKind.i64.wrap (at' + 1) < ((slen s) : Int)) ∧ (0 ≤ IntKind.i64.wrap (at' + 0)) ∧ (IntKind.i64.wrap (at' + 0) < ((slen s) : Int)))) ∧
         ((decide (chr s (IntKind.i64.wrap (at' + 2)).toNat ≤ 191)) = false → ((decide (t6_9 < 2)) = true → ((IntKind.i64.wrap (at' + 2) == ((slen s) : Int)) = false) ∧ (0 ≤ IntKind.i64.wrap (at' + 2)) ∧ (IntKind.i64.wrap (at' + 2) < ((slen s) : Int)) ∧ (0 ≤ IntKind.i64.wrap (at' + 1)) ∧ (IntKind.i64.wrap (at' + 1) < ((slen s) : Int)) ∧ (0 ≤ IntKind.i64.wrap (at' + 0)) ∧ (IntKind.i64.wrap (at' + 0) < ((slen s) : Int))) ∧
          ((decide (t6_9 < 2)) = false → ((IntKind.i64.wrap (at' + 2) == ((slen s) : Int)) = false) ∧ (0 ≤ IntKind.i64.wrap (at' + 2)) ∧ (IntKind.i64.wrap (at' + 2) < ((slen s) : Int)) ∧ (0 ≤ IntKind.i64.wrap (at' + 1)) ∧ (IntKind.i64.wrap (at' + 1) < ((slen s) : Int)) ∧ (0 ≤ IntKind.i64.wrap (at' + 0)) ∧ (IntKind.i64.wrap (at' + 0) < ((slen s) : Int))))) ∧
        ((decide (128 ≤ chr s (IntKind.i64.wrap (at' + 2)).toNat)) = false → ((decide (t6_9 < 2)) = true → ((IntKind.i64.wrap (at' + 2) == ((slen s) : Int)) = false) ∧ (0 ≤ IntKind.i64.wrap (at' + 2)) ∧ (IntKind.i64.wrap (at' + 2) < ((slen s) : Int)) ∧ (0 ≤ IntKind.i64.wrap (at' + 1)) ∧ (IntKind.i64.wrap (at' + 1) < ((slen s) : Int)) ∧ (0 ≤ IntKind.i64.wrap (at' + 0)) ∧ (IntKind.i64.wrap (at' + 0) < ((slen s) : Int))) ∧
         ((decide (t6_9 < 2)) = false → ((IntKind.i64.wrap (at' + 2) == ((slen s) : Int)) = false) ∧ (0 ≤ IntKind.i64.wrap (at' + 2)) ∧ (IntKind.i64.wrap (at' + 2) < ((slen s) : Int)) ∧ (0 ≤ IntKind.i64.wrap (at' + 1)) ∧ (IntKind.i64.wrap (at' + 1) < ((slen s) : Int)) ∧ (0 ≤ IntKind.i64.wrap (at' + 0)) ∧ (IntKind.i64.wrap (at' + 0) < ((slen s) : Int))))) ∧
       ((decide (IntKind.i64.wrap (at' + 2) < ((slen s) : Int))) = false → ((IntKind.i64.wrap (at' + 2) == ((slen s) : Int)) = true) ∧ (0 ≤ IntKind.i64.wrap (at' + 1)) ∧ (IntKind.i64.wrap (at' + 1) < ((slen s) : Int)) ∧ (0 ≤ IntKind.i64.wrap (at' + 0)) ∧ (IntKind.i64.wrap (at' + 0) < ((slen s) : Int)))) ∧
      ((decide (chr s (IntKind.i64.wrap (at' + 1)).toNat ≤ 143)) = false → ((decide (t6_9 < 1)) = true → ((IntKind.i64.wrap (at' + 1) == ((slen s) : Int)) = false) ∧ (0 ≤ IntKind.i64.wrap (at' + 1)) ∧ (IntKind.i64.wrap (at' + 1) < ((slen s) : Int)) ∧ (0 ≤ IntKind.i64.wrap (at' + 0)) ∧ (IntKind.i64.wrap (at' + 0) < ((slen s) : Int))) ∧
       ((decide (t6_9 < 1)) = false → ((IntKind.i64.wrap (at' + 1) == ((slen s) : Int)) = false) ∧ (0 ≤ IntKind.i64.wrap (at' + 1)) ∧ (IntKind.i64.wrap (at' + 1) < ((slen s) : Int)) ∧ (0 ≤ IntKind.i64.wrap (at' + 0)) ∧ (IntKind.i64.wrap (at' + 0) < ((slen s) : Int))))) ∧
     ((decide (128 ≤ chr s (IntKind.i64.wrap (at' + 1)).toNat)) = false → ((decide (t6_9 < 1)) = true → ((IntKind.i64.wrap (at' + 1) == ((slen s) : Int)) = false) ∧ (0 ≤ IntKind.i64.wrap (at' + 1)) ∧ (IntKind.i64.wrap (at' + 1) < ((slen s) : Int)) ∧ (0 ≤ IntKind.i64.wrap (at' + 0)) ∧ (IntKind.i64.wrap (at' + 0) < ((slen s) : Int))) ∧
      ((decide (t6_9 < 1)) = false → ((IntKind.i64.wrap (at' + 1) == ((slen s) : Int)) = false) ∧ (0 ≤ IntKind.i64.wrap (at' + 1)) ∧ (IntKind.i64.wrap (at' + 1) < ((slen s) : Int)) ∧ (0 ≤ IntKind.i64.wrap (at' + 0)) ∧ (IntKind.i64.wrap (at' + 0) < ((slen s) : Int))))) ∧
    ((decide (IntKind.i64.wrap (at' + 1) < ((slen s) : Int))) = false → ((IntKind.i64.wrap (at' + 1) == ((slen s) : Int)) = true) ∧ (0 ≤ IntKind.i64.wrap (at' + 0)) ∧ (IntKind.i64.wrap (at' + 0) < ((slen s) : Int)))) ∧
   ((decide (chr s (IntKind.i64.wrap (at' + 0)).toNat ≤ 244)) = false → ((decide (t6_9 < 0)) = true → ((IntKind.i64.wrap (at' + 0) == ((slen s) : Int)) = false) ∧ (0 ≤ IntKind.i64.wrap (at' + 0)) ∧ (IntKind.i64.wrap (at' + 0) < ((slen s) : Int))) ∧
    ((decide (t6_9 < 0)) = false → ((IntKind.i64.wrap (at' + 0) == ((slen s) : Int)) = false) ∧ (0 ≤ IntKind.i64.wrap (at' + 0)) ∧ (IntKind.i64.wrap (at' + 0) < ((slen s) : Int))))) ∧
  ((decide (244 ≤ chr s (IntKind.i64.wrap (at' + 0)).toNat)) = false → ((decide (t6_9 < 0)) = true → ((IntKind.i64.wrap (at' + 0) == ((slen s) : Int)) = false) ∧ (0 ≤ IntKind.i64.wrap (at' + 0)) ∧ (IntKind.i64.wrap (at' + 0) < ((slen s) : Int))) ∧
   ((decide (t6_9 < 0)) = false → ((IntKind.i64.wrap (at' + 0) == ((slen s) : Int)) = false) ∧ (0 ≤ IntKind.i64.wrap (at' + 0)) ∧ (IntKind.i64.wrap (at' + 0) < ((slen s) : Int))))) ∧
 ((decide (IntKind.i64.wrap (at' + 0) < ((slen s) : Int))) = false → (IntKind.i64.wrap (at' + 0) == ((slen s) : Int)) = true)
theorem one_ok9 (s : ByteArray) (at' t6_9 : Int) (hS : one_S9 s at' t6_9) : one_Q s at' (one_h9 s at' t6_9) (one_t9 s at' t6_9) := by
 unfold one_S9 at hS
 unfold one_t9
 refine cond_intro (P := one_Q s at' (one_h9 s at' t6_9)) _ (fun h2 => ?_) (fun h2 => ?_)
 ·skip
  refine cond_intro (P := one_Q s at' (one_h9 s at' t6_9)) _ (fun h3 => ?_) (fun h3 => ?_)
  ·skip
   refine cond_intro (P := one_Q s at' (one_h9 s at' t6_9)) _ (fun h4 => ?_) (fun h4 => ?_)
   ·skip
    refine cond_intro (P := one_Q s at' (one_h9 s at' t6_9)) _ (fun h6 => ?_) (fun h6 => ?_)
    ·skip
     refine cond_intro (P := one_Q s at' (one_h9 s at' t6_9)) _ (fun h7 => ?_) (fun h7 => ?_)
     ·skip
      refine cond_intro (P := one_Q s at' (one_h9 s at' t6_9)) _ (fun h8 => ?_) (fun h8 => ?_)
      ·skip
       refine cond_intro (P := one_Q s at' (one_h9 s at' t6_9)) _ (fun h10 => ?_) (fun h10 => ?_)
       ·skip
        refine cond_intro (P := one_Q s at' (one_h9 s at' t6_9)) _ (fun h11 => ?_) (fun h11 => ?_)
        ·skip
         refine cond_intro (P := one_Q s at' (one_h9 s at' t6_9)) _ (fun h12 => ?_) (fun h12 => ?_)
         ·skip
          refine cond_intro (P := one_Q s at' (one_h9 s at' t6_9)) _ (fun h14 => ?_) (fun h14 => ?_)
          ·skip
           refine cond_intro (P := one_Q s at' (one_h9 s at' t6_9)) _ (fun h15 => ?_) (fun h15 => ?_)
           ·skip
            refine cond_intro (P := one_Q s at' (one_h9 s at' t6_9)) _ (fun h16 => ?_) (fun h16 => ?_)
            ·skip
             have z0 := (((((((((((hS.1 h2).1 h3).1 h4).1 h6).1 h7).1 h8).1 h10).1 h11).1 h12).1 h14).1 h15).1 h16; exact ends_q KD_ok 2000 93 (bs 22 2228223) [] [4] [] (and8 (dT h16) (decide_eq_true z0.1) (decide_eq_true z0.2.1) (dT h15) (decide_eq_true z0.1) (decide_eq_true z0.2.1) (dT h14) (dT h12) (and8 (decide_eq_true z0.2.2.1) (decide_eq_true z0.2.2.2.1) (dT h11) (decide_eq_true z0.2.2.1) (decide_eq_true z0.2.2.2.1) (dT h10) (dT h8) (decide_eq_true z0.2.2.2.2.1) (and8 (decide_eq_true z0.2.2.2.2.2.1) (dT h7) (decide_eq_true z0.2.2.2.2.1) (decide_eq_true z0.2.2.2.2.2.1) (dT h6) (dT h4) (decide_eq_true z0.2.2.2.2.2.2.1) (decide_eq_true z0.2.2.2.2.2.2.2) (and4 (dT h3) (decide_eq_true z0.2.2.2.2.2.2.1) (decide_eq_true z0.2.2.2.2.2.2.2) (dT h2) rfl))))
            ·skip
             refine cond_intro (P := one_Q s at' (one_h9 s at' t6_9)) _ (fun h19 => ?_) (fun h19 => ?_)
             ·skip
              show Gets E 0 _ (one_h10 s at' (3))
              have z0 := ((((((((((((hS.1 h2).1 h3).1 h4).1 h6).1 h7).1 h8).1 h10).1 h11).1 h12).1 h14).1 h15).2 h16).1 h19; exact reach_q KD_ok 2000 106 (bs 20 589823) [] [] [0, 1, 2, 3, 4, 5, 6, 7, 8, 9] [0, 1, 5, 6, 7] [] [] [] (and8 (dT h19) (dF z0.1) (dF h16) (decide_eq_true z0.2.1) (decide_eq_true z0.2.2.1) (dT h15) (decide_eq_true z0.2.1) (decide_eq_true z0.2.2.1) (and8 (dT h14) (dT h12) (decide_eq_true z0.2.2.2.1) (decide_eq_true z0.2.2.2.2.1) (dT h11) (decide_eq_true z0.2.2.2.1) (decide_eq_true z0.2.2.2.2.1) (dT h10) (and8 (dT h8) (decide_eq_true z0.2.2.2.2.2.1) (decide_eq_true z0.2.2.2.2.2.2.1) (dT h7) (decide_eq_true z0.2.2.2.2.2.1) (decide_eq_true z0.2.2.2.2.2.2.1) (dT h6) (dT h4) (andI (decide_eq_true z0.2.2.2.2.2.2.2.1) (andI (decide_eq_true z0.2.2.2.2.2.2.2.2) (and4 (dT h3) (decide_eq_true z0.2.2.2.2.2.2.2.1) (decide_eq_true z0.2.2.2.2.2.2.2.2) (dT h2) rfl))))))
             ·skip
              show Gets E 0 _ (one_h10 s at' t6_9)
              have z0 := ((((((((((((hS.1 h2).1 h3).1 h4).1 h6).1 h7).1 h8).1 h10).1 h11).1 h12).1 h14).1 h15).2 h16).2 h19; exact reach_q KD_ok 2000 103 (bs 20 65535) [] [] [0, 1, 2, 3, 4, 5, 6, 7, 8, 9] [0, 1, 5, 6, 7] [] [] [] (and8 (dF h19) (dF z0.1) (dF h16) (decide_eq_true z0.2.1) (decide_eq_true z0.2.2.1) (dT h15) (decide_eq_true z0.2.1) (decide_eq_true z0.2.2.1) (and8 (dT h14) (dT h12) (decide_eq_true z0.2.2.2.1) (decide_eq_true z0.2.2.2.2.1) (dT h11) (decide_eq_true z0.2.2.2.1) (decide_eq_true z0.2.2.2.2.1) (dT h10) (and8 (dT h8) (decide_eq_true z0.2.2.2.2.2.1) (decide_eq_true z0.2.2.2.2.2.2.1) (dT h7) (decide_eq_true z0.2.2.2.2.2.1) (decide_eq_true z0.2.2.2.2.2.2.1) (dT h6) (dT h4) (andI (decide_eq_true z0.2.2.2.2.2.2.2.1) (andI (decide_eq_true z0.2.2.2.2.2.2.2.2) (and4 (dT h3) (decide_eq_true z0.2.2.2.2.2.2.2.1) (decide_eq_true z0.2.2.2.2.2.2.2.2) (dT h2) rfl))))))
           ·skip
            refine cond_intro (P := one_Q s at' (one_h9 s at' t6_9)) _ (fun h19 => ?_) (fun h19 => ?_)
            ·skip
             show Gets E 0 _ (one_h10 s at' (3))
             have z0 := (((((((((((hS.1 h2).1 h3).1 h4).1 h6).1 h7).1 h8).1 h10).1 h11).1 h12).1 h14).2 h15).1 h19; exact reach_q KD_ok 2000 106 (bs 20 557055) [] [] [0, 1, 2, 3, 4, 5, 6, 7, 8, 9] [0, 1, 5, 6, 7] [] [] [] (and8 (dT h19) (dF z0.1) (dF h15) (decide_eq_true z0.2.1) (decide_eq_true z0.2.2.1) (dT h14) (dT h12) (decide_eq_true z0.2.2.2.1) (and8 (decide_eq_true z0.2.2.2.2.1) (dT h11) (decide_eq_true z0.2.2.2.1) (decide_eq_true z0.2.2.2.2.1) (dT h10) (dT h8) (decide_eq_true z0.2.2.2.2.2.1) (decide_eq_true z0.2.2.2.2.2.2.1) (and8 (dT h7) (decide_eq_true z0.2.2.2.2.2.1) (decide_eq_true z0.2.2.2.2.2.2.1) (dT h6) (dT h4) (decide_eq_true z0.2.2.2.2.2.2.2.1) (decide_eq_true z0.2.2.2.2.2.2.2.2) (dT h3) (andI (decide_eq_true z0.2.2.2.2.2.2.2.1) (andI (decide_eq_true z0.2.2.2.2.2.2.2.2) (andI (dT h2) rfl))))))
            ·skip
             show Gets E 0 _ (one_h10 s at' t6_9)
             have z0 := (((((((((((hS.1 h2).1 h3).1 h4).1 h6).1 h7).1 h8).1 h10).1 h11).1 h12).1 h14).2 h15).2 h19; exact reach_q KD_ok 2000 103 (bs 20 32767) [] [] [0, 1, 2, 3, 4, 5, 6, 7, 8, 9] [0, 1, 5, 6, 7] [] [] [] (and8 (dF h19) (dF z0.1) (dF h15) (decide_eq_true z0.2.1) (decide_eq_true z0.2.2.1) (dT h14) (dT h12) (decide_eq_true z0.2.2.2.1) (and8 (decide_eq_true z0.2.2.2.2.1) (dT h11) (decide_eq_true z0.2.2.2.1) (decide_eq_true z0.2.2.2.2.1) (dT h10) (dT h8) (decide_eq_true z0.2.2.2.2.2.1) (decide_eq_true z0.2.2.2.2.2.2.1) (and8 (dT h7) (decide_eq_true z0.2.2.2.2.2.1) (decide_eq_true z0.2.2.2.2.2.2.1) (dT h6) (dT h4) (decide_eq_true z0.2.2.2.2.2.2.2.1) (decide_eq_true z0.2.2.2.2.2.2.2.2) (dT h3) (andI (decide_eq_true z0.2.2.2.2.2.2.2.1) (andI (decide_eq_true z0.2.2.2.2.2.2.2.2) (andI (dT h2) rfl))))))
          ·skip
           have z0 := (((((((((hS.1 h2).1 h3).1 h4).1 h6).1 h7).1 h8).1 h10).1 h11).1 h12).2 h14; exact ends_q KD_ok 2000 91 (bs 19 278527) [] [4] [] (and8 (dT z0.1) (dF h14) (dT h12) (decide_eq_true z0.2.1) (decide_eq_true z0.2.2.1) (dT h11) (decide_eq_true z0.2.1) (decide_eq_true z0.2.2.1) (and8 (dT h10) (dT h8) (decide_eq_true z0.2.2.2.1) (decide_eq_true z0.2.2.2.2.1) (dT h7) (decide_eq_true z0.2.2.2.1) (decide_eq_true z0.2.2.2.2.1) (dT h6) (andI (dT h4) (andI (decide_eq_true z0.2.2.2.2.2.1) (andI (decide_eq_true z0.2.2.2.2.2.2) (and4 (dT h3) (decide_eq_true z0.2.2.2.2.2.1) (decide_eq_true z0.2.2.2.2.2.2) (dT h2) rfl))))))
         ·skip
          refine cond_intro (P := one_Q s at' (one_h9 s at' t6_9)) _ (fun h15 => ?_) (fun h15 => ?_)
          ·skip
           show Gets E 0 _ (one_h10 s at' (2))
           have z0 := (((((((((hS.1 h2).1 h3).1 h4).1 h6).1 h7).1 h8).1 h10).1 h11).2 h12).1 h15; exact reach_q KD_ok 2000 93 (bs 16 36863) [] [] [0, 1, 2, 3, 4, 5, 6, 7, 8, 9] [0, 1, 5, 6, 7] [] [] [] (and8 (dT h15) (dF z0.1) (dF h12) (decide_eq_true z0.2.1) (decide_eq_true z0.2.2.1) (dT h11) (decide_eq_true z0.2.1) (decide_eq_true z0.2.2.1) (and8 (dT h10) (dT h8) (decide_eq_true z0.2.2.2.1) (decide_eq_true z0.2.2.2.2.1) (dT h7) (decide_eq_true z0.2.2.2.1) (decide_eq_true z0.2.2.2.2.1) (dT h6) (andI (dT h4) (andI (decide_eq_true z0.2.2.2.2.2.1) (andI (decide_eq_true z0.2.2.2.2.2.2) (and4 (dT h3) (decide_eq_true z0.2.2.2.2.2.1) (decide_eq_true z0.2.2.2.2.2.2) (dT h2) rfl))))))
          ·skip
           show Gets E 0 _ (one_h10 s at' t6_9)
           have z0 := (((((((((hS.1 h2).1 h3).1 h4).1 h6).1 h7).1 h8).1 h10).1 h11).2 h12).2 h15; exact reach_q KD_ok 2000 90 (bs 16 4095) [] [] [0, 1, 2, 3, 4, 5, 6, 7, 8, 9] [0, 1, 5, 6, 7] [] [] [] (and8 (dF h15) (dF z0.1) (dF h12) (decide_eq_true z0.2.1) (decide_eq_true z0.2.2.1) (dT h11) (decide_eq_true z0.2.1) (decide_eq_true z0.2.2.1) (and8 (dT h10) (dT h8) (decide_eq_true z0.2.2.2.1) (decide_eq_true z0.2.2.2.2.1) (dT h7) (decide_eq_true z0.2.2.2.1) (decide_eq_true z0.2.2.2.2.1) (dT h6) (andI (dT h4) (andI (decide_eq_true z0.2.2.2.2.2.1) (andI (decide_eq_true z0.2.2.2.2.2.2) (and4 (dT h3) (decide_eq_true z0.2.2.2.2.2.1) (decide_eq_true z0.2.2.2.2.2.2) (dT h2) rfl))))))
        ·skip
         refine cond_intro (P := one_Q s at' (one_h9 s at' t6_9)) _ (fun h15 => ?_) (fun h15 => ?_)
         ·skip
          show Gets E 0 _ (one_h10 s at' (2))
          have z0 := ((((((((hS.1 h2).1 h3).1 h4).1 h6).1 h7).1 h8).1 h10).2 h11).1 h15; exact reach_q KD_ok 2000 93 (bs 16 34815) [] [] [0, 1, 2, 3, 4, 5, 6, 7, 8, 9] [0, 1, 5, 6, 7] [] [] [] (and8 (dT h15) (dF z0.1) (dF h11) (decide_eq_true z0.2.1) (decide_eq_true z0.2.2.1) (dT h10) (dT h8) (decide_eq_true z0.2.2.2.1) (and8 (decide_eq_true z0.2.2.2.2.1) (dT h7) (decide_eq_true z0.2.2.2.1) (decide_eq_true z0.2.2.2.2.1) (dT h6) (dT h4) (decide_eq_true z0.2.2.2.2.2.1) (decide_eq_true z0.2.2.2.2.2.2) (and4 (dT h3) (decide_eq_true z0.2.2.2.2.2.1) (decide_eq_true z0.2.2.2.2.2.2) (dT h2) rfl)))
         ·skip
          show Gets E 0 _ (one_h10 s at' t6_9)
          have z0 := ((((((((hS.1 h2).1 h3).1 h4).1 h6).1 h7).1 h8).1 h10).2 h11).2 h15; exact reach_q KD_ok 2000 90 (bs 16 2047) [] [] [0, 1, 2, 3, 4, 5, 6, 7, 8, 9] [0, 1, 5, 6, 7] [] [] [] (and8 (dF h15) (dF z0.1) (dF h11) (decide_eq_true z0.2.1) (decide_eq_true z0.2.2.1) (dT h10) (dT h8) (decide_eq_true z0.2.2.2.1) (and8 (decide_eq_true z0.2.2.2.2.1) (dT h7) (decide_eq_true z0.2.2.2.1) (decide_eq_true z0.2.2.2.2.1) (dT h6) (dT h4) (decide_eq_true z0.2.2.2.2.2.1) (decide_eq_true z0.2.2.2.2.2.2) (and4 (dT h3) (decide_eq_true z0.2.2.2.2.2.1) (decide_eq_true z0.2.2.2.2.2.2) (dT h2) rfl)))
       ·skip
        have z0 := ((((((hS.1 h2).1 h3).1 h4).1 h6).1 h7).1 h8).2 h10; exact ends_q KD_ok 2000 78 (bs 15 17407) [] [4] [] (and8 (dT z0.1) (dF h10) (dT h8) (decide_eq_true z0.2.1) (decide_eq_true z0.2.2.1) (dT h7) (decide_eq_true z0.2.1) (decide_eq_true z0.2.2.1) (and8 (dT h6) (dT h4) (decide_eq_true z0.2.2.2.1) (decide_eq_true z0.2.2.2.2) (dT h3) (decide_eq_true z0.2.2.2.1) (decide_eq_true z0.2.2.2.2) (dT h2) rfl))
      ·skip
       refine cond_intro (P := one_Q s at' (one_h9 s at' t6_9)) _ (fun h11 => ?_) (fun h11 => ?_)
       ·skip
        show Gets E 0 _ (one_h10 s at' (1))
        have z0 := ((((((hS.1 h2).1 h3).1 h4).1 h6).1 h7).2 h8).1 h11; exact reach_q KD_ok 2000 80 (bs 12 2303) [] [] [0, 1, 2, 3, 4, 5, 6, 7, 8, 9] [0, 1, 5, 6, 7] [] [] [] (and8 (dT h11) (dF z0.1) (dF h8) (decide_eq_true z0.2.1) (decide_eq_true z0.2.2.1) (dT h7) (decide_eq_true z0.2.1) (decide_eq_true z0.2.2.1) (and8 (dT h6) (dT h4) (decide_eq_true z0.2.2.2.1) (decide_eq_true z0.2.2.2.2) (dT h3) (decide_eq_true z0.2.2.2.1) (decide_eq_true z0.2.2.2.2) (dT h2) rfl))
       ·skip
        show Gets E 0 _ (one_h10 s at' t6_9)
        have z0 := ((((((hS.1 h2).1 h3).1 h4).1 h6).1 h7).2 h8).2 h11; exact reach_q KD_ok 2000 77 (bs 12 255) [] [] [0, 1, 2, 3, 4, 5, 6, 7, 8, 9] [0, 1, 5, 6, 7] [] [] [] (and8 (dF h11) (dF z0.1) (dF h8) (decide_eq_true z0.2.1) (decide_eq_true z0.2.2.1) (dT h7) (decide_eq_true z0.2.1) (decide_eq_true z0.2.2.1) (and8 (dT h6) (dT h4) (decide_eq_true z0.2.2.2.1) (decide_eq_true z0.2.2.2.2) (dT h3) (decide_eq_true z0.2.2.2.1) (decide_eq_true z0.2.2.2.2) (dT h2) rfl))
     ·skip
      refine cond_intro (P := one_Q s at' (one_h9 s at' t6_9)) _ (fun h11 => ?_) (fun h11 => ?_)
      ·skip
       show Gets E 0 _ (one_h10 s at' (1))
       have z0 := (((((hS.1 h2).1 h3).1 h4).1 h6).2 h7).1 h11; exact reach_q KD_ok 2000 80 (bs 12 2175) [] [] [0, 1, 2, 3, 4, 5, 6, 7, 8, 9] [0, 1, 5, 6, 7] [] [] [] (and8 (dT h11) (dF z0.1) (dF h7) (decide_eq_true z0.2.1) (decide_eq_true z0.2.2.1) (dT h6) (dT h4) (decide_eq_true z0.2.2.2.1) (andI (decide_eq_true z0.2.2.2.2) (and4 (dT h3) (decide_eq_true z0.2.2.2.1) (decide_eq_true z0.2.2.2.2) (dT h2) rfl)))
      ·skip
       show Gets E 0 _ (one_h10 s at' t6_9)
       have z0 := (((((hS.1 h2).1 h3).1 h4).1 h6).2 h7).2 h11; exact reach_q KD_ok 2000 77 (bs 12 127) [] [] [0, 1, 2, 3, 4, 5, 6, 7, 8, 9] [0, 1, 5, 6, 7] [] [] [] (and8 (dF h11) (dF z0.1) (dF h7) (decide_eq_true z0.2.1) (decide_eq_true z0.2.2.1) (dT h6) (dT h4) (decide_eq_true z0.2.2.2.1) (andI (decide_eq_true z0.2.2.2.2) (and4 (dT h3) (decide_eq_true z0.2.2.2.1) (decide_eq_true z0.2.2.2.2) (dT h2) rfl)))
    ·skip
     have z0 := (((hS.1 h2).1 h3).1 h4).2 h6; exact ends_q KD_ok 2000 65 (bs 11 1087) [] [4] [] (and8 (dT z0.1) (dF h6) (dT h4) (decide_eq_true z0.2.1) (decide_eq_true z0.2.2) (dT h3) (decide_eq_true z0.2.1) (decide_eq_true z0.2.2) (andI (dT h2) rfl))
   ·skip
    refine cond_intro (P := one_Q s at' (one_h9 s at' t6_9)) _ (fun h7 => ?_) (fun h7 => ?_)
    ·skip
     show Gets E 0 _ (one_h10 s at' (0))
     have z0 := (((hS.1 h2).1 h3).2 h4).1 h7; exact reach_q KD_ok 2000 67 (bs 8 143) [] [] [0, 1, 2, 3, 4, 5, 6, 7, 8, 9] [0, 1, 5, 6, 7] [] [] [] (and8 (dT h7) (dF z0.1) (dF h4) (decide_eq_true z0.2.1) (decide_eq_true z0.2.2) (dT h3) (decide_eq_true z0.2.1) (decide_eq_true z0.2.2) (andI (dT h2) rfl))
    ·skip
     show Gets E 0 _ (one_h10 s at' t6_9)
     have z0 := (((hS.1 h2).1 h3).2 h4).2 h7; exact reach_q KD_ok 2000 64 (bs 8 15) [] [] [0, 1, 2, 3, 4, 5, 6, 7, 8, 9] [0, 1, 5, 6, 7] [] [] [] (and8 (dF h7) (dF z0.1) (dF h4) (decide_eq_true z0.2.1) (decide_eq_true z0.2.2) (dT h3) (decide_eq_true z0.2.1) (decide_eq_true z0.2.2) (andI (dT h2) rfl))
  ·skip
   refine cond_intro (P := one_Q s at' (one_h9 s at' t6_9)) _ (fun h7 => ?_) (fun h7 => ?_)
   ·skip
    show Gets E 0 _ (one_h10 s at' (0))
    have z0 := ((hS.1 h2).2 h3).1 h7; exact reach_q KD_ok 2000 67 (bs 8 135) [] [] [0, 1, 2, 3, 4, 5, 6, 7, 8, 9] [0, 1, 5, 6, 7] [] [] [] (andI (dT h7) (andI (dF z0.1) (and4 (dF h3) (decide_eq_true z0.2.1) (decide_eq_true z0.2.2) (dT h2) rfl)))
   ·skip
    show Gets E 0 _ (one_h10 s at' t6_9)
    have z0 := ((hS.1 h2).2 h3).2 h7; exact reach_q KD_ok 2000 64 (bs 8 7) [] [] [0, 1, 2, 3, 4, 5, 6, 7, 8, 9] [0, 1, 5, 6, 7] [] [] [] (andI (dF h7) (andI (dF z0.1) (and4 (dF h3) (decide_eq_true z0.2.1) (decide_eq_true z0.2.2) (dT h2) rfl)))
 ·skip
  exact ends_q KD_ok 2000 52 (bs 7 67) [] [4] [] (andI (dT (hS.2 h2)) (andI (dF h2) rfl))
noncomputable def one_t10 (s : ByteArray) (at' t6_10 : Int) : one_R :=
 .inr (.inr (.inr (.inr (.inr (.inr (.inr (.inr (.inr (.inr (IntKind.i64.wrap (-1 - t6_10)))))))))))
noncomputable def one_S10 (s : ByteArray) (at' t6_10 : Int) : Prop :=
 True
theorem one_ok10 (s : ByteArray) (at' t6_10 : Int) (hS : one_S10 s at' t6_10) : one_Q s at' (one_h10 s at' t6_10) (one_t10 s at' t6_10) := by
 unfold one_S10 at hS
 unfold one_t10
 exact ends_q KD_ok 2000 16 (bs 1 0) [] [4] [] (rfl)


end Go.Proofs.Ytfpnjpbdaniomaa
