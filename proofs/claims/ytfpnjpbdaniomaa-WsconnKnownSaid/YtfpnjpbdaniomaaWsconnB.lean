/-
  The examples, one after the other: closed runs from each to the next.
-/
import Derived.Test.YtfpnjpbdaniomaaWsconnA
set_option linter.unusedVariables false
open Go Go.Am
namespace Go.Proofs.Ytfpnjpbdaniomaa

noncomputable def goodWakes : Bool :=
  match callRun EP (xrun EP noK 100000) none 9 [] [] with
  | some (ok, _, .bool b, _) => ok.all id && b
  | _ => false
theorem wakes_good : goodWakes = true := by kernel_rfl
theorem wakes_call (H : Heap) : CallOk EP 9 [] H (.bool true) H := by
  have h := wakes_good
  unfold goodWakes at h
  split at h
  · rename_i ok orc b H' hr
    simp only [Bool.and_eq_true] at h
    obtain ⟨h1, rfl⟩ := h
    exact callOk_pure (callRun_sound (xrun_sound noK_ok _) _ _ _ _ _ _ _ _ hr (AllT.of_all h1)) rfl rfl H
  · cases h
def wakes_k : Ct := fun args H =>
  match args with
  | [] => some ([], .bool true, H)
  | _ => none
theorem wakes_k_ok : KFor EP 9 wakes_k := by
  intro args H ok v H' h hok
  unfold wakes_k at h
  split at h
  · cases h; exact wakes_call H
  · cases h

noncomputable def KF : Ctr := ctrOf EP [(9, anyA, wakes_k), (13, anyA, frame_k), (25, anyA, bytes_k)]
theorem KF_ok : KOk EP KF := ctr_cons wakes_k_ok (ctr_cons frame_k_ok (ctr_cons bytes_k_ok ctr_nil))

/-- The rows of the examples, the loop's number. -/
noncomputable def known_b1 : Cfg := reCfg (cfgOf (goNil EP KF 2000 33 (some []) [] [] [1] [5, 6] [] [] [] (startC EP 8 ([]) ([])))) (tmL 8 [(5, Value.slice (some { block := 0, off := 0 }) 19 19), (6, Value.int IntKind.i64 0)]) [some (Ob.cells [Value.string { data := #[129, 134, 1, 2, 3, 4, 96, 96, 96, 96, 100, 100] }, Value.int IntKind.i64 4, Value.int IntKind.i64 0, Value.int IntKind.i64 1009, Value.string { data := #[] }, Value.string { data := #[129, 1, 97] }, Value.int IntKind.i64 4, Value.int IntKind.i64 0, Value.int IntKind.i64 1002, Value.string { data := #[] }, Value.string { data := #[145, 128, 0, 0, 0, 0] }, Value.int IntKind.i64 4, Value.int IntKind.i64 0, Value.int IntKind.i64 1002, Value.string { data := #[] }, Value.string { data := #[131, 128, 1, 2, 3, 4] }, Value.int IntKind.i64 4, Value.int IntKind.i64 0, Value.int IntKind.i64 1002, Value.string { data := #[] }, Value.string { data := #[129, 254, 0, 1, 1, 2, 3, 4, 97] }, Value.int IntKind.i64 4, Value.int IntKind.i64 0, Value.int IntKind.i64 1002, Value.string { data := #[] }, Value.string { data := #[9, 128, 1, 2, 3, 4] }, Value.int IntKind.i64 4, Value.int IntKind.i64 0, Value.int IntKind.i64 1002, Value.string { data := #[] }, Value.string { data := #[137, 254, 0, 126, 1, 2, 3, 4, 1, 2, 3, 4, 1, 2, 3, 4, 1, 2, 3, 4, 1, 2, 3, 4, 1, 2, 3, 4, 1, 2, 3, 4, 1, 2, 3, 4, 1, 2, 3, 4, 1, 2, 3, 4, 1, 2, 3, 4, 1, 2, 3, 4, 1, 2, 3, 4, 1, 2, 3, 4, 1, 2, 3, 4, 1, 2, 3, 4, 1, 2, 3, 4, 1, 2, 3, 4, 1, 2, 3, 4, 1, 2, 3, 4, 1, 2, 3, 4, 1, 2, 3, 4, 1, 2, 3, 4, 1, 2, 3, 4, 1, 2, 3, 4, 1, 2, 3, 4, 1, 2, 3, 4, 1, 2, 3, 4, 1, 2, 3, 4, 1, 2, 3, 4, 1, 2, 3, 4, 1, 2, 3, 4, 1, 2] }, Value.int IntKind.i64 4, Value.int IntKind.i64 0, Value.int IntKind.i64 1002, Value.string { data := #[] }, Value.string { data := #[128, 128, 1, 2, 3, 4] }, Value.int IntKind.i64 4, Value.int IntKind.i64 0, Value.int IntKind.i64 1002, Value.string { data := #[] }, Value.string (cat { data := #[1, 129, 1, 2, 3, 4, 96] } { data := #[129, 129, 1, 2, 3, 4, 99] }), Value.int IntKind.i64 4, Value.int IntKind.i64 0, Value.int IntKind.i64 1002, Value.string { data := #[] }, Value.string { data := #[129, 130, 1, 2, 3, 4, 96, 253] }, Value.int IntKind.i64 4, Value.int IntKind.i64 0, Value.int IntKind.i64 1007, Value.string { data := #[] }, Value.string { data := #[129, 129, 1, 2, 3, 4, 194] }, Value.int IntKind.i64 4, Value.int IntKind.i64 0, Value.int IntKind.i64 1007, Value.string { data := #[] }, Value.string (cat { data := #[1, 131, 1, 2, 3, 4, 96, 96, 96] } { data := #[128, 131, 1, 2, 3, 4, 96, 96, 96] }), Value.int IntKind.i64 4, Value.int IntKind.i64 0, Value.int IntKind.i64 1009, Value.string { data := #[] }, Value.string { data := #[136, 129, 1, 2, 3, 4, 2] }, Value.int IntKind.i64 4, Value.int IntKind.i64 0, Value.int IntKind.i64 1002, Value.string { data := #[] }, Value.string { data := #[136, 130, 1, 2, 3, 4, 2, 239] }, Value.int IntKind.i64 4, Value.int IntKind.i64 0, Value.int IntKind.i64 1002, Value.string { data := #[] }, Value.string { data := #[136, 131, 1, 2, 3, 4, 2, 234, 252] }, Value.int IntKind.i64 4, Value.int IntKind.i64 0, Value.int IntKind.i64 1007, Value.string { data := #[] }, Value.string { data := #[136, 128, 1, 2, 3, 4] }, Value.int IntKind.i64 3, Value.int IntKind.i64 0, Value.int IntKind.i64 1005, Value.string { data := #[] }, Value.string { data := #[136, 133, 1, 2, 3, 4, 2, 234, 97, 125, 100] }, Value.int IntKind.i64 3, Value.int IntKind.i64 0, Value.int IntKind.i64 1000, Value.string { data := #[] }, Value.string (cat { data := #[138, 129, 1, 2, 3, 4, 121] } { data := #[130, 129, 1, 2, 3, 4, 254] }), Value.int IntKind.i64 1, Value.int IntKind.i64 2, Value.int IntKind.i64 0, Value.string { data := #[255] }, Value.string { data := #[129, 128, 1, 2, 3, 4] }, Value.int IntKind.i64 1, Value.int IntKind.i64 1, Value.int IntKind.i64 0, Value.string { data := #[] }] 77 none)]
noncomputable def known_h1 : Cfg := known_b1
theorem known_p0_0 : goNilB EP KF 2000 33 (some []) [] [] [1] [5, 6] [] [] [] (startC EP 8 ([]) ([])) = some (true, known_h1 ) := by kernel_rfl
theorem known_w0_0 : Gets EP 0 (startC EP 8 ([]) ([])) (known_h1 ) := by
  exact reach_gb KF_ok (known_p0_0) (rfl) (Nat.le_of_ble_eq_true (by kernel_rfl)) (fun i hi => absurd hi (Nat.not_lt_zero _)) (fun i hi => absurd hi (Nat.not_lt_zero _)) (Nat.le_of_ble_eq_true (by kernel_rfl))
noncomputable def hd (i : Int) : Cfg := wTmp 6 (.int .i64 i) known_b1
end Go.Proofs.Ytfpnjpbdaniomaa
