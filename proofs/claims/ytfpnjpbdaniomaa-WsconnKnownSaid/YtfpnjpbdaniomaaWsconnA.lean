/-
  The frames of the examples: what Frame hands back, as a contract: closed runs, carried out by Lean's kernel.
-/
import Derived.Test.YtfpnjpbdaniomaaEnv
import Derived.Test.YtfpnjpbdaniomaaAmSlim
import Derived.KernelRfl
set_option linter.unusedVariables false
open Go Go.Am
namespace Go.Proofs.Ytfpnjpbdaniomaa

noncomputable def EP : Env := { E with pureF := fun f => Nat.beq f 13 }
/-- last, op, data, the frame's bytes -/
def tab : List (Bool × Int × ByteArray × ByteArray) := [(true, 1, ⟨#[97, 98, 99, 100, 101, 102]⟩, ⟨#[129, 134, 1, 2, 3, 4, 96, 96, 96, 96, 100, 100]⟩), (true, 3, ⟨#[]⟩, ⟨#[131, 128, 1, 2, 3, 4]⟩), (false, 9, ⟨#[]⟩, ⟨#[9, 128, 1, 2, 3, 4]⟩), (true, 9, ⟨#[0, 0, 0, 0, 0, 0, 0, 0, 0, 0, 0, 0, 0, 0, 0, 0, 0, 0, 0, 0, 0, 0, 0, 0, 0, 0, 0, 0, 0, 0, 0, 0, 0, 0, 0, 0, 0, 0, 0, 0, 0, 0, 0, 0, 0, 0, 0, 0, 0, 0, 0, 0, 0, 0, 0, 0, 0, 0, 0, 0, 0, 0, 0, 0, 0, 0, 0, 0, 0, 0, 0, 0, 0, 0, 0, 0, 0, 0, 0, 0, 0, 0, 0, 0, 0, 0, 0, 0, 0, 0, 0, 0, 0, 0, 0, 0, 0, 0, 0, 0, 0, 0, 0, 0, 0, 0, 0, 0, 0, 0, 0, 0, 0, 0, 0, 0, 0, 0, 0, 0, 0, 0, 0, 0, 0, 0]⟩, ⟨#[137, 254, 0, 126, 1, 2, 3, 4, 1, 2, 3, 4, 1, 2, 3, 4, 1, 2, 3, 4, 1, 2, 3, 4, 1, 2, 3, 4, 1, 2, 3, 4, 1, 2, 3, 4, 1, 2, 3, 4, 1, 2, 3, 4, 1, 2, 3, 4, 1, 2, 3, 4, 1, 2, 3, 4, 1, 2, 3, 4, 1, 2, 3, 4, 1, 2, 3, 4, 1, 2, 3, 4, 1, 2, 3, 4, 1, 2, 3, 4, 1, 2, 3, 4, 1, 2, 3, 4, 1, 2, 3, 4, 1, 2, 3, 4, 1, 2, 3, 4, 1, 2, 3, 4, 1, 2, 3, 4, 1, 2, 3, 4, 1, 2, 3, 4, 1, 2, 3, 4, 1, 2, 3, 4, 1, 2, 3, 4, 1, 2, 3, 4, 1, 2]⟩), (true, 0, ⟨#[]⟩, ⟨#[128, 128, 1, 2, 3, 4]⟩), (false, 1, ⟨#[97]⟩, ⟨#[1, 129, 1, 2, 3, 4, 96]⟩), (true, 1, ⟨#[98]⟩, ⟨#[129, 129, 1, 2, 3, 4, 99]⟩), (true, 1, ⟨#[97, 255]⟩, ⟨#[129, 130, 1, 2, 3, 4, 96, 253]⟩), (true, 1, ⟨#[195]⟩, ⟨#[129, 129, 1, 2, 3, 4, 194]⟩), (false, 1, ⟨#[97, 98, 99]⟩, ⟨#[1, 131, 1, 2, 3, 4, 96, 96, 96]⟩), (true, 0, ⟨#[97, 98, 99]⟩, ⟨#[128, 131, 1, 2, 3, 4, 96, 96, 96]⟩), (true, 8, ⟨#[3]⟩, ⟨#[136, 129, 1, 2, 3, 4, 2]⟩), (true, 8, ⟨#[3, 237]⟩, ⟨#[136, 130, 1, 2, 3, 4, 2, 239]⟩), (true, 8, ⟨#[3, 232, 255]⟩, ⟨#[136, 131, 1, 2, 3, 4, 2, 234, 252]⟩), (true, 8, ⟨#[]⟩, ⟨#[136, 128, 1, 2, 3, 4]⟩), (true, 8, ⟨#[3, 232, 98, 121, 101]⟩, ⟨#[136, 133, 1, 2, 3, 4, 2, 234, 97, 125, 100]⟩), (true, 10, ⟨#[120]⟩, ⟨#[138, 129, 1, 2, 3, 4, 121]⟩), (true, 2, ⟨#[255]⟩, ⟨#[130, 129, 1, 2, 3, 4, 254]⟩), (true, 1, ⟨#[]⟩, ⟨#[129, 128, 1, 2, 3, 4]⟩), (true, 1, ⟨#[97, 98, 99, 100, 101, 102, 103, 104]⟩, ⟨#[129, 136, 1, 2, 3, 4, 96, 96, 96, 96, 100, 100, 100, 108]⟩), (true, 0, ⟨#[255]⟩, ⟨#[128, 129, 1, 2, 3, 4, 254]⟩), (true, 9, ⟨#[120]⟩, ⟨#[137, 129, 1, 2, 3, 4, 121]⟩)]
noncomputable def goodFrame (e : Bool × Int × ByteArray × ByteArray) : Bool :=
  match callRun EP (xrun EP noK 100000) none 13 [.bool e.1, .int .i64 e.2.1, .string e.2.2.1] [] with
  | some (ok, _, .string r, _) => ok.all id && (toL r == toL e.2.2.2)
  | _ => false
theorem goodFrame_ok {e : Bool × Int × ByteArray × ByteArray} (h : goodFrame e = true) (H : Heap) : CallOk EP 13 [.bool e.1, .int .i64 e.2.1, .string e.2.2.1] H (.string e.2.2.2) H := by
  unfold goodFrame at h
  split at h
  · rename_i ok orc r H' hr
    simp only [Bool.and_eq_true] at h
    have e1 := toL_inj (eq_of_beq h.2)
    subst e1
    exact callOk_pure (callRun_sound (xrun_sound noK_ok _) _ _ _ _ _ _ _ _ hr (AllT.of_all h.1)) rfl rfl H
  · cases h
theorem tab_good : tab.all goodFrame = true := by kernel_rfl
def isEntry (f : Bool) (o : Int) (d : ByteArray) (e : Bool × Int × ByteArray × ByteArray) : Bool := e.1 == f && (e.2.1 == o && toL e.2.2.1 == toL d)
def frame_k : Ct := fun args H =>
  match args with
  | [.bool f, .int .i64 o, .string d] => match tab.find? (isEntry f o d) with
    | some e => some ([], .string e.2.2.2, H)
    | none => none
  | _ => none
theorem frame_k_ok : KFor EP 13 frame_k := by
  intro args H ok v H' h hok
  unfold frame_k at h
  split at h
  · rename_i f o d
    split at h
    · rename_i e he
      cases h
      have h1 := List.find?_some he
      have h2 := List.mem_of_find?_eq_some he
      unfold isEntry at h1
      simp only [Bool.and_eq_true] at h1
      have e1 := eq_of_beq h1.1
      have e2 := eq_of_beq h1.2.1
      have e3 := toL_inj (eq_of_beq h1.2.2)
      subst e1 e2 e3
      exact goodFrame_ok (List.all_eq_true.1 tab_good e h2) H
    · cases h
  · cases h
/-- The two frames that are not masked, or have a bit that may not be. -/
def frA (rsv : Int) (m : Bool) (d : ByteArray) : List Value := [.agg #[.bool true, .int .i64 rsv, .int .i64 1, .bool m, .int .u8 0, .int .u8 0, .int .u8 0, .int .u8 0, .string d]]
noncomputable def goodBytes (a : List Value) (x : ByteArray) : Bool :=
  match callRun EP (xrun EP noK 100000) none 25 a [] with
  | some (ok, _, .tuple ⟨[.string r, .int .i64 n]⟩, _) => ok.all id && (toL r == toL x && n == 0)
  | _ => false
theorem callOk_nameless {g : FuncId} {args : List Value} {v : Value} {H' : Heap} (h : CallOk EP g [.agg args.toArray] [] v H') (ha : args.all Am.flat = true) (hv : constOk v = true) (H : Heap) : CallOk EP g [.agg args.toArray] H v H := by
  intro Pr ρ args' c cs w hH hargs
  cases hargs with
  | cons h1 h2 =>
    cases h2
    have e := VR.constEq (v := .agg args.toArray) (by simpa [constOk] using ha) h1
    subst e
    let Pr1 : Prot := ⟨fun b => w.heap[b]?, Pr.rd, fun b o h => hH.pr b o (Pr.sub b o h)⟩
    have h0 : HR Pr1 (AN []) ρ [] w.heap := by
      refine ⟨fun b o h => h, fun i ob h => ?_, fun i ob h => ?_, fun i j oi oj h => ?_⟩ <;> simp [getO] at h
    obtain ⟨ρ1, v', w', s1, h1, v1, _, _, k1⟩ := h Pr1 ρ _ c cs w h0 (.cons (VR.const (by simpa [constOk] using ha)) .nil)
    have ev := VR.constEq hv v1
    subst ev
    exact ⟨ρ, _, w', s1, hH.grown (fun b o hb => h1.pr b o hb), VR.const hv, fun _ _ => rfl, Nat.le_refl _, k1⟩
theorem goodBytes_ok {rsv : Int} {m : Bool} {d x : ByteArray} (h : goodBytes (frA rsv m d) x = true) (H : Heap) : CallOk EP 25 (frA rsv m d) H (.tuple #[.string x, .int .i64 0]) H := by
  unfold goodBytes at h
  split at h
  · rename_i ok orc r n H' hr
    simp only [Bool.and_eq_true] at h
    have e1 := toL_inj (eq_of_beq h.2.1)
    have e2 := eq_of_beq h.2.2
    subst e1 e2
    exact callOk_nameless (callRun_sound (xrun_sound noK_ok _) _ _ _ _ _ _ _ _ hr (AllT.of_all h.1)) rfl rfl H
  · cases h
theorem bare_good : goodBytes (frA 0 false ⟨#[97]⟩) ⟨#[129, 1, 97]⟩ = true := by kernel_rfl
theorem rsv_good : goodBytes (frA 1 true ⟨#[]⟩) ⟨#[145, 128, 0, 0, 0, 0]⟩ = true := by kernel_rfl
def isFr (rsv : Int) (m : Bool) (d : ByteArray) : List Value → Bool
  | [.agg ⟨[.bool f, .int .i64 r, .int .i64 o, .bool m', .int .u8 k0, .int .u8 k1, .int .u8 k2, .int .u8 k3, .string d']⟩] => f && (r == rsv && (o == 1 && (m' == m && (k0 == 0 && (k1 == 0 && (k2 == 0 && (k3 == 0 && toL d' == toL d)))))))
  | _ => false
theorem isFr_ok {rsv : Int} {m : Bool} {d : ByteArray} {a : List Value} (h : isFr rsv m d a = true) : a = frA rsv m d := by
  unfold isFr at h
  split at h
  · simp only [Bool.and_eq_true] at h
    obtain ⟨h1, h2, h3, h4, h5, h6, h7, h8, h9⟩ := h
    rw [h1, eq_of_beq h2, eq_of_beq h3, eq_of_beq h4, eq_of_beq h5, eq_of_beq h6, eq_of_beq h7, eq_of_beq h8, toL_inj (eq_of_beq h9)]
    rfl
  · cases h
def bytes_k : Ct := fun args H =>
  match isFr 0 false ⟨#[97]⟩ args with
  | true => some ([], .tuple #[.string ⟨#[129, 1, 97]⟩, .int .i64 0], H)
  | false => match isFr 1 true ⟨#[]⟩ args with
    | true => some ([], .tuple #[.string ⟨#[145, 128, 0, 0, 0, 0]⟩, .int .i64 0], H)
    | false => none
theorem bytes_k_ok : KFor EP 25 bytes_k := by
  intro args H ok v H' h hok
  unfold bytes_k at h
  split at h
  · rename_i h1
    cases h
    rw [isFr_ok h1]
    exact goodBytes_ok bare_good H
  · split at h
    · rename_i h1
      cases h
      rw [isFr_ok h1]
      exact goodBytes_ok rsv_good H
    · cases h
end Go.Proofs.Ytfpnjpbdaniomaa
