/-
  The abstract machine: a contract of a function that gives up some of the blocks that it was given (their names stay, they name nothing any more): from a way that keeps the first B names alone.
-/
import Derived.Test.YtabloimmlmgcbaaAmDt
set_option linter.unusedVariables false
set_option linter.unusedSimpArgs false
namespace Go.Am

/-- The first B names, s names of nothing, the other ones. -/
def movB (B s n : Nat) : List Nat := List.range B ++ ((List.range s).map (· + n) ++ (List.range (n - B)).map (· + B))
theorem movB_length {B s n : Nat} (h : B ≤ n) : (movB B s n).length = n + s := by
  simp [movB]; omega
theorem movB_low {B s n i : Nat} (h : i < B) : (movB B s n).getD i 0 = i := by
  unfold movB
  rw [List.getD_eq_getElem?_getD, List.getElem?_append_left (by simpa using h)]
  simp [h]
theorem movB_mid {B s n i : Nat} (h1 : B ≤ i) (h2 : i < B + s) : (movB B s n).getD i 0 = i - B + n := by
  unfold movB
  rw [List.getD_eq_getElem?_getD, List.getElem?_append_right (by simpa using h1), List.length_range, List.getElem?_append_left (by simp; omega)]
  rw [List.getElem?_map, List.getElem?_range (by omega)]
  rfl
theorem callOk_move {E : Env} {g : FuncId} {args : List Value} {H H' Hs : Heap} {v u : Value} {B : Nat} {l : List Nat} {ok : List Bool} (h : AEnds E g B (startC E g args H) v H') (hs : canStart E g args = true) (hB : B ≤ H.length) (hB' : B ≤ H'.length)
    (hl : movB B (H.length - B) H'.length = l) (hn : nodup l = true) (hr : renH E (toNew l) H' l = some (ok, Hs)) (hok : AllT ok) (hv : renV (toNew l) 6 v = some u) : CallOk E g args H u Hs := by
  intro Pr ρ args' cf cs w hH ha
  unfold canStart at hs
  unfold startC at h
  split at hs
  · rename_i F hF
    split at hs
    · rename_i c hc
      simp only [hF, hc] at h
      have hlen2 : args.length ≤ F.ntmps := by simpa using hs
      obtain ⟨ρ1, fr, w', v', fn, s1, _, hm, hd, hk, hfn, hres, hH2, hv2, r1, k1⟩ := h Pr ρ (cf :: cs) (lone (Frame.enter E.P g args'.toArray .normal) (cf :: cs) w) ⟨_, [], w, rfl, enter_sound hF hc ha hlen2, .nil, hH⟩
      let ρ2 : Nat → Nm := fun i => if i < H'.length then ρ1 i else ρ (i - H'.length + B)
      have hρ : ∀ i, AN H' i → ρ2 i = ρ1 i := fun i hi => by
        have : i < H'.length := hi
        show (if i < H'.length then _ else _) = _
        rw [if_pos this]
      have hH3 : HR Pr (AN H') ρ2 H' w'.heap := hH2.mono_names (fun _ h => h) hρ
      have hv3 : VR Pr (AN H') ρ2 v v' := hv2.mono (fun _ _ h => h) (fun _ h => h) hρ
      have hlen := (renH_get hr hok).1
      have hll : l.length = H'.length + (H.length - B) := by rw [← hl]; exact movB_length hB'
      have hm2 := toNew_ok (A' := AN Hs) (ρ := ρ2) (l := l) (fun j hj => by unfold AN; omega)
      refine ⟨back' ρ2 l, v', w', s1.trans (.one (step_leave_returned ⟨hm, hd, hk, fn, hfn, hres⟩)), hH3.ren hn hr hok, renV_sound hm2 6 _ _ _ hv hv3, fun i hi => ?_, by omega, k1⟩
      have hi : i < H.length := hi
      unfold back'
      rw [← hl]
      rcases Nat.lt_or_ge i B with hb | hb
      · rw [movB_low hb]
        show (if i < H'.length then _ else _) = _
        rw [if_pos (by omega)]
        exact r1 i hb
      · rw [movB_mid hb (by omega)]
        show (if i - B + H'.length < H'.length then _ else _) = _
        rw [if_neg (by omega)]
        congr 1
        omega
    · cases hs
  · cases hs
/-- The same, all looked up at once. -/
def movOk (E : Env) (B n : Nat) (v : Value) (H' : Heap) : Option (List Bool × Value × Heap) :=
  match nodup (movB B (n - B) H'.length), renH E (toNew (movB B (n - B) H'.length)) H' (movB B (n - B) H'.length), renV (toNew (movB B (n - B) H'.length)) 6 v with
  | true, some (ok, Hs), some u => some (ok, u, Hs)
  | _, _, _ => none
theorem callOk_mov {E : Env} {g : FuncId} {args : List Value} {H H' Hs : Heap} {v u : Value} {B : Nat} {ok : List Bool} (h : AEnds E g B (startC E g args H) v H') (hm : movOk E B H.length v H' = some (ok, u, Hs)) (hok : AllT ok) (hs : canStart E g args = true) (hB : B ≤ H.length) (hB' : B ≤ H'.length) : CallOk E g args H u Hs := by
  unfold movOk at hm
  split at hm
  · rename_i ok1 Hs1 u1 h1 h2 h3
    cases hm
    exact callOk_move h hs hB hB' rfl h1 h2 hok h3
  · cases hm

/-! ### contracts by the memory's shape -/
/-- Is the cell i of the first block a slice that is none? -/
def nilAt (i : Nat) (H : Heap) : Bool :=
  match H with
  | some (.cells cs _ _) :: _ => match cs[i]? with
    | some (.slice none _ _) => true
    | _ => false
  | _ => false
/-- Is the cell i of the first block a pointer to nothing? -/
def nilP (i : Nat) (H : Heap) : Bool :=
  match H with
  | some (.cells cs _ _) :: _ => match cs[i]? with
    | some (.pointer none) => true
    | _ => false
  | _ => false
def kOr (p : Heap → Bool) (k1 k2 : Ct) : Ct := fun args H => match p H with
  | true => k1 args H
  | false => k2 args H
def kNone : Ct := fun _ _ => none
theorem kOr_ok {E : Env} {g : Nat} {p : Heap → Bool} {k1 k2 : Ct} (h1 : KFor E g k1) (h2 : KFor E g k2) : KFor E g (kOr p k1 k2) := by
  intro args H ok v H' h hok
  unfold kOr at h
  split at h
  · exact h1 _ _ _ _ _ h hok
  · exact h2 _ _ _ _ _ h hok
theorem kNone_ok {E : Env} {g : Nat} : KFor E g kNone := fun _ _ _ _ _ h => by cases h
end Go.Am
