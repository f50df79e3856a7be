/-
  The abstract machine: a law's argument that is a struct or an array of numbers, Bools and texts.
-/
import Derived.Test.YtabloimmlmgcbaaAmCtr
set_option linter.unusedVariables false
set_option linter.unusedSimpArgs false
namespace Go.Am
open Go.ChangeShapes Go.WideShapes Go.ChangeAt Go.RowKit

def leafV : Leaf → Value → Prop
  | .int k, v => ∃ n, v = .int k n ∧ (Lit.int k n).wf = true
  | .bool, v => ∃ b, v = .bool b
  | .str, v => ∃ s : ByteArray, v = .string s ∧ s.size ≤ maxLen
  | .other, _ => False
  | .row, _ => False
def AllL : List Leaf → List Value → Prop
  | [], vs => vs = []
  | l :: ls, vs => ∃ v r, vs = v :: r ∧ leafV l v ∧ AllL ls r
def leafT (P : Program) : Leaf → TypeId → Prop
  | .int k, t => P.underlying t = some (.int k)
  | .bool, t => P.underlying t = some .bool
  | .str, t => P.underlying t = some .string
  | .other, _ => False
  | .row, _ => False
def leafTs (P : Program) : List Leaf → List TypeId → Prop
  | [], ts => ts = []
  | l :: ls, t :: ts => leafT P l t ∧ leafTs P ls ts
  | _ :: _, [] => False

theorem cell_leaf {P : Program} {W : World} {r : Reach} {base : Nat} {l : Leaf} {t : TypeId} {v : Value} (h : leafT P l t) (hv : Cell.okWide P W r base t v) : leafV l v := by
  cases l with
  | int k =>
    have h : P.underlying t = some (.int k) := h
    unfold Cell.okWide at hv
    rw [h] at hv
    dsimp only at hv
    unfold Cell.ok at hv
    rw [h] at hv
    cases v <;> try (exact hv.elim)
    rename_i k' n
    obtain ⟨rfl, h1, h2⟩ := hv
    refine ⟨n, rfl, ?_⟩
    simp [Lit.wf, h1, h2]
  | bool =>
    have h : P.underlying t = some .bool := h
    unfold Cell.okWide at hv
    rw [h] at hv
    dsimp only at hv
    unfold Cell.ok at hv
    rw [h] at hv
    cases v <;> try (exact hv.elim)
    exact ⟨_, rfl⟩
  | str =>
    have h : P.underlying t = some .string := h
    unfold Cell.okWide at hv
    rw [h] at hv
    dsimp only at hv
    unfold Cell.ok at hv
    rw [h] at hv
    cases v <;> try (exact hv.elim)
    refine ⟨_, rfl, ?_⟩
    have : (IntKind.i64.max : Int) = (maxLen : Int) := by decide
    dsimp only at hv
    omega
  | other => exact h.elim
  | row => exact h.elim

theorem cells_leaf {P : Program} {W : World} {r : Reach} {base : Nat} : ∀ {ls : List Leaf} {ts : List TypeId} {vs : List Value}, leafTs P ls ts → vs.length = ts.length →
    (∀ (i : Nat) u v, ts[i]? = some u → vs[i]? = some v → Cell.okWide P W r base u v) → AllL ls vs
  | [], ts, vs, h, hl, _ => by
    have h : ts = [] := h
    subst h
    exact List.length_eq_zero_iff.1 hl
  | l :: ls, [], vs, h, _, _ => h.elim
  | l :: ls, t :: ts, [], h, hl, _ => by simp at hl
  | l :: ls, t :: ts, v :: vs, h, hl, hv =>
    ⟨v, vs, rfl, cell_leaf h.1 (hv 0 t v rfl rfl), cells_leaf h.2 (by simpa using hl) (fun i u x h1 h2 => hv (i + 1) u x (by simpa using h1) (by simpa using h2))⟩

theorem vr_leaf {Pr : Prot} {A : Nat → Prop} {ρ : Nat → Nm} {l : Leaf} {v : Value} (h : leafV l v) : VR Pr A ρ v v := by
  cases l with
  | int k => obtain ⟨n, rfl, _⟩ := h; exact .int _ _
  | bool => obtain ⟨b, rfl⟩ := h; exact .bool _
  | str => obtain ⟨s, rfl, _⟩ := h; exact .str _
  | other => exact h.elim
  | row => exact h.elim
theorem vr_leaves {Pr : Prot} {A : Nat → Prop} {ρ : Nat → Nm} : ∀ {ls : List Leaf} {vs : List Value}, AllL ls vs → ∀ k, k < vs.length → VR Pr A ρ (vs.getD k undef) (vs.getD k undef)
  | [], vs, h, k, hk => by
    have h : vs = [] := h
    subst h
    simp at hk
  | l :: ls, vs, h, 0, hk => by
    obtain ⟨v, r, rfl, h1, h2⟩ := h
    exact vr_leaf h1
  | l :: ls, vs, h, k + 1, hk => by
    obtain ⟨v, r, rfl, h1, h2⟩ := h
    have := vr_leaves (Pr := Pr) (A := A) (ρ := ρ) h2 k (by simpa using hk)
    simpa using this

/-- A struct or an array that is handed in. -/
theorem read_agg {P : Program} {W : World} {base : Nat} {t : TypeId} {v : Value} {ls : List Leaf} {ts : List TypeId} (ht : (∃ fs, P.underlying t = some (.struct fs)) ∨ ∃ n e, P.underlying t = some (.array n e)) (hts : P.cellTypes P.depth t = some ts) (hc : P.cellsOf t = ts.length)
    (hl : leafTs P ls ts) (hval : Value.okWide P W .any base t v) : ∃ vs : List Value, AllL ls vs ∧ v = .agg vs.toArray ∧ ∀ A ρ, VR (prOf W) A ρ (.agg vs.toArray) v := by
  have h : ∃ cs, v = .agg cs ∧ cs.size = P.cellsOf t ∧ Row.okWide P W .any base t cs := by
    unfold Value.okWide at hval
    rcases ht with ⟨fs, ht⟩ | ⟨n, e, ht⟩
    · rw [ht] at hval; exact hval
    · rw [ht] at hval; exact hval
  obtain ⟨cs, rfl, hs, ts', h1, _, h3⟩ := h
  rw [hts] at h1
  cases h1
  have hA : AllL ls cs.toList := by
    refine cells_leaf (W := W) (r := .any) (base := base) hl (by rw [Array.length_toList, hs, hc]) (fun i u x hu hx => ?_)
    have hi : i < ts.length := by
      rcases Nat.lt_or_ge i ts.length with h | h
      · exact h
      · rw [List.getElem?_eq_none h] at hu; cases hu
    obtain ⟨u', hu', hx'⟩ := h3 i x (by rw [← hx]; simp)
    rw [Nat.mod_eq_of_lt hi, hu] at hu'
    cases hu'
    exact hx'
  refine ⟨cs.toList, hA, by simp, fun A ρ => ?_⟩
  have e : cs.toList.toArray = cs := by simp
  rw [e]
  refine .agg cs cs rfl (fun k hk => ?_)
  have := vr_leaves (Pr := prOf W) (A := A) (ρ := ρ) hA k (by simpa using hk)
  simpa [Array.getD_eq_getD_getElem?, List.getD_eq_getElem?_getD] using this
end Go.Am
