/-
  The abstract machine: contracts whose shape is an obligation; the blocks that the arguments reach.
-/
import Derived.Test.YtabloimmlmgcbaaAmLaw
set_option linter.unusedVariables false
set_option linter.unusedSimpArgs false
namespace Go.Am
open Classical

noncomputable def eqb {α : Type} (a b : α) : Bool := @decide (a = b) (Classical.propDecidable _)
@[simp] theorem eqb_self {α : Type} (a : α) : eqb a a = true := by simp [eqb]
theorem eqb_iff {α : Type} {a b : α} : eqb a b = true ↔ a = b := by simp [eqb]

def namesOfV : Nat → Value → List Nat
  | 0, _ => []
  | d + 1, v => match v with
    | .pointer (some ⟨i, _, _⟩) => [i]
    | .slice (some ⟨i, _, _⟩) _ _ => [i]
    | .func (.func _) fs cs => fs.toList.flatMap (namesOfV d) ++ cs.toList.flatMap (namesOfV d)
    | .func (.yield l) fs _ => l :: fs.toList.flatMap (namesOfV d)
    | .agg cs => cs.toList.flatMap (namesOfV d)
    | .tuple cs => cs.toList.flatMap (namesOfV d)
    | _ => []
def namesOfO (E : Env) : Option Ob → List Nat
  | some (.cells cs e _) => match nameless E e with
    | true => []
    | false => cs.flatMap (namesOfV 5)
  | _ => []
def addNew : List Nat → List Nat → List Nat
  | q, [] => q
  | q, x :: r => match q.contains x with
    | true => addNew q r
    | false => addNew (q ++ [x]) r
def reachQ (E : Env) (H : Heap) : Nat → Nat → List Nat → List Nat
  | 0, _, q => q
  | n + 1, i, q => match q[i]? with
    | some b => reachQ E H n (i + 1) (addNew q (namesOfO E (getO H b)))
    | none => q
/-- All blocks that the arguments reach. -/
def pickAll (E : Env) (args : List Value) (H : Heap) : Option (List Nat) := some (reachQ E H 200 0 (addNew [] (args.flatMap (namesOfV 6))))

/-- A contract: what is read out of arguments and memory (ex) tells what these must be (sA, sH), what must hold (c), and what is handed back (r, rH). -/
noncomputable def kOf {α : Type} (ex : List Value → Heap → α) (sA : α → List Value) (sH : α → Heap) (c : α → List Bool) (r : α → Value) (rH : α → Heap) (args : List Value) (H : Heap) : Option (List Bool × Value × Heap) :=
  some (eqb args (sA (ex args H)) :: eqb H (sH (ex args H)) :: c (ex args H), r (ex args H), rH (ex args H))

theorem kOf_ok {E : Env} {g : FuncId} {α : Type} {ex : List Value → Heap → α} {sA : α → List Value} {sH : α → Heap} {c : α → List Bool} {r : α → Value} {rH : α → Heap} (h : ∀ x, AllT (c x) → CallOk E g (sA x) (sH x) (r x) (rH x)) :
    ∀ args H ok v H', kOf ex sA sH c r rH args H = some (ok, v, H') → AllT ok → CallOk E g args H v H' := by
  intro args H ok v H' hk hok
  unfold kOf at hk
  cases hk
  simp only [AllT.cons] at hok
  obtain ⟨h1, h2, h3⟩ := hok
  have e1 := eqb_iff.1 h1
  have e2 := eqb_iff.1 h2
  have := h _ h3
  rw [← e1, ← e2] at this
  exact this

/-! what is read out -/
def boolsOf (l : List Value) : List Bool := l.map toBool
def intsOf (l : List Value) : List Int := l.map toInt
def objOf (H : Heap) (i : Nat) : Heap :=
  match getO H i with
  | some (.obj J) => J
  | _ => []
def cellsOf (H : Heap) (i : Nat) : List Value :=
  match getO H i with
  | some (.cells cs _ _) => cs
  | _ => []
@[simp] theorem boolsOf_map (l : List Bool) : boolsOf (l.map Value.bool) = l := by
  unfold boolsOf
  rw [List.map_map]
  exact List.map_id'' (fun _ => rfl) l
@[simp] theorem intsOf_map (k : IntKind) (l : List Int) : intsOf (l.map (Value.int k)) = l := by
  unfold intsOf
  rw [List.map_map]
  exact List.map_id'' (fun _ => rfl) l

end Go.Am
