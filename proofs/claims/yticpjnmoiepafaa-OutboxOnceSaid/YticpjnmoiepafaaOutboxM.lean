/-
  A law's argument that is a slice of Acts.
-/
import Derived.Test.YticpjnmoiepafaaOutboxI
import Derived.Test.YticpjnmoiepafaaAmRows
set_option linter.unusedVariables false
set_option linter.unusedSimpArgs false
open Go Go.Am Go.ChangeShapes Go.WideShapes Go.ChangeAt Go.RowKit
namespace Go.Proofs.Yticpjnmoiepafaa

theorem rows_acts : ∀ {rows : List (List Value)}, (∀ r ∈ rows, AllL [.int .u8, .int .u8, .str] r) → ∃ l : List Act, rows = l.map aC ∧ ∀ a ∈ l, (0 ≤ a.1 ∧ a.1 ≤ 255) ∧ (0 ≤ a.2.1 ∧ a.2.1 ≤ 255)
 | [], h => ⟨[], rfl, fun a ha => by cases ha⟩
 | r :: rows, h => by
  obtain ⟨l, e, hb⟩ := rows_acts (rows := rows) (fun r hr => h r (List.mem_cons_of_mem _ hr))
  obtain ⟨_, _, rfl, ⟨x, rfl, wx⟩, _, _, rfl, ⟨y, rfl, wy⟩, _, _, rfl, ⟨s, rfl, ws⟩, h4⟩ := h r List.mem_cons_self
  have h4 : _ = [] := h4
  subst h4
  refine ⟨(x, y, s) :: l, by rw [e]; rfl, fun a ha => ?_⟩
  rcases List.mem_cons.1 ha with rfl | ha
  ·simp [Lit.wf, IntKind.min, IntKind.max, IntKind.bits, IntKind.signed] at wx wy
   exact ⟨by omega, by omega⟩
  ·exact hb a ha
end Go.Proofs.Yticpjnmoiepafaa
