/-
  The abstract machine: a call that is proved elsewhere, as a call of the abstract machine's.
-/
import Derived.Test.YtabloimmlmgcbaaAmRen
import Derived.Lib.Repeat
namespace Go.Am
open Go.RowKit

theorem callOk_of_calls {E : Env} {g : FuncId} {args : List Value} {H : Heap} {v : Value} (h : ∀ (Pr : Prot) (ρ : Nat → Nm) (args' : List Value) (w : World), VL Pr (AN H) ρ args args' →
    Calls E.P g args'.toArray w fun e w' => ∃ v', e = .returned v' ∧ VR Pr (AN H) ρ v v' ∧ Below w.heap.size w w') : CallOk E g args H v H := by
  intro Pr ρ args' c cs w hH ha
  obtain ⟨e, w', fr, ⟨v', rfl, hv, hb⟩, hc, hf, hl⟩ := h Pr ρ args' w ha (c :: cs)
  have hlt : ∀ {b : Nat} {o : Obj}, w.heap[b]? = some o → w'.heap[b]? = some o := fun h => by rw [hb.block _ (Array.getElem?_eq_some_iff.1 h).1]; exact h
  exact ⟨ρ, v', w', hc.trans (.one (step_leave_returned hl)), hH.grown (fun _ _ h => hlt h), hv, fun _ _ => rfl, Nat.le_refl _, ⟨hb.os, hb.output⟩⟩

/-- strings.Repeat's contract. -/
def kRep (f : FuncId) : Ctr0 := fun g args H =>
  match g == f with
  | true => match args with
    | [.string s, .int .i64 c] => some ([decide (0 ≤ c), decide (c ≤ 9223372036854775807), decide (slen s * c.toNat ≤ 140737488355328)], .string (ofL (Lib.repeatL (toL s) c.toNat)), H)
    | _ => none
  | false => none

theorem kRep_ok {E : Env} {f : FuncId} (h : ∀ (s : ByteArray) (c : Nat) (w : World), c ≤ 9223372036854775807 → s.size * c ≤ 140737488355328 →
    Calls E.P f #[.string s, .int .i64 c] w fun e w' => e = .returned (.string ⟨(Lib.repeatL s.data.toList c).toArray⟩) ∧ Below w.heap.size w w') : K0Ok E (kRep f) := by
  intro g args H ok v H' hk hok
  unfold kRep at hk
  split at hk
  · rename_i hg
    have hg : g = f := by simpa using hg
    subst hg
    split at hk
    · rename_i s c
      cases hk
      have h1 : 0 ≤ c := by simpa using (AllT.cons.1 hok).1
      have h2 : c ≤ 9223372036854775807 := by simpa using (AllT.cons.1 (AllT.cons.1 hok).2).1
      have h3 : slen s * c.toNat ≤ 140737488355328 := by simpa using (AllT.cons.1 (AllT.cons.1 (AllT.cons.1 hok).2).2).1
      refine callOk_of_calls fun Pr ρ args' w ha => ?_
      cases ha with
      | cons ha t =>
        cases t with
        | cons hb t =>
          cases t; cases ha; cases hb
          have := h s c.toNat w (by omega) (by rw [slen_eq] at h3; exact h3)
          rw [Int.toNat_of_nonneg h1] at this
          exact this.mono fun e w' ⟨he, hb⟩ => ⟨_, he, .str _, hb⟩
    · cases hk
  · cases hk
end Go.Am
