/-
  The abstract machine: from a run to what a law's statement asks.
-/
import Derived.Test.YtabloimmlmgcbaaAmRun
import Derived.WalkKit
import Derived.ProofKit
import Derived.OpenShut
import Derived.JoinedCond
namespace Go.Am
open Go.ChangeShapes Go.WideShapes Go.ChangeAt Go.RowKit

/-- The run hands back true, and all that it was asked for holds. -/
def goodTop : Option (List Bool × Value × Heap) → Bool
  | some (ok, .bool b, _) => b && ok.all id
  | _ => false

theorem AllT.of_all {l : List Bool} (h : l.all id = true) : AllT l := by
  intro b hb
  exact List.all_eq_true.1 h b hb

theorem calls_of_good {E : Env} {K : Ctr} (hK : KOk E K) {n : Nat} {orc : Option (List Bool)} {g : FuncId} {args : List Value} {args' : Array Value} {w : World} (h : goodTop (topRun E (xrun E K n) orc g args) = true)
    (ha : ∀ ρ, VL (prOf w) (AN []) ρ args args'.toList) : Calls E.P g args' w fun e w' => e = .returned (.bool true) ∧ Stays w w' := by
  unfold goodTop at h
  split at h
  · rename_i ok b H' hr
    simp only [Bool.and_eq_true] at h
    obtain ⟨rfl, h2⟩ := h
    refine (topRun_sound (xrun_sound hK n) hr (AllT.of_all h2) ha).mono fun e w' ⟨ρ, v', he, hv, hs⟩ => ?_
    cases hv
    exact ⟨he, hs⟩
  · cases h

theorem Stays.lt {w w' : World} (h : Stays w w') {b : Nat} (hb : b < w.heap.size) : w'.heap[b]? = w.heap[b]? := by
  rw [h.2 b _ (Array.getElem?_eq_getElem hb), Array.getElem?_eq_getElem hb]

theorem Stays.kept {w w' : World} (h : Stays w w') (may : MemPlace → Prop) : w.keptBut w' may := by
  refine ⟨h.1.1, h.1.2, fun i hi => ?_⟩
  rw [h.lt hi]
  exact (World.keptBut_refl w may).2.2 i hi

theorem Stays.frozen {w w' : World} (h : Stays w w') {a : Addr} (ha : a.block < w.heap.size) : w'.frozen? a = w.frozen? a := by
  unfold World.frozen?
  rw [h.lt ha]

section
variable {H : Type} {enc : TypeId × Value → H} {P : Program}

/-- The statement's own words, of a call that turns nothing. -/
theorem post_of_stays {f : Func} {s : ChangeSpec} {apart fresh handsOn again : Bool} {W W' : World} {args : Array Value} {v : Value} {ds gs : List (DataW H)} {before pa pv : List MemPlace}
    (hW : DataW.Whole enc P f.params.toList s.vars apart W args.toList ds gs before)
    (hres : ∀ (b : Nat) (sp : Nat → Bool) (hd : Bool), DataW.TrodAll enc P W' b sp hd f.resultTypes.toList (v.resultList f.resultTypes.size) (s.fn H (ds ++ gs)).results [])
    (hargs : ∀ sp : Nat → Bool, (∀ p ∈ before, sp p.block = true) → DataW.TrodAll enc P W' 0 sp true f.params.toList args.toList (s.fn H (ds ++ gs)).args pa)
    (hvars : ∀ sp : Nat → Bool, (∀ p ∈ before, sp p.block = true) → DataW.TrodVars enc P W' sp s.vars (s.fn H (ds ++ gs)).vars pv)
    (hps : before = pa ++ pv) (hst : Stays W W')
    (hok : ∀ (j : Nat) (t : TypeId) (r : Value), f.resultTypes[j]? = some t → (v.resultList f.resultTypes.size)[j]? = some r → Value.okWide P W' .any 0 t r) :
    s.post enc P f apart fresh handsOn again W args v W' := by
  have hlt := hW.lt
  have hsp : ∀ p ∈ before, decide (p.block < W.heap.size) = true := fun p hp => decide_eq_true (hlt p hp)
  have hin : ∀ p ∈ before, p ∈ pa ∨ p ∈ pv := fun p hp => by rw [hps] at hp; exact List.mem_append.1 hp
  refine ⟨ds, gs, before, [], pa, pv, hW, hres _ _ _, hargs (fun b => decide (b < W.heap.size)) hsp, hvars (fun b => decide (b < W.heap.size)) hsp, World.keptBut_mono (fun p hp => ⟨hp, .inr (hin p hp)⟩) (hst.kept (· ∈ before)), fun _ => ?_⟩
  obtain ⟨_, _, _, _, _, hz, hn⟩ := hW
  have hall := trodAll_append (hargs (fun _ => true) fun _ _ => rfl) (hres 0 (fun _ => true) true)
  refine ⟨hok, _, _, ([] ++ pa) ++ pv, ⟨[] ++ pa, pv, hall, hvars _ fun _ _ => rfl, rfl, fun b off hp => ?_, fun ha => ?_⟩, fun p hp _ => ?_⟩
  · have hp' : MemPlace.cell b off ∈ before := by rw [hps]; simpa using hp
    rw [hst.frozen (hlt _ hp')]
    exact hz b off hp'
  · have := hn ha
    rw [hps] at this
    simpa using this
  · rw [hps]
    simpa using hp

end
end Go.Am
