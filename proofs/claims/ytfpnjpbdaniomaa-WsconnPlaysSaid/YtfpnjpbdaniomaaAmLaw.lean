/-
  The abstract machine: a law's arguments, which are only read, as its values; from a walk to what the statement asks.
-/
import Derived.Test.YtfpnjpbdaniomaaAmPart
import Derived.WideKeyArgs
import Derived.Deep.Grids
import Derived.SliceStrings
import Derived.ChangeSlices
import Derived.ChangeMaps5
set_option linter.unusedVariables false
set_option linter.unusedSimpArgs false
namespace Go.Am
open Go.ChangeShapes Go.WideShapes Go.ChangeAt Go.RowKit

def tmL (d : Nat) : List (Nat × Value) → Tm
 | [] => emptyT d
 | (i, v) :: r => setT (tmL d r) i v
def noCfg : Cfg := { fr := { fn := 0, nt := 0, tm := .al [], todo := [], defers := [], rnd := none, dk := [] }, cs := [], H := [] }
def cfgOf : Option (List Bool × Cfg) → Cfg
 | some (_, C) => C
 | none => noCfg

theorem wrap64_in {x : Int} (h1 : -9223372036854775808 ≤ x) (h2 : x < 9223372036854775808) : IntKind.i64.wrap x = x := by
 have h : IntKind.i64.wrap x = if x % 18446744073709551616 ≥ 9223372036854775808 then x % 18446744073709551616 - 18446744073709551616 else x % 18446744073709551616 := by
  simp [IntKind.wrap, IntKind.bits, IntKind.signed]
 rw [h]
 split <;> omega

theorem cell_rd {w : World} {a : Addr} {v : Value} (h : w.cell? a = some v) : a.spot = none ∧ rd (prOf w) a.block a.off = some v := by
 unfold World.cell? at h
 unfold rd prOf
 dsimp only
 split at h
 ·rename_i c e fz hb
  split at h
  ·cases h
  ·rename_i hs
   rw [hb]
   exact ⟨by simpa using hs, h⟩
 ·cases h

theorem Stays.sameAt {w w' : World} (h : Stays w w') {p : MemPlace} (hp : p.block < w.heap.size) : w.sameAt w' p := by
 cases p with
 | cell b o =>
  show w'.cell? _ = w.cell? _
  unfold World.cell?
  rw [h.lt (b := b) hp]
 | map b => exact h.lt (b := b) hp

section
variable {H : Type} {enc : TypeId × Value → H} {P : Program}

theorem trodAll_stays (hl : laidOutB P = true) {W W' : World} {sp : Nat → Bool} : ∀ {ts : List TypeId} {vs : List Value} {ds : List (DataW H)} {ps : List MemPlace}, (∀ t ∈ ts, P.readableRec t = true ∧ t < P.types.size) →
  DataW.TrodAll enc P W 0 (fun _ => true) true ts vs ds ps → (∀ p ∈ ps, W.sameAt W' p) → (∀ p ∈ ps, sp p.block = true) → DataW.TrodAll enc P W' 0 sp true ts vs ds ps
 | [], [], [], ps, _, h, _, _ => h
 | t :: ts, v :: vs, d :: ds, ps, ht, h, h1, h2 => by
  obtain ⟨p, q, h3, h4, rfl⟩ := h
  obtain ⟨r1, r2⟩ := ht t (by simp)
  exact ⟨p, q, Go.WideElems.Trod_stays hl r1 r2 h3 (fun x hx => h1 x (by simp [hx])) (fun x hx => h2 x (by simp [hx])),
   trodAll_stays hl (fun t ht' => ht t (by simp [ht'])) h4 (fun x hx => h1 x (by simp [hx])) (fun x hx => h2 x (by simp [hx])), rfl⟩
 | [], [], _ :: _, _, _, h, _, _ => by cases h
 | [], _ :: _, _, _, _, h, _, _ => by cases h
 | _ :: _, [], _, _, _, h, _, _ => by cases h
 | _ :: _, _ :: _, [], _, _, h, _, _ => by cases h

theorem post_law {f : Func} {s : ChangeSpec} {tb : TypeId} {W W' : World} {args : Array Value} {ds gs : List (DataW H)} {before : List MemPlace}
  (hl : laidOutB P = true) (ht : ∀ t ∈ f.params.toList, P.readableRec t = true ∧ t < P.types.size) (hvars : s.vars = []) (hrt : f.resultTypes = #[tb]) (htb : P.underlying tb = some .bool)
  (hfn : ∀ gs, gs = [] → s.fn H (ds ++ gs) = { results := [.lit (.bool true)], args := ds })
  (hW : DataW.Whole enc P f.params.toList s.vars false W args.toList ds gs before) (hg : Stays W W') : s.post enc P f false true false false W args (.bool true) W' := by
 have hW' := hW
 have hlt := hW.lt
 obtain ⟨p, q, hA0, hV, hb, hfz, hnd⟩ := hW
 rw [hvars] at hV
 obtain ⟨rfl, rfl⟩ := trodVars_none hV
 have hf := hfn [] rfl
 have hb' : before = p := by rw [hb, List.append_nil]
 subst hb'
 refine post_of_stays (pa := before) (pv := []) hW' (fun b sp hd => ?_) (fun sp hsp => ?_) (fun sp _ => ?_) (by simp) hg ?_
 ·rw [hf, hrt]
  exact trodAll_cons_mk (shut_bool htb _) trodAll_mk0
 ·rw [hf]
  exact trodAll_stays hl ht hA0 (fun x hx => hg.sameAt (hlt x hx)) hsp
 ·rw [hf, hvars]
  rfl
 ·rw [hrt]
  intro j t r h1 h2
  have hj : j = 0 := by
   rcases Nat.eq_zero_or_pos j with h | h
   ·exact h
   ·rw [Array.getElem?_eq_none (by simp; omega)] at h1; cases h1
  subst hj
  simp at h1 h2
  subst h1
  have h3 : r = .bool true := by simpa [Value.resultList] using h2.symm
  subst h3
  exact okWide_bool_mk htb _

/-! ### the arguments -/

theorem read_int {W : World} {base : Nat} {t : TypeId} {k : IntKind} {v : Value} {d : DataW H} {p : List MemPlace} (ht : P.underlying t = some (.int k)) (hval : Value.okWide P W .any base t v) (h : DataW.Trod enc P W 0 (fun _ => true) true t v d p) :
  ∃ n : Int, (∀ A ρ, VR (prOf W) A ρ (.int k n) v) ∧ (Lit.int k n).wf = true := by
 obtain ⟨n, rfl, _, _, hw⟩ := open_int ht hval h
 exact ⟨n, fun A ρ => .int _ _, hw⟩

end
end Go.Am
