/-
  The abstract machine: a law's arguments, which are only read, as its values; from a walk to what the statement asks.
-/
import Derived.Test.YtabloimmlmgcbaaAmPart
import Derived.WideKeyArgs
import Derived.Deep.Grids
import Derived.SliceStrings
import Derived.ChangeSlices
import Derived.ChangeMaps5
set_option linter.unusedVariables false
set_option linter.unusedSimpArgs false
namespace Go.Am
open Go.ChangeShapes Go.WideShapes Go.ChangeAt Go.RowKit

/-- Temporaries written out. -/
def tmL (d : Nat) : List (Nat × Value) → Tm
  | [] => emptyT d
  | (i, v) :: r => setT (tmL d r) i v
def noCfg : Cfg := { fr := { fn := 0, nt := 0, tm := .al [], todo := [], defers := [], rnd := none, dk := [] }, cs := [], H := [] }
def cfgOf : Option (List Bool × Cfg) → Cfg
  | some (_, C) => C
  | none => noCfg

theorem Gets.eq {E : Env} {B : Nat} {C C1 C2 : Cfg} (h : Gets E B C C1) (he : C1 = C2) : Gets E B C C2 := he ▸ h
theorem wrap64_in {x : Int} (h1 : -9223372036854775808 ≤ x) (h2 : x < 9223372036854775808) : IntKind.i64.wrap x = x := by
  have h : IntKind.i64.wrap x = if x % 18446744073709551616 ≥ 9223372036854775808 then x % 18446744073709551616 - 18446744073709551616 else x % 18446744073709551616 := by
    simp [IntKind.wrap, IntKind.bits, IntKind.signed]
  rw [h]
  split <;> omega

theorem flat_int (k : IntKind) (n : Int) : flat (.int k n) = true := rfl
theorem flat_bool (b : Bool) : flat (.bool b) = true := rfl
theorem flat_str (s : ByteArray) : flat (.string s) = true := rfl
theorem all_flat_int (k : IntKind) (l : List Int) : (l.map (Value.int k)).all flat = true := by simp only [List.all_map, List.all_eq_true]; intro x _; rfl
theorem all_flat_bool (l : List Bool) : (l.map Value.bool).all flat = true := by simp only [List.all_map, List.all_eq_true]; intro x _; rfl
theorem all_flat_str (l : List ByteArray) : (l.map Value.string).all flat = true := by simp only [List.all_map, List.all_eq_true]; intro x _; rfl
theorem one_int (k : IntKind) (n : Int) : one (.int k n) = true := rfl
theorem one_bool (b : Bool) : one (.bool b) = true := rfl
theorem one_str (s : ByteArray) : one (.string s) = true := rfl
theorem isInt_int (k : IntKind) (n : Int) : isInt k (.int k n) = true := by simp [isInt]
theorem take_len {α : Type} (l : List α) (n : Nat) (h : n = l.length) : l.take n = l := by subst h; simp

theorem cell_rd {w : World} {a : Addr} {v : Value} (h : w.cell? a = some v) : a.spot = none ∧ rd (prOf w) a.block a.off = some v := by
  unfold World.cell? at h
  unfold rd prOf
  dsimp only
  split at h
  · rename_i c e fz hb
    split at h
    · cases h
    · rename_i hs
      rw [hb]
      exact ⟨by simpa using hs, h⟩
  · cases h

/-- A slice that is only read. -/
theorem v0_slice {w : World} {a : Addr} {len cap : Nat} {F G : Nat → Value} (hl : len ≤ cap) (h : ∀ i, i < len → w.cell? (a.add i) = some (F i)) (hv : ∀ i, i < len → V0 (prOf w) (G i) (F i)) :
    V0 (prOf w) (.iface len (.agg ((List.range len).map G).toArray)) (.slice (some a) len cap) := by
  rcases Nat.eq_zero_or_pos len with h0 | h0
  · subst h0
    exact .rov0 _ _ _ (by simp)
  · have hs : a.spot = none := by
      have := (cell_rd (h 0 h0)).1
      unfold Addr.add at this
      simpa using this
    obtain ⟨b, o, s⟩ := a
    dsimp only at hs
    subst hs
    refine .rov len _ b o cap F hl (fun k hk => ?_) (fun k hk => ?_)
    · have hk : k < len := by simpa using hk
      have := (cell_rd (h k hk)).2
      rwa [addr_add] at this
    · have hk : k < len := by simpa using hk
      have := hv k hk
      simpa [Array.getD_eq_getD_getElem?, hk] using this

theorem Stays.sameAt {w w' : World} (h : Stays w w') {p : MemPlace} (hp : p.block < w.heap.size) : w.sameAt w' p := by
  cases p with
  | cell b o =>
    show w'.cell? _ = w.cell? _
    unfold World.cell?
    rw [h.lt (b := b) hp]
  | map b => exact h.lt (b := b) hp

section
variable {H : Type} {enc : TypeId × Value → H} {P : Program}

theorem trodAll_stays (hl : laidOutB P = true) {W W' : World} {sp : Nat → Bool} : ∀ {ts : List TypeId} {vs : List Value} {ds : List (DataW H)} {ps : List MemPlace}, (∀ t ∈ ts, P.readableRec t = true ∧ t < P.types.size) →
    DataW.TrodAll enc P W 0 (fun _ => true) true ts vs ds ps → (∀ p ∈ ps, W.sameAt W' p) → (∀ p ∈ ps, sp p.block = true) → DataW.TrodAll enc P W' 0 sp true ts vs ds ps
  | [], [], [], ps, _, h, _, _ => h
  | t :: ts, v :: vs, d :: ds, ps, ht, h, h1, h2 => by
    obtain ⟨p, q, h3, h4, rfl⟩ := h
    obtain ⟨r1, r2⟩ := ht t (by simp)
    exact ⟨p, q, Go.WideElems.Trod_stays hl r1 r2 h3 (fun x hx => h1 x (by simp [hx])) (fun x hx => h2 x (by simp [hx])),
      trodAll_stays hl (fun t ht' => ht t (by simp [ht'])) h4 (fun x hx => h1 x (by simp [hx])) (fun x hx => h2 x (by simp [hx])), rfl⟩
  | [], [], _ :: _, _, _, h, _, _ => by cases h
  | [], _ :: _, _, _, _, h, _, _ => by cases h
  | _ :: _, [], _, _, _, h, _, _ => by cases h
  | _ :: _, _ :: _, [], _, _, h, _, _ => by cases h

/-- A law that hands back true and turns nothing: what its statement asks. -/
theorem post_law {f : Func} {s : ChangeSpec} {tb : TypeId} {W W' : World} {args : Array Value} {ds gs : List (DataW H)} {before : List MemPlace}
    (hl : laidOutB P = true) (ht : ∀ t ∈ f.params.toList, P.readableRec t = true ∧ t < P.types.size) (hvars : s.vars = []) (hrt : f.resultTypes = #[tb]) (htb : P.underlying tb = some .bool)
    (hfn : ∀ gs, gs = [] → s.fn H (ds ++ gs) = { results := [.lit (.bool true)], args := ds })
    (hW : DataW.Whole enc P f.params.toList s.vars false W args.toList ds gs before) (hg : Stays W W') : s.post enc P f false true false false W args (.bool true) W' := by
  have hW' := hW
  have hlt := hW.lt
  obtain ⟨p, q, hA0, hV, hb, hfz, hnd⟩ := hW
  rw [hvars] at hV
  obtain ⟨rfl, rfl⟩ := trodVars_none hV
  have hf := hfn [] rfl
  have hb' : before = p := by rw [hb, List.append_nil]
  subst hb'
  refine post_of_stays (pa := before) (pv := []) hW' (fun b sp hd => ?_) (fun sp hsp => ?_) (fun sp _ => ?_) (by simp) hg ?_
  · rw [hf, hrt]
    exact trodAll_cons_mk (shut_bool htb _) trodAll_mk0
  · rw [hf]
    exact trodAll_stays hl ht hA0 (fun x hx => hg.sameAt (hlt x hx)) hsp
  · rw [hf, hvars]
    rfl
  · rw [hrt]
    intro j t r h1 h2
    have hj : j = 0 := by
      rcases Nat.eq_zero_or_pos j with h | h
      · exact h
      · rw [Array.getElem?_eq_none (by simp; omega)] at h1; cases h1
    subst hj
    simp at h1 h2
    subst h1
    have h3 : r = .bool true := by simpa [Value.resultList] using h2.symm
    subst h3
    exact okWide_bool_mk htb _

/-! ### the arguments -/

theorem read_bools {W : World} {base : Nat} {t e : TypeId} {v : Value} {d : DataW H} {p : List MemPlace} (ht : P.underlying t = some (.slice e)) (he : P.underlying e = some .bool) (hc : P.cellsOf e = 1)
    (hval : Value.okWide P W .any base t v) (h : DataW.Trod enc P W 0 (fun _ => true) true t v d p) : ∃ on : List Bool, (∀ A ρ, VR (prOf W) A ρ (.iface on.length (.agg (on.map Value.bool).toArray)) v) ∧ on.length ≤ maxLen := by
  obtain ⟨a0, len, cap, rfl⟩ := okWide_slice ht hval
  obtain ⟨fuel, hf⟩ := h
  rcases Go.Deep.open_bools ht he hc hf with ⟨h1, _⟩ | ⟨a, l, c, B, h1, _, h2, h3, _, h4⟩
  · simp only [Value.cells, List.cons.injEq, and_true] at h1
    cases h1
    exact ⟨[], fun A ρ => .rov0 _ _ _ rfl, Nat.zero_le _⟩
  · simp only [Value.cells, List.cons.injEq, and_true] at h1
    cases h1
    refine ⟨(List.range len).map B, fun A ρ => ?_, by simp; omega⟩
    have := (v0_slice (w := W) (a := a) (len := len) (cap := cap) (F := fun i => .bool (B i)) (G := fun i => .bool (B i)) h2 (fun i hi => h4 i (by omega)) (fun i _ => .bool _)).vr (A := A) (ρ := ρ)
    simpa [List.map_map, Function.comp_def] using this

theorem read_ints {W : World} {base : Nat} {t e : TypeId} {k : IntKind} {v : Value} {d : DataW H} {p : List MemPlace} (ht : P.underlying t = some (.slice e)) (he : P.underlying e = some (.int k)) (hc : P.cellsOf e = 1)
    (hval : Value.okWide P W .any base t v) (h : DataW.Trod enc P W 0 (fun _ => true) true t v d p) : ∃ l : List Int, (∀ A ρ, VR (prOf W) A ρ (.iface l.length (.agg (l.map (Value.int k)).toArray)) v) ∧ l.length ≤ maxLen ∧ ∀ n ∈ l, (Lit.int k n).wf = true := by
  obtain ⟨a0, len, cap, rfl⟩ := okWide_slice ht hval
  obtain ⟨fuel, hf⟩ := h
  rcases open_ints ht he hc hf with ⟨h1, _⟩ | ⟨a, l, c, zs, h1, _, h2, h3, hl, _, h4, h5⟩
  · simp only [Value.cells, List.cons.injEq, and_true] at h1
    cases h1
    exact ⟨[], fun A ρ => .rov0 _ _ _ rfl, Nat.zero_le _, fun n hn => by cases hn⟩
  · simp only [Value.cells, List.cons.injEq, and_true] at h1
    cases h1
    simp only [if_true] at hl
    refine ⟨zs.take len, fun A ρ => ?_, by simp; omega, fun n hn => h5 n (List.mem_of_mem_take hn)⟩
    have := (v0_slice (w := W) (a := a) (len := len) (cap := cap) (F := fun i => .int k (zs.getD i 0)) (G := fun i => .int k (zs.getD i 0)) h2 (fun i hi => h4 i (by omega)) (fun i _ => .int _ _)).vr (A := A) (ρ := ρ)
    have e : (List.range len).map (fun i => Value.int k (zs.getD i 0)) = (zs.take len).map (Value.int k) := by
      apply List.ext_getElem
      · simp; omega
      · intro i h1 h2
        have hi : i < zs.length := by simp at h1; omega
        simp [List.getD_eq_getElem?_getD, hi]
    rw [e] at this
    have e2 : (zs.take len).length = len := by simp; omega
    rw [e2]
    exact this

theorem read_strings {W : World} {base : Nat} {t e : TypeId} {v : Value} {d : DataW H} {p : List MemPlace} (ht : P.underlying t = some (.slice e)) (he : P.underlying e = some .string) (hc : P.cellsOf e = 1)
    (hval : Value.okWide P W .any base t v) (h : DataW.Trod enc P W 0 (fun _ => true) true t v d p) : ∃ l : List ByteArray, (∀ A ρ, VR (prOf W) A ρ (.iface l.length (.agg (l.map Value.string).toArray)) v) ∧ l.length ≤ maxLen ∧ ∀ s ∈ l, s.size ≤ maxLen := by
  obtain ⟨a0, len, cap, rfl⟩ := okWide_slice ht hval
  obtain ⟨fuel, hf⟩ := h
  rcases open_strings ht he hc hf with ⟨h1, _⟩ | ⟨a, l, c, zs, h1, _, h2, h3, hl, _, h4, h5⟩
  · simp only [Value.cells, List.cons.injEq, and_true] at h1
    cases h1
    exact ⟨[], fun A ρ => .rov0 _ _ _ rfl, Nat.zero_le _, fun n hn => by cases hn⟩
  · simp only [Value.cells, List.cons.injEq, and_true] at h1
    cases h1
    simp only [if_true] at hl
    refine ⟨zs.take len, fun A ρ => ?_, by simp; omega, fun n hn => h5 n (List.mem_of_mem_take hn)⟩
    have := (v0_slice (w := W) (a := a) (len := len) (cap := cap) (F := fun i => .string (zs.getD i ByteArray.empty)) (G := fun i => .string (zs.getD i ByteArray.empty)) h2 (fun i hi => h4 i (by omega)) (fun i _ => .str _)).vr (A := A) (ρ := ρ)
    have e : (List.range len).map (fun i => Value.string (zs.getD i ByteArray.empty)) = (zs.take len).map Value.string := by
      apply List.ext_getElem
      · simp; omega
      · intro i h1 h2
        have hi : i < zs.length := by simp at h1; omega
        simp [List.getD_eq_getElem?_getD, hi]
    rw [e] at this
    have e2 : (zs.take len).length = len := by simp; omega
    rw [e2]
    exact this

theorem read_int {W : World} {base : Nat} {t : TypeId} {k : IntKind} {v : Value} {d : DataW H} {p : List MemPlace} (ht : P.underlying t = some (.int k)) (hval : Value.okWide P W .any base t v) (h : DataW.Trod enc P W 0 (fun _ => true) true t v d p) :
    ∃ n : Int, (∀ A ρ, VR (prOf W) A ρ (.int k n) v) ∧ (Lit.int k n).wf = true := by
  obtain ⟨n, rfl, _, _, hw⟩ := open_int ht hval h
  exact ⟨n, fun A ρ => .int _ _, hw⟩

theorem read_bool {W : World} {base : Nat} {t : TypeId} {v : Value} {d : DataW H} {p : List MemPlace} (ht : P.underlying t = some .bool) (hval : Value.okWide P W .any base t v) :
    ∃ b : Bool, ∀ A ρ, VR (prOf W) A ρ (.bool b) v := by
  obtain ⟨b, rfl⟩ := okWide_bool ht hval
  exact ⟨b, fun A ρ => .bool _⟩

theorem read_string {W : World} {base : Nat} {t : TypeId} {v : Value} {d : DataW H} {p : List MemPlace} (ht : P.underlying t = some .string) (hval : Value.okWide P W .any base t v) (h : DataW.Trod enc P W 0 (fun _ => true) true t v d p) :
    ∃ s : ByteArray, (∀ A ρ, VR (prOf W) A ρ (.string s) v) ∧ s.size ≤ maxLen := by
  obtain ⟨s, rfl, _, _, hs⟩ := Go.ChangeMaps.open_string ht hval h
  exact ⟨s, fun A ρ => .str _, hs⟩

end
end Go.Am
