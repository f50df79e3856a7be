/-
  Rounds of tasks that change which ones are enabled, as plain functions; how such changes lie in memory.
-/
import Derived.Test.YtagacgeamobjcaaEnv
import Derived.Test.YtagacgeamobjcaaAmRows2
import Derived.Test.YtagacgeamobjcaaAmSlim
set_option linter.unusedVariables false
set_option linter.unusedSimpArgs false
open Go Go.Am
namespace Go.Proofs.Ytagacgeamobjcaa

abbrev VJ (l : List Int) : List Value := l.map (Value.int .i64)
abbrev VC (l : List Bool) : List Value := l.map Value.bool
theorem VJ_flat (l : List Int) : (VJ l).all flat = true := all_flat_int _ _
theorem VC_flat (l : List Bool) : (VC l).all flat = true := all_flat_bool _
theorem VC_one (l : List Bool) : (VC l).all one = true := by simp only [VC, List.all_map, List.all_eq_true]; intro x _; rfl
theorem VJ_get {l : List Int} {i : Nat} {x : Int} (h : l[i]? = some x) : (VJ l).getD (0 + i * 1) undef = .int .i64 x := by
 rw [Nat.zero_add, Nat.mul_one, List.getD_eq_getElem?_getD, List.getElem?_map, h]; rfl
theorem VC_get {l : List Bool} {i : Nat} {x : Bool} (h : l[i]? = some x) : (VC l).getD (0 + i * 1) undef = .bool x := by
 rw [Nat.zero_add, Nat.mul_one, List.getD_eq_getElem?_getD, List.getElem?_map, h]; rfl
theorem VJ_app (l : List Int) (x : Int) : List.take (l.length * 1) (List.drop 0 (VJ l)) ++ [Value.int .i64 x] = VJ (l ++ [x]) := by
 rw [List.drop_zero, List.take_of_length_le (by rw [List.length_map, Nat.mul_one]; exact Nat.le_refl _)]
 simp [VJ]
theorem setN_VC (l : List Bool) (k : Nat) (b : Bool) : setN (VC l) (0 + k * 1) [Value.bool b] = VC (l.set k b) := by
 rw [Nat.zero_add, Nat.mul_one]
 show (VC l).set k (.bool b) = _
 simp [VC, List.map_set]
abbrev Chg : Type := Int × Bool
def chE (p : Chg) : List Value := [.int .u8 p.1, .bool p.2]
def chV (c : List Chg) : List (List Value) := c.map chE
def ccV (L : List (List Chg)) : List Value := L.map fun c => rowV (chV c)
theorem chV_len (c : List Chg) : (chV c).flatten.length = c.length * 2 := by
 induction c with
 | nil => rfl
 | cons p r ih =>
  have e : (chV (p :: r)).flatten = chE p ++ (chV r).flatten := rfl
  rw [e, List.length_append, ih, List.length_cons]
  show 2 + r.length * 2 = (r.length + 1) * 2
  omega
theorem chV_get : ∀ {c : List Chg} {i : Nat} {p : Chg}, c[i]? = some p → (chV c).flatten.getD (i * 2 + 0) undef = .int .u8 p.1 ∧ (chV c).flatten.getD (i * 2 + 1) undef = .bool p.2
 | [], i, p, h => by simp at h
 | q :: r, 0, p, h => by
  simp at h
  subst h
  exact ⟨rfl, rfl⟩
 | q :: r, i + 1, p, h => by
  have h : r[i]? = some p := by simpa using h
  obtain ⟨h1, h2⟩ := chV_get h
  have e : ∀ k, (chV (q :: r)).flatten.getD ((i + 1) * 2 + k) undef = (chV r).flatten.getD (i * 2 + k) undef := by
   intro k
   have e : (chV (q :: r)).flatten = chE q ++ (chV r).flatten := rfl
   rw [e, List.getD_eq_getElem?_getD, List.getElem?_append_right (by show 2 ≤ _; omega), ← List.getD_eq_getElem?_getD]
   congr 1
   show (i + 1) * 2 + k - 2 = i * 2 + k
   omega
  exact ⟨by rw [e]; exact h1, by rw [e]; exact h2⟩
theorem ccV_get {L : List (List Chg)} {t : Nat} {c : List Chg} (h : L[t]? = some c) : (ccV L).getD t undef = .iface c.length (.agg (chV c).flatten.toArray) := by
 unfold ccV
 rw [List.getD_eq_getElem?_getD, List.getElem?_map, h]
 show rowV (chV c) = _
 unfold rowV chV
 rw [List.length_map]
theorem ccV_row {L : List (List Chg)} {t : Nat} {c : List Chg} (h : L[t]? = some c) : aggOf ((ccV L).getD t undef) = (chV c).flatten ∧ sliceLen ((ccV L).getD t undef) = c.length ∧ isRow ((ccV L).getD t undef) = true := by
 rw [ccV_get h]
 exact ⟨rfl, rfl, rfl⟩

def chg (n : Nat) (l : List Bool) (c : List Chg) : List Bool := c.foldl (fun l p => if p.1 < (n : Int) then l.set p.1.toNat p.2 else l) l
theorem chg_len (n : Nat) : ∀ (c : List Chg) (l : List Bool), (chg n l c).length = l.length
 | [], l => rfl
 | p :: r, l => by
  have e : chg n l (p :: r) = chg n (if p.1 < (n : Int) then l.set p.1.toNat p.2 else l) r := rfl
  rw [e, chg_len n r]
  split <;> simp
theorem chg_next (n : Nat) (l : List Bool) (c : List Chg) {i : Nat} {p : Chg} (h : c[i]? = some p) : chg n l (c.take (i + 1)) = if p.1 < (n : Int) then (chg n l (c.take i)).set p.1.toNat p.2 else chg n l (c.take i) := by
 unfold chg
 have hi := (List.getElem?_eq_some_iff.1 h).1
 have hp := (List.getElem?_eq_some_iff.1 h).2
 rw [List.take_succ_eq_append_getElem hi, List.foldl_append, hp]
 rfl
def rnd (n : Nat) (L : List (List Chg)) : Nat → Nat → List Bool → List Int → Nat → List Bool × List Int × Nat
 | 0, t, l, o, d => (l, o, d)
 | k + 1, t, l, o, d => bif l.getD t false then rnd n L k (t + 1) (chg n l (L.getD t [])) (o ++ [(t : Int)]) (d + 1) else rnd n L k (t + 1) l o d
theorem rnd_len (n : Nat) (L : List (List Chg)) : ∀ k t l o d, (rnd n L k t l o d).1.length = l.length
 | 0, t, l, o, d => rfl
 | k + 1, t, l, o, d => by
  rw [rnd]
  cases l.getD t false with
  | false => exact rnd_len n L k (t + 1) l o d
  | true => exact (rnd_len n L k (t + 1) _ _ _).trans (chg_len n _ l)
theorem rnd_did (n : Nat) (L : List (List Chg)) : ∀ k t l o d, d ≤ (rnd n L k t l o d).2.2 ∧ (rnd n L k t l o d).2.2 ≤ d + k ∧ (rnd n L k t l o d).2.1.length = o.length + ((rnd n L k t l o d).2.2 - d)
 | 0, t, l, o, d => by simp [rnd]
 | k + 1, t, l, o, d => by
  rw [rnd]
  cases l.getD t false with
  | false =>
   have := rnd_did n L k (t + 1) l o d
   simp only [cond_false]
   omega
  | true =>
   have := rnd_did n L k (t + 1) (chg n l (L.getD t [])) (o ++ [(t : Int)]) (d + 1)
   simp only [cond_true]
   simp only [List.length_append, List.length_cons, List.length_nil] at this
   omega
def rds (n : Nat) (L : List (List Chg)) : Nat → List Bool → List Int → Nat → List Bool × List Int × Nat
 | 0, l, o, r => (l, o, r)
 | f + 1, l, o, r => bif (rnd n L n 0 l o 0).2.2 == 0 then ((rnd n L n 0 l o 0).1, (rnd n L n 0 l o 0).2.1, r) else rds n L f (rnd n L n 0 l o 0).1 (rnd n L n 0 l o 0).2.1 (r + 1)
end Go.Proofs.Ytagacgeamobjcaa
