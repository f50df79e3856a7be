/-
  What Count and Pick hand back, as contracts.
-/
import Derived.Test.YtagacgeamobjcaaSchedA
open Go Go.Am
namespace Go.Proofs.Ytagacgeamobjcaa
theorem ka1 (on : List Bool) : goEnd E  kT  2000 25 (some []) [0] [4] (startC E 10 [.int .i64 on.length, .func (.func 9) #[] #[.pointer (some ⟨0, 0, none⟩)]] [onB on]) = some ([[Value.int IntKind.i64 (↑on.length : Int)].all flat, (List.map Value.bool on).all isBool, on.length == (List.map Value.bool on).length, (↑on.length : Int) == (↑on.length : Int), decide (on.length ≤ 1000000), [Value.int IntKind.i64 (↑on.length : Int)].all flat, (List.map (Value.int IntKind.i64) (en (onOf (List.map Value.bool on).toArray) (onOf (List.map Value.bool on).toArray).length)).all flat, true, true, [Value.int IntKind.i64 (↑on.length : Int)].all one], Value.int IntKind.i64 (↑(en (onOf (List.map Value.bool on).toArray) (onOf (List.map Value.bool on).toArray).length).length : Int), [some (Ob.cells [Value.iface on.length (Value.agg (List.map Value.bool on).toArray)] 22 none)]) := by kernel_rfl

theorem kb1 (on : List Bool) (k : Int) : goEnd E  kT  2000 38 (some [true]) [0] [6, 7] (startC E 11 [.int .i64 on.length, .func (.func 9) #[] #[.pointer (some ⟨0, 0, none⟩)], .int .i64 k] [onB on]) = some ([((↑(en (onOf (List.map Value.bool on).toArray) (onOf (List.map Value.bool on).toArray).length).length : Int) == 0) == true, [Value.int IntKind.i64 (↑on.length : Int)].all flat, (List.map Value.bool on).all isBool, on.length == (List.map Value.bool on).length, (↑on.length : Int) == (↑on.length : Int), decide (on.length ≤ 1000000), [Value.int IntKind.i64 (↑on.length : Int)].all flat, (List.map (Value.int IntKind.i64) (en (onOf (List.map Value.bool on).toArray) (onOf (List.map Value.bool on).toArray).length)).all flat, true, true, [Value.int IntKind.i64 (↑on.length : Int)].all one], Value.tuple #[Value.int IntKind.i64 0, Value.bool false], [some (Ob.cells [Value.iface on.length (Value.agg (List.map Value.bool on).toArray)] 22 none)]) := by kernel_rfl

theorem kb2 (on : List Bool) (k : Int) : goEnd E  kT  2000 52 (some [false]) [0] [6, 7] (startC E 11 [.int .i64 on.length, .func (.func 9) #[] #[.pointer (some ⟨0, 0, none⟩)], .int .i64 k] [onB on]) = some ([decide (0 + ((IntKind.i64.wrap (k.tmod (↑(en (onOf (List.map Value.bool on).toArray) (onOf (List.map Value.bool on).toArray).length).length : Int) + (↑(en (onOf (List.map Value.bool on).toArray) (onOf (List.map Value.bool on).toArray).length).length : Int))).tmod (↑(en (onOf (List.map Value.bool on).toArray) (onOf (List.map Value.bool on).toArray).length).length : Int)).toNat * 1 < (List.map (Value.int IntKind.i64) (en (onOf (List.map Value.bool on).toArray) (onOf (List.map Value.bool on).toArray).length)).length), isInt IntKind.i64 ((List.map (Value.int IntKind.i64) (en (onOf (List.map Value.bool on).toArray) (onOf (List.map Value.bool on).toArray).length)).getD (0 + ((IntKind.i64.wrap (k.tmod (↑(en (onOf (List.map Value.bool on).toArray) (onOf (List.map Value.bool on).toArray).length).length : Int) + (↑(en (onOf (List.map Value.bool on).toArray) (onOf (List.map Value.bool on).toArray).length).length : Int))).tmod (↑(en (onOf (List.map Value.bool on).toArray) (onOf (List.map Value.bool on).toArray).length).length : Int)).toNat * 1) undef), decide (0 ≤ (IntKind.i64.wrap (k.tmod (↑(en (onOf (List.map Value.bool on).toArray) (onOf (List.map Value.bool on).toArray).length).length : Int) + (↑(en (onOf (List.map Value.bool on).toArray) (onOf (List.map Value.bool on).toArray).length).length : Int))).tmod (↑(en (onOf (List.map Value.bool on).toArray) (onOf (List.map Value.bool on).toArray).length).length : Int)), decide ((IntKind.i64.wrap (k.tmod (↑(en (onOf (List.map Value.bool on).toArray) (onOf (List.map Value.bool on).toArray).length).length : Int) + (↑(en (onOf (List.map Value.bool on).toArray) (onOf (List.map Value.bool on).toArray).length).length : Int))).tmod (↑(en (onOf (List.map Value.bool on).toArray) (onOf (List.map Value.bool on).toArray).length).length : Int) < (↑(en (onOf (List.map Value.bool on).toArray) (onOf (List.map Value.bool on).toArray).length).length : Int)), (↑(en (onOf (List.map Value.bool on).toArray) (onOf (List.map Value.bool on).toArray).length).length : Int) != 0, (↑(en (onOf (List.map Value.bool on).toArray) (onOf (List.map Value.bool on).toArray).length).length : Int) != 0, ((↑(en (onOf (List.map Value.bool on).toArray) (onOf (List.map Value.bool on).toArray).length).length : Int) == 0) == false, [Value.int IntKind.i64 (↑on.length : Int)].all flat, (List.map Value.bool on).all isBool, on.length == (List.map Value.bool on).length, (↑on.length : Int) == (↑on.length : Int), decide (on.length ≤ 1000000), [Value.int IntKind.i64 (↑on.length : Int)].all flat, (List.map (Value.int IntKind.i64) (en (onOf (List.map Value.bool on).toArray) (onOf (List.map Value.bool on).toArray).length)).all flat, true, true, [Value.int IntKind.i64 (↑on.length : Int)].all one], Value.tuple #[Value.int IntKind.i64 (toInt ((List.map (Value.int IntKind.i64) (en (onOf (List.map Value.bool on).toArray) (onOf (List.map Value.bool on).toArray).length)).getD (0 + ((IntKind.i64.wrap (k.tmod (↑(en (onOf (List.map Value.bool on).toArray) (onOf (List.map Value.bool on).toArray).length).length : Int) + (↑(en (onOf (List.map Value.bool on).toArray) (onOf (List.map Value.bool on).toArray).length).length : Int))).tmod (↑(en (onOf (List.map Value.bool on).toArray) (onOf (List.map Value.bool on).toArray).length).length : Int)).toNat * 1) undef)), Value.bool true], [some (Ob.cells [Value.iface on.length (Value.agg (List.map Value.bool on).toArray)] 22 none)]) := by kernel_rfl

theorem tmod_idx (k : Int) (n : Nat) (hn : 0 < n) (h2 : n ≤ 1000000) : (IntKind.i64.wrap (k.tmod n + n)).tmod n = k % n := by
  have h3 : (0 : Int) < n := by omega
  have hx0 := Int.emod_nonneg k (show (n : Int) ≠ 0 by omega)
  have hx1 := Int.emod_lt_of_pos k h3
  have hk : k.tmod n = k % n ∨ k.tmod n = k % n - n := by
    rw [Int.tmod_eq_emod]
    split
    · left; simp
    · right; simp
  have key : ∀ x : Int, 0 ≤ x → x < n → (x + n).tmod n = x ∧ x.tmod n = x := by
    intro x h0 h1
    refine ⟨?_, Int.tmod_eq_of_lt h0 h1⟩
    rw [Int.tmod_eq_emod_of_nonneg (by omega)]
    have := Int.add_mul_emod_self_left x n 1
    rw [Int.mul_one] at this
    rw [this, Int.emod_eq_of_lt h0 h1]
  rcases hk with hk | hk
  · rw [hk, wrap64_in (by omega) (by omega)]
    exact (key _ hx0 hx1).1
  · rw [hk, wrap64_in (by omega) (by omega)]
    rw [show k % n - (n : Int) + n = k % n by omega]
    exact (key _ hx0 hx1).2

theorem getInt (k : IntKind) (l : List Int) (i : Nat) (h : i < l.length) : (l.map (Value.int k)).getD i undef = .int k (l.getD i 0) := by
  simp [List.getD_eq_getElem?_getD, h]

/-- How many are enabled; the one that is picked. -/
def cnt (on : List Bool) : Nat := (en on on.length).length
def pk (on : List Bool) (k : Int) : Int := (en on on.length).getD (k % cnt on).toNat 0

def clo : Value := .func (.func 9) #[] #[.pointer (some ⟨0, 0, none⟩)]
theorem ok_on (on : List Bool) : (on.map Value.bool).all isBool = true := by simp only [List.all_map, List.all_eq_true]; intro x _; rfl

theorem count_ok (on : List Bool) (hs : on.length ≤ 1000000) : CallOk E 10 [.int .i64 on.length, clo] [onB on] (.int .i64 (cnt on)) [onB on] := by
  have h := ka1 on
  simp only [onOf_mk] at h
  exact callOk_of_end kT_ok (by kernel_rfl) (Gets.refl _) h (by simp [AllT.cons, AllT.nil, flat_int, one_int, all_flat_int, isBool, hs]) (Nat.le_of_ble_eq_true (by kernel_rfl)) (by show ∀ i, i < 1 → _; decide) (Nat.le_of_ble_eq_true (by kernel_rfl))

theorem pick_ok (on : List Bool) (k : Int) (hs : on.length ≤ 1000000) : CallOk E 11 [.int .i64 on.length, clo, .int .i64 k] [onB on] (.tuple #[.int .i64 (pk on k), .bool (decide (0 < cnt on))]) [onB on] := by
  by_cases h0 : cnt on = 0
  · have h := kb1 on k
    simp only [onOf_mk] at h
    have h1 : (en on on.length).length = 0 := h0
    have := callOk_of_end kT_ok (by kernel_rfl) (Gets.refl _) h (by simp [AllT.cons, AllT.nil, flat_int, one_int, all_flat_int, isBool, hs, h1]) (Nat.le_of_ble_eq_true (by kernel_rfl)) (by show ∀ i, i < 1 → _; decide) (Nat.le_of_ble_eq_true (by kernel_rfl))
    have e : pk on k = 0 := by
      unfold pk
      rw [List.length_eq_zero_iff.1 h1]; rfl
    rw [e, h0]
    exact this
  · have h := kb2 on k
    simp only [onOf_mk] at h
    have hl := en_len on on.length
    have h1 : 0 < (en on on.length).length := by unfold cnt at h0; omega
    rw [tmod_idx k _ h1 (by omega)] at h
    have hx0 := Int.emod_nonneg k (show ((en on on.length).length : Int) ≠ 0 by omega)
    have hx1 := Int.emod_lt_of_pos k (show (0 : Int) < (en on on.length).length by omega)
    have hx2 : (k % ((en on on.length).length : Int)).toNat < (en on on.length).length := by omega
    rw [Nat.zero_add, Nat.mul_one, getInt _ _ _ hx2] at h
    have := callOk_of_end kT_ok (by kernel_rfl) (Gets.refl _) h (by
      simp [AllT.cons, AllT.nil, flat_int, one_int, all_flat_int, isBool, hs, isInt_int, hx0, hx1, hx2, List.length_pos_iff.1 h1]) (Nat.le_of_ble_eq_true (by kernel_rfl)) (by show ∀ i, i < 1 → _; decide) (Nat.le_of_ble_eq_true (by kernel_rfl))
    have e : decide (0 < cnt on) = true := by unfold cnt; simp; omega
    rw [e]
    exact this

def kCP (pick : Bool) (args : List Value) (Hs : Heap) : Option (List Bool × Value × Heap) :=
  match Hs with
  | [some (.cells [.iface m (.agg cs)] t0 none)] =>
    match args with
    | .int .i64 n :: .func (.func g) fs xs :: r =>
      match fs.toList, xs.toList with
      | [], [.pointer (some ⟨0, 0, none⟩)] =>
        if g = 9 ∧ t0 = 22 then
          match pick, r with
          | false, [] => some ([cs.toList.all isBool, m == cs.toList.length, n == m, decide (m ≤ 1000000)], .int .i64 (cnt (onOf cs)), Hs)
          | true, [.int .i64 k] => some ([cs.toList.all isBool, m == cs.toList.length, n == m, decide (m ≤ 1000000)], .tuple #[.int .i64 (pk (onOf cs) k), .bool (decide (0 < cnt (onOf cs)))], Hs)
          | _, _ => none
        else none
      | _, _ => none
    | _ => none
  | _ => none

theorem kCP_ok (pick : Bool) : ∀ args H ok v H', kCP pick args H = some (ok, v, H') → AllT ok → CallOk E (if pick then 11 else 10) args H v H' := by
  intro args H ok v H' h hok
  unfold kCP at h
  split at h
  · rename_i m cs t0
    split at h
    · rename_i n g fs xs r
      split at h
      · rename_i h1 h2
        split at h
        · rename_i hc
          obtain ⟨rfl, rfl⟩ := hc
          have e1 : fs = #[] := by apply Array.ext'; simpa using h1
          have e2 : xs = #[.pointer (some ⟨0, 0, none⟩)] := by apply Array.ext'; simpa using h2
          subst e1; subst e2
          have core : AllT [cs.toList.all isBool, m == cs.toList.length, n == (m : Int), decide (m ≤ 1000000)] → ∃ on : List Bool, onOf cs = on ∧ cs = (on.map Value.bool).toArray ∧ m = on.length ∧ n = (on.length : Int) ∧ on.length ≤ 1000000 := by
            intro hok
            simp only [AllT.cons] at hok
            obtain ⟨q1, q2, q3, q4, _⟩ := hok
            have q2 : m = cs.toList.length := by simpa using q2
            have q3 : n = (m : Int) := by simpa using q3
            have q4 : m ≤ 1000000 := by simpa using q4
            have hb : (onOf cs).map Value.bool = cs.toList := bools_back q1
            have hl : m = (onOf cs).length := by rw [q2]; simp [onOf]
            exact ⟨onOf cs, rfl, by rw [hb], hl, by rw [q3, hl], hl ▸ q4⟩
          split at h
          · cases h
            obtain ⟨on, h1, rfl, rfl, rfl, h5⟩ := core hok
            rw [h1]
            exact count_ok on h5
          · cases h
            obtain ⟨on, h1, rfl, rfl, rfl, h5⟩ := core hok
            rw [h1]
            exact pick_ok on _ h5
          · cases h
        · cases h
      · cases h
    · cases h
  · cases h

def pickOn (args : List Value) (_ : Heap) : Option (List Nat) :=
  match args with
  | _ :: .func _ _ xs :: _ => match xs.toList with
    | [.pointer (some ⟨b0, 0, none⟩)] => some [b0]
    | _ => none
  | _ => none

noncomputable def kT2 : Ctr := fun g args H =>
  match g == 10 with
  | true => inPart E pickOn (kCP false) args H
  | false => match g == 11 with
    | true => inPart E pickOn (kCP true) args H
    | false => match g == 8 with
      | true => inPart E (fun _ _ => some []) kTrue0 args H
      | false => none
theorem kT2_ok : KOk E kT2 := by
  intro g args H ok v H' h hok
  unfold kT2 at h
  split at h
  · rename_i hg
    have hg : g = 10 := by simpa using hg
    subst hg
    exact inPart_ok (kCP_ok false) h hok
  · split at h
    · rename_i hg
      have hg : g = 11 := by simpa using hg
      subst hg
      exact inPart_ok (kCP_ok true) h hok
    · split at h
      · rename_i hg
        have hg : g = 8 := by simpa using hg
        subst hg
        exact inPart_ok kWakes0_ok h hok
      · cases h
end Go.Proofs.Ytagacgeamobjcaa
