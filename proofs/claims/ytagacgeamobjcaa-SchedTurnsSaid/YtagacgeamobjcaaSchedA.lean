/-
  What is collected of the tasks that are enabled; the chapter's first examples.
-/
import Derived.Test.YtagacgeamobjcaaEnv
import Derived.Test.YtagacgeamobjcaaAmLaw
open Go Go.Am
namespace Go.Proofs.Ytagacgeamobjcaa
/-! ### what the closure of SchedTurns tells of is collected -/
def onB (on : List Bool) : Option Ob := some (.cells [.iface on.length (.agg (on.map Value.bool).toArray)] 22 none)
def isB : Option Ob := some (.cells [.func (.func 9) #[] #[.pointer (some ⟨0, 0, none⟩)]] 24 none)
def nB (n : Int) : Option Ob := some (.cells [.int .i64 n] 3 none)
def seqV : Value := .func (.func 38) #[] #[.pointer (some ⟨1, 0, none⟩), .pointer (some ⟨2, 0, none⟩)]
noncomputable def P0 : Cfg := cfgOf (goGc E noK 2000 26 (some []) [0, 1, 2, 5, 4, 3] [0, 1, 2, 4] (startC E 35 [seqV] [onB [], isB, nB 0]))
noncomputable def hd (on : List Bool) (n i : Int) (l : Nat) (acc : List Value) : Cfg :=
  { fr := { fn := 38, nt := 23, tm := tmL 5 [(0, Value.func (Fn.yield 3) #[] #[]), (1, Value.pointer (some { block := 1, off := 0 })), (2, Value.pointer (some { block := 2, off := 0 })), (4, Value.int IntKind.i64 i)], todo := P0.fr.todo, defers := [], rnd := none, dk := P0.fr.dk }, cs := P0.cs,
    H := [onB on, isB, nB n, P0.H.getD 3 none, P0.H.getD 4 none, some (.cells [.slice (some ⟨6, 0, none⟩) l 0] 34 none), some (.cells acc 3 (some 1))] }
theorem pa1 (on : List Bool) (n : Int) : goGc E  noK  2000 26 (some []) [0, 1, 2, 5, 4, 3] [0, 1, 2, 4] (startC E 35 [seqV] [onB on, isB, nB n]) = some ([[Value.int IntKind.i64 n].all flat, true], { fr := { fn := 38, nt := 23, tm := tmL 5 [(0, Value.func (Fn.yield 3) #[] #[]), (1, Value.pointer (some { block := 1, off := 0 })), (2, Value.pointer (some { block := 2, off := 0 })), (4, Value.int IntKind.i64 0)], todo := P0.fr.todo, defers := [], rnd := none, dk := P0.fr.dk }, cs := P0.cs, H := [some (Ob.cells [Value.iface on.length (Value.agg (List.map Value.bool on).toArray)] 22 none), some (Ob.cells [Value.func (Fn.func 9) #[] #[Value.pointer (some { block := 0, off := 0 })]] 24 none), some (Ob.cells [Value.int IntKind.i64 n] 3 none), P0.H.getD 3 none, P0.H.getD 4 none, some (Ob.cells [Value.slice none 0 0] 34 none)] }) := by kernel_rfl

theorem pb1 (on : List Bool) (n : Int) (i : Int) (acc : List Int) : goGc E  noK  2000 73 (some [true, true, true, true, true, false]) [0, 1, 2, 3, 4, 5, 8] [0, 1, 2, 4] (hd on n i acc.length (acc.map (Value.int .i64))) = some ([[Value.int IntKind.i64 n].all flat, (List.take (acc.length * 1) (List.drop 0 (List.map (Value.int IntKind.i64) acc)) ++ [Value.int IntKind.i64 i]).all flat, true, true, [Value.int IntKind.i64 i].all one, true, decide ((some 1).isSome = true ∨ 0 = acc.length), decide (0 + acc.length * 1 ≤ (List.map (Value.int IntKind.i64) acc).length), decide ((acc.length + 1) * 8 ≤ 140737488355328), decide (acc.length + 1 ≤ 9223372036854775807), true, true, Am.toBool ((List.map Value.bool on).getD (i.toNat * 1) undef) == true, decide (i.toNat * 1 < (List.map Value.bool on).length), isBool ((List.map Value.bool on).getD (i.toNat * 1) undef), decide (0 ≤ i), decide (i < ↑on.length), decide (0 < (List.map Value.bool on).length), true, decide (i < ↑on.length) == true, true, decide (0 ≤ i) == true, true, decide (i < n) == true, true, isInt IntKind.i64 (Value.int IntKind.i64 n), true, true], { fr := { fn := 38, nt := 23, tm := tmL 5 [(0, Value.func (Fn.yield 3) #[] #[]), (1, Value.pointer (some { block := 1, off := 0 })), (2, Value.pointer (some { block := 2, off := 0 })), (4, Value.int IntKind.i64 (IntKind.i64.wrap (i + 1)))], todo := P0.fr.todo, defers := [], rnd := none, dk := P0.fr.dk }, cs := P0.cs, H := [some (Ob.cells [Value.iface on.length (Value.agg (List.map Value.bool on).toArray)] 22 none), some (Ob.cells [Value.func (Fn.func 9) #[] #[Value.pointer (some { block := 0, off := 0 })]] 24 none), some (Ob.cells [Value.int IntKind.i64 n] 3 none), P0.H.getD 3 none, P0.H.getD 4 none, some (Ob.cells [Value.slice (some { block := 6, off := 0 }) (acc.length + 1) 0] 34 none), some (Ob.cells (List.take (acc.length * 1) (List.drop 0 (List.map (Value.int IntKind.i64) acc)) ++ [Value.int IntKind.i64 i]) 3 (some 1))] }) := by kernel_rfl

theorem pb2 (on : List Bool) (n : Int) (i : Int) (acc : List Int) : goGc E  noK  2000 59 (some [true, true, true, true, false, false]) [0, 1, 2, 3, 4, 5, 6] [0, 1, 2, 4] (hd on n i acc.length (acc.map (Value.int .i64))) = some ([[Value.int IntKind.i64 n].all flat, (List.map (Value.int IntKind.i64) acc).all flat, true, Am.toBool ((List.map Value.bool on).getD (i.toNat * 1) undef) == false, decide (i.toNat * 1 < (List.map Value.bool on).length), isBool ((List.map Value.bool on).getD (i.toNat * 1) undef), decide (0 ≤ i), decide (i < ↑on.length), decide (0 < (List.map Value.bool on).length), true, decide (i < ↑on.length) == true, true, decide (0 ≤ i) == true, true, decide (i < n) == true, true, isInt IntKind.i64 (Value.int IntKind.i64 n), true, true], { fr := { fn := 38, nt := 23, tm := tmL 5 [(0, Value.func (Fn.yield 3) #[] #[]), (1, Value.pointer (some { block := 1, off := 0 })), (2, Value.pointer (some { block := 2, off := 0 })), (4, Value.int IntKind.i64 (IntKind.i64.wrap (i + 1)))], todo := P0.fr.todo, defers := [], rnd := none, dk := P0.fr.dk }, cs := P0.cs, H := [some (Ob.cells [Value.iface on.length (Value.agg (List.map Value.bool on).toArray)] 22 none), some (Ob.cells [Value.func (Fn.func 9) #[] #[Value.pointer (some { block := 0, off := 0 })]] 24 none), some (Ob.cells [Value.int IntKind.i64 n] 3 none), P0.H.getD 3 none, P0.H.getD 4 none, some (Ob.cells [Value.slice (some { block := 6, off := 0 }) acc.length 0] 34 none), some (Ob.cells (List.map (Value.int IntKind.i64) acc) 3 (some 1))] }) := by kernel_rfl

theorem pb3 (on : List Bool) (n : Int) (i : Int) (acc : List Int) : goGc E  noK  2000 59 (some [true, true, true, false, false, false]) [0, 1, 2, 3, 4, 5, 6] [0, 1, 2, 4] (hd on n i acc.length (acc.map (Value.int .i64))) = some ([[Value.int IntKind.i64 n].all flat, (List.map (Value.int IntKind.i64) acc).all flat, true, true, decide (i < ↑on.length) == false, true, decide (0 ≤ i) == true, true, decide (i < n) == true, true, isInt IntKind.i64 (Value.int IntKind.i64 n), true, true], { fr := { fn := 38, nt := 23, tm := tmL 5 [(0, Value.func (Fn.yield 3) #[] #[]), (1, Value.pointer (some { block := 1, off := 0 })), (2, Value.pointer (some { block := 2, off := 0 })), (4, Value.int IntKind.i64 (IntKind.i64.wrap (i + 1)))], todo := P0.fr.todo, defers := [], rnd := none, dk := P0.fr.dk }, cs := P0.cs, H := [some (Ob.cells [Value.iface on.length (Value.agg (List.map Value.bool on).toArray)] 22 none), some (Ob.cells [Value.func (Fn.func 9) #[] #[Value.pointer (some { block := 0, off := 0 })]] 24 none), some (Ob.cells [Value.int IntKind.i64 n] 3 none), P0.H.getD 3 none, P0.H.getD 4 none, some (Ob.cells [Value.slice (some { block := 6, off := 0 }) acc.length 0] 34 none), some (Ob.cells (List.map (Value.int IntKind.i64) acc) 3 (some 1))] }) := by kernel_rfl

theorem pb4 (on : List Bool) (n : Int) (i : Int) (acc : List Int) : goGc E  noK  2000 59 (some [true, true, false, false, false, false]) [0, 1, 2, 3, 4, 5, 6] [0, 1, 2, 4] (hd on n i acc.length (acc.map (Value.int .i64))) = some ([[Value.int IntKind.i64 n].all flat, (List.map (Value.int IntKind.i64) acc).all flat, true, true, true, decide (0 ≤ i) == false, true, decide (i < n) == true, true, isInt IntKind.i64 (Value.int IntKind.i64 n), true, true], { fr := { fn := 38, nt := 23, tm := tmL 5 [(0, Value.func (Fn.yield 3) #[] #[]), (1, Value.pointer (some { block := 1, off := 0 })), (2, Value.pointer (some { block := 2, off := 0 })), (4, Value.int IntKind.i64 (IntKind.i64.wrap (i + 1)))], todo := P0.fr.todo, defers := [], rnd := none, dk := P0.fr.dk }, cs := P0.cs, H := [some (Ob.cells [Value.iface on.length (Value.agg (List.map Value.bool on).toArray)] 22 none), some (Ob.cells [Value.func (Fn.func 9) #[] #[Value.pointer (some { block := 0, off := 0 })]] 24 none), some (Ob.cells [Value.int IntKind.i64 n] 3 none), P0.H.getD 3 none, P0.H.getD 4 none, some (Ob.cells [Value.slice (some { block := 6, off := 0 }) acc.length 0] 34 none), some (Ob.cells (List.map (Value.int IntKind.i64) acc) 3 (some 1))] }) := by kernel_rfl

theorem pb5 (on : List Bool) (n : Int) (i : Int) (acc : List Int) : goEnd E  noK  2000 24 (some [true, false]) [0, 1, 2, 6] [2] (hd on n i acc.length (acc.map (Value.int .i64))) = some ([[Value.int IntKind.i64 n].all flat, (List.map (Value.int IntKind.i64) acc).all flat, true, decide (i < n) == false, true, isInt IntKind.i64 (Value.int IntKind.i64 n), true, true], Value.slice (some { block := 3, off := 0 }) acc.length 0, [some (Ob.cells [Value.iface on.length (Value.agg (List.map Value.bool on).toArray)] 22 none), some (Ob.cells [Value.func (Fn.func 9) #[] #[Value.pointer (some { block := 0, off := 0 })]] 24 none), some (Ob.cells [Value.int IntKind.i64 n] 3 none), some (Ob.cells (List.map (Value.int IntKind.i64) acc) 3 (some 1))]) := by kernel_rfl

/-- The tasks below i that are enabled. -/
def en (on : List Bool) (i : Nat) : List Int := ((List.range i).filter fun j => on.getD j false).map Int.ofNat
theorem en_yes {on : List Bool} {i : Nat} (h : on.getD i false = true) : en on (i + 1) = en on i ++ [(i : Int)] := by
  unfold en
  rw [List.range_succ, List.filter_append, List.map_append]
  simp only [List.filter_cons, h, if_true, List.filter_nil, List.map_cons, List.map_nil]
  rfl
theorem en_no {on : List Bool} {i : Nat} (h : on.getD i false = false) : en on (i + 1) = en on i := by
  unfold en
  rw [List.range_succ, List.filter_append, List.map_append]
  simp only [List.filter_cons, h, List.filter_nil, List.map_nil, Bool.false_eq_true, if_false, List.append_nil]
theorem en_len (on : List Bool) (i : Nat) : (en on i).length ≤ i := by
  unfold en
  rw [List.length_map]
  exact Nat.le_trans (List.length_filter_le _ _) (by simp)
theorem allFlat (l : List Int) : (l.map (Value.int .i64)).all flat = true := by simp [List.all_eq_true, flat]
theorem getMap (on : List Bool) (i : Nat) (h : i < on.length) : (List.map Value.bool on).getD i undef = .bool (on.getD i false) := by
  simp [List.getD_eq_getElem?_getD, h]

theorem head0 (on : List Bool) (n : Int) : Gets E 3 (startC E 35 [seqV] [onB on, isB, nB n]) (hd on n 0 0 []) :=
  (reach_gg noK_ok (pa1 on n) (by simp [AllT.cons, AllT.nil, flat_int]) (Nat.le_of_ble_eq_true (by kernel_rfl)) (by decide)).trans
    (reach_nilC (b := 5) (o := 0) (e := 3) (z := 1) (by kernel_rfl) (Nat.le_of_ble_eq_true (by kernel_rfl)))

theorem step_yes (on : List Bool) (i : Nat) (hi : i < on.length) (hs : on.length ≤ 1000000) (hon : on.getD i false = true) :
    Gets E 3 (hd on on.length i (en on i).length ((en on i).map (Value.int .i64))) (hd on on.length (i + 1 : Nat) (en on (i + 1)).length ((en on (i + 1)).map (Value.int .i64))) := by
  have hl := en_len on i
  refine (reach_gg noK_ok (pb1 on on.length i (en on i)) ?_ (Nat.le_of_ble_eq_true (by kernel_rfl)) (by decide)).eq ?_
  ·
    have h1 : on[i] = true := by simpa [List.getD_eq_getElem?_getD, hi] using hon
    simp [AllT.cons, AllT.nil, flat_int, all_flat_int, take_len, one_int, isInt, isBool, hi, Am.toBool, h1]
    omega
  · rw [wrap64_in (by omega) (by omega), en_yes hon]
    simp [hd, onB, isB, nB, List.take_of_length_le]

theorem step_no (on : List Bool) (i : Nat) (hi : i < on.length) (hs : on.length ≤ 1000000) (hon : on.getD i false = false) :
    Gets E 3 (hd on on.length i (en on i).length ((en on i).map (Value.int .i64))) (hd on on.length (i + 1 : Nat) (en on (i + 1)).length ((en on (i + 1)).map (Value.int .i64))) := by
  have hl := en_len on i
  refine (reach_gg noK_ok (pb2 on on.length i (en on i)) ?_ (Nat.le_of_ble_eq_true (by kernel_rfl)) (by decide)).eq ?_
  ·
    have h1 : on[i] = false := by simpa [List.getD_eq_getElem?_getD, hi] using hon
    simp [AllT.cons, AllT.nil, flat_int, all_flat_int, isInt, isBool, hi, Am.toBool, h1]
    omega
  · rw [wrap64_in (by omega) (by omega), en_no hon]
    simp [hd, onB, isB, nB]

theorem loop (on : List Bool) (hs : on.length ≤ 1000000) : ∀ k, k ≤ on.length → Gets E 3 (hd on on.length 0 0 []) (hd on on.length k (en on k).length ((en on k).map (Value.int .i64)))
  | 0, _ => Gets.refl _
  | k + 1, h => (loop on hs k (by omega)).trans (by
      cases hon : on.getD k false
      · exact step_no on k (by omega) hs hon
      · exact step_yes on k (by omega) hs hon)

theorem collect_ok (on : List Bool) (hs : on.length ≤ 1000000) : CallOk E 35 [seqV] [onB on, isB, nB on.length] (.slice (some ⟨3, 0, none⟩) (en on on.length).length 0) [onB on, isB, nB on.length, some (.cells ((en on on.length).map (Value.int .i64)) 3 (some 1))] :=
  callOk_of_end noK_ok (by kernel_rfl) ((head0 on on.length).trans (loop on hs on.length (Nat.le_refl _))) (pb5 on on.length on.length (en on on.length)) (by
    simp [AllT.cons, AllT.nil, flat_int, all_flat_int, isInt]) (Nat.le_of_ble_eq_true (by kernel_rfl)) (by show ∀ i, i < 3 → _; decide) (Nat.le_of_ble_eq_true (by kernel_rfl))

/-! ### contracts -/
def onOf (cs : Array Value) : List Bool := cs.toList.map toBool
theorem onOf_mk (on : List Bool) : onOf (on.map Value.bool).toArray = on := by
  unfold onOf
  rw [List.map_map]
  exact List.map_id'' (fun _ => rfl) on
def kColl0 (args : List Value) (Hs : Heap) : Option (List Bool × Value × Heap) :=
  match args, Hs with
  | [.func (.func g) fs xs], [some (.cells [.iface n (.agg cs)] t0 none), some (.cells [.func (.func h) gs ys] t1 none), some (.cells [.int .i64 m] t2 none)] =>
    match fs.toList, xs.toList, gs.toList, ys.toList with
    | [], [.pointer (some ⟨1, 0, none⟩), .pointer (some ⟨2, 0, none⟩)], [], [.pointer (some ⟨0, 0, none⟩)] =>
      if g = 38 ∧ h = 9 ∧ t0 = 22 ∧ t1 = 24 ∧ t2 = 3 then
        some ([cs.toList.all isBool, n == cs.toList.length, m == n, decide (n ≤ 1000000)], .slice (some ⟨3, 0, none⟩) (en (onOf cs) (onOf cs).length).length 0,
          Hs ++ [some (.cells ((en (onOf cs) (onOf cs).length).map (Value.int .i64)) 3 (some 1))])
      else none
    | _, _, _, _ => none
  | _, _ => none

theorem bools_back : ∀ {l : List Value}, l.all isBool = true → (l.map toBool).map Value.bool = l
  | [], _ => rfl
  | v :: l, h => by
    simp only [List.all_cons, Bool.and_eq_true] at h
    simp only [List.map_cons, bools_back h.2]
    cases v <;> simp [isBool] at h
    rfl

theorem kColl0_ok : ∀ args H ok v H', kColl0 args H = some (ok, v, H') → AllT ok → CallOk E 35 args H v H' := by
  intro args H ok v H' h hok
  unfold kColl0 at h
  split at h
  · rename_i g fs xs n cs t0 f gs ys t1 m t2
    split at h
    · rename_i h1 h2 h3 h4
      split at h
      · rename_i hc
        obtain ⟨rfl, rfl, rfl, rfl, rfl⟩ := hc
        simp only [Option.some.injEq, Prod.mk.injEq] at h
        obtain ⟨rfl, rfl, rfl⟩ := h
        simp only [AllT.cons] at hok
        obtain ⟨q1, q2, q3, q4, _⟩ := hok
        have q2 : n = cs.toList.length := by simpa using q2
        have q3 : m = (n : Int) := by simpa using q3
        have q4 : n ≤ 1000000 := by simpa using q4
        have e1 : fs = #[] := by apply Array.ext'; simpa using h1
        have e2 : xs = #[.pointer (some ⟨1, 0, none⟩), .pointer (some ⟨2, 0, none⟩)] := by apply Array.ext'; simpa using h2
        have e3 : gs = #[] := by apply Array.ext'; simpa using h3
        have e4 : ys = #[.pointer (some ⟨0, 0, none⟩)] := by apply Array.ext'; simpa using h4
        subst e1; subst e2; subst e3; subst e4
        have hb : (onOf cs).map Value.bool = cs.toList := bools_back q1
        generalize hon : onOf cs = on at hb ⊢
        have hl : n = on.length := by rw [q2, ← hon]; simp [onOf]
        have hcs : cs = (on.map Value.bool).toArray := by rw [hb]
        subst q3
        rw [hcs, hl]
        exact collect_ok on (hl ▸ q4)
      · cases h
    · cases h
  · cases h

def pickColl (args : List Value) (H : Heap) : Option (List Nat) :=
  match args with
  | [.func _ _ xs] => match xs.toList with
    | [.pointer (some ⟨b1, 0, none⟩), .pointer (some ⟨b2, 0, none⟩)] => match getO H b1 with
      | some (.cells [.func _ _ ys] _ _) => match ys.toList with
        | [.pointer (some ⟨b0, 0, none⟩)] => some [b0, b1, b2]
        | _ => none
      | _ => none
    | _ => none
  | _ => none

def okTrue : Option (List Bool × Value × Heap) → Bool
  | some (ok, .bool b, []) => b && ok.all id
  | _ => false
theorem wakes_good : okTrue (goEnd E noK 100000 100000 none [] [0] (startC E 8 [] [])) = true := by kernel_rfl
theorem wakes_ok : CallOk E 8 [] [] (.bool true) [] := by
  have h := wakes_good
  unfold okTrue at h
  split at h
  · rename_i ok b hr
    simp only [Bool.and_eq_true] at h
    obtain ⟨rfl, h2⟩ := h
    exact callOk_of_end noK_ok (by kernel_rfl) (Gets.refl _) hr (AllT.of_all h2) (Nat.zero_le _) (fun i hi => absurd hi (Nat.not_lt_zero _)) (Nat.zero_le _)
  · cases h
def kTrue0 (args : List Value) (Hs : Heap) : Option (List Bool × Value × Heap) :=
  match args, Hs with
  | [], [] => some ([], .bool true, [])
  | _, _ => none
theorem kWakes0_ok : ∀ args H ok v H', kTrue0 args H = some (ok, v, H') → AllT ok → CallOk E 8 args H v H' := by
  intro args H ok v H' h hok
  unfold kTrue0 at h
  split at h
  · cases h; exact wakes_ok
  · cases h

noncomputable def kT : Ctr := fun g args H =>
  match g == 35 with
  | true => inPart E pickColl kColl0 args H
  | false => match g == 8 with
    | true => inPart E (fun _ _ => some []) kTrue0 args H
    | false => none
theorem kT_ok : KOk E kT := by
  intro g args H ok v H' h hok
  unfold kT at h
  split at h
  · rename_i hg
    have hg : g = 35 := by simpa using hg
    subst hg
    exact inPart_ok kColl0_ok h hok
  · split at h
    · rename_i hg
      have hg : g = 8 := by simpa using hg
      subst hg
      exact inPart_ok kWakes0_ok h hok
    · cases h
end Go.Proofs.Ytagacgeamobjcaa
