/-
  PROVED: the law SchedTurns hands back true at every input, and its arguments read behind the call as they read before.
-/
import Derived.Test.YtagacgeamobjcaaRows
import Derived.Test.YtagacgeamobjcaaSchedB
set_option linter.unusedVariables false
set_option linter.unusedSimpArgs false
open Go Go.Am Go.ChangeShapes Go.WideShapes Go.ChangeAt Go.RowKit
namespace Go.Proofs.Ytagacgeamobjcaa.schedTurns
noncomputable def Q0 : Cfg := cfgOf (goGc E kT2 2000 46 (some [false, false, false]) [0] [1, 2, 5, 6, 7, 8] (startC E 3 [.iface 0 (.agg #[]), .int .i64 0] []))
noncomputable def ht (on : List Bool) (k n last i : Int) : Cfg :=
  { fr := { fn := 3, nt := 116, tm := tmL 7 [(1, Value.int IntKind.i64 k), (7, Value.int IntKind.i64 last), (5, Value.func (Fn.func 9) #[] #[Value.pointer (some { block := 0, off := 0 })]), (2, Value.pointer (some { block := 0, off := 0 })), (8, Value.int IntKind.i64 i), (6, Value.int IntKind.i64 n)], todo := Q0.fr.todo, defers := [], rnd := none, dk := Q0.fr.dk }, cs := Q0.cs, H := [onB on] }
theorem ta1 (on : List Bool) (k : Int) : goEnd E  kT2  2000 26 (some [true, true, true]) [] [4] (startC E 3 [.iface on.length (.agg (on.map Value.bool).toArray), .int .i64 k] []) = some ([true, true, decide (60 < (↑on.length : Int)) == true, true, [Value.iface on.length (Value.agg (List.map Value.bool on).toArray)].all one], Value.bool true, []) := by kernel_rfl

theorem ta2 (on : List Bool) (k : Int) : goEnd E  kT2  2000 26 (some [false, true, true]) [] [4] (startC E 3 [.iface on.length (.agg (on.map Value.bool).toArray), .int .i64 k] []) = some ([true, decide (k < -1099511627776) == true, decide (60 < (↑on.length : Int)) == false, true, [Value.iface on.length (Value.agg (List.map Value.bool on).toArray)].all one], Value.bool true, []) := by kernel_rfl

theorem ta3 (on : List Bool) (k : Int) : goEnd E  kT2  2000 26 (some [false, false, true]) [] [4] (startC E 3 [.iface on.length (.agg (on.map Value.bool).toArray), .int .i64 k] []) = some ([decide (1099511627776 < k) == true, decide (k < -1099511627776) == false, decide (60 < (↑on.length : Int)) == false, true, [Value.iface on.length (Value.agg (List.map Value.bool on).toArray)].all one], Value.bool true, []) := by kernel_rfl

theorem ta4 (on : List Bool) (k : Int) : goGc E  kT2  2000 46 (some [false, false, false]) [0] [1, 2, 5, 6, 7, 8] (startC E 3 [.iface on.length (.agg (on.map Value.bool).toArray), .int .i64 k] []) = some ([(List.map Value.bool on).all isBool, on.length == (List.map Value.bool on).length, (↑on.length : Int) == (↑on.length : Int), decide (on.length ≤ 1000000), true, true, decide (1099511627776 < k) == false, decide (k < -1099511627776) == false, decide (60 < (↑on.length : Int)) == false, true, [Value.iface on.length (Value.agg (List.map Value.bool on).toArray)].all one], { fr := { fn := 3, nt := 116, tm := tmL 7 [(1, Value.int IntKind.i64 k), (7, Value.int IntKind.i64 (-1)), (5, Value.func (Fn.func 9) #[] #[Value.pointer (some { block := 0, off := 0 })]), (2, Value.pointer (some { block := 0, off := 0 })), (8, Value.int IntKind.i64 0), (6, Value.int IntKind.i64 (↑(cnt (onOf (List.map Value.bool on).toArray)) : Int))], todo := Q0.fr.todo, defers := [], rnd := none, dk := Q0.fr.dk }, cs := Q0.cs, H := [some (Ob.cells [Value.iface on.length (Value.agg (List.map Value.bool on).toArray)] 22 none)] }) := by kernel_rfl

theorem tb6 (on : List Bool) (k : Int) (n : Int) (last : Int) (i : Int) : goGc E  kT2  2000 79 (some [true, false, false, false, false, false]) [0] [1, 2, 5, 6, 7, 8] (ht on k n last i) = some ([(!Am.toBool ((List.map Value.bool on).getD ((pk (onOf (List.map Value.bool on).toArray) i).toNat * 1) undef)) == false, decide ((pk (onOf (List.map Value.bool on).toArray) i).toNat * 1 < (List.map Value.bool on).length), isBool ((List.map Value.bool on).getD ((pk (onOf (List.map Value.bool on).toArray) i).toNat * 1) undef), decide (0 ≤ pk (onOf (List.map Value.bool on).toArray) i), decide (pk (onOf (List.map Value.bool on).toArray) i < (↑on.length : Int)), decide (0 < (List.map Value.bool on).length), true, decide (pk (onOf (List.map Value.bool on).toArray) i ≤ last) == false, (pk (onOf (List.map Value.bool on).toArray) i != pk (onOf (List.map Value.bool on).toArray) (IntKind.i64.wrap (i + n))) == false, (!decide (0 < cnt (onOf (List.map Value.bool on).toArray))) == false, (!decide (0 < cnt (onOf (List.map Value.bool on).toArray))) == false, (List.map Value.bool on).all isBool, on.length == (List.map Value.bool on).length, (↑on.length : Int) == (↑on.length : Int), decide (on.length ≤ 1000000), true, (List.map Value.bool on).all isBool, on.length == (List.map Value.bool on).length, (↑on.length : Int) == (↑on.length : Int), decide (on.length ≤ 1000000), true, decide (i < n) == true], { fr := { fn := 3, nt := 116, tm := tmL 7 [(1, Value.int IntKind.i64 k), (7, Value.int IntKind.i64 (pk (onOf (List.map Value.bool on).toArray) i)), (5, Value.func (Fn.func 9) #[] #[Value.pointer (some { block := 0, off := 0 })]), (2, Value.pointer (some { block := 0, off := 0 })), (8, Value.int IntKind.i64 (IntKind.i64.wrap (i + 1))), (6, Value.int IntKind.i64 n)], todo := Q0.fr.todo, defers := [], rnd := none, dk := Q0.fr.dk }, cs := Q0.cs, H := [some (Ob.cells [Value.iface on.length (Value.agg (List.map Value.bool on).toArray)] 22 none)] }) := by kernel_rfl

theorem tb7 (on : List Bool) (k : Int) (n : Int) (last : Int) (i : Int) : goEnd E  kT2  2000 58 (some [false, true, true, true]) [] [4] (ht on k n last i) = some ([(decide (0 < cnt (onOf (List.map Value.bool on).toArray)) == decide (0 < n)) == true, (decide (0 < cnt (onOf (List.map Value.bool on).toArray)) == decide (0 < cnt (onOf (List.map Value.bool on).toArray))) == true, (pk (onOf (List.map Value.bool on).toArray) k == pk (onOf (List.map Value.bool on).toArray) (IntKind.i64.wrap (k + n))) == true, (List.map Value.bool on).all isBool, on.length == (List.map Value.bool on).length, (↑on.length : Int) == (↑on.length : Int), decide (on.length ≤ 1000000), true, (List.map Value.bool on).all isBool, on.length == (List.map Value.bool on).length, (↑on.length : Int) == (↑on.length : Int), decide (on.length ≤ 1000000), true, decide (i < n) == false], Value.bool true, []) := by kernel_rfl

theorem en_sorted (on : List Bool) (m : Nat) : (en on m).Pairwise (· < ·) := by
  unfold en
  rw [List.pairwise_map]
  refine List.Pairwise.imp ?_ (List.Pairwise.filter _ List.pairwise_lt_range)
  intro a b h
  exact Int.ofNat_lt.2 h
theorem en_mem {on : List Bool} {m : Nat} {x : Int} (h : x ∈ en on m) : ∃ j : Nat, j < m ∧ on.getD j false = true ∧ x = (j : Int) := by
  unfold en at h
  obtain ⟨j, hj, rfl⟩ := List.mem_map.1 h
  obtain ⟨h1, h2⟩ := List.mem_filter.1 hj
  exact ⟨j, List.mem_range.1 h1, h2, rfl⟩
theorem en_get (on : List Bool) (i : Nat) (h : i < cnt on) : ∃ j : Nat, j < on.length ∧ on.getD j false = true ∧ (en on on.length).getD i 0 = (j : Int) := by
  have h : i < (en on on.length).length := h
  have hm := List.getElem_mem h
  obtain ⟨j, h1, h2, h3⟩ := en_mem hm
  exact ⟨j, h1, h2, by rw [← h3]; simp [List.getD_eq_getElem?_getD, h]⟩
theorem en_lt (on : List Bool) (i : Nat) (h : i + 1 < cnt on) : (en on on.length).getD i 0 < (en on on.length).getD (i + 1) 0 := by
  have h : i + 1 < (en on on.length).length := h
  have := List.pairwise_iff_getElem.1 (en_sorted on on.length) i (i + 1) (by omega) h (by omega)
  simpa [List.getD_eq_getElem?_getD, h, show i < (en on on.length).length by omega] using this

def lastI (on : List Bool) (i : Nat) : Int := if i = 0 then -1 else (en on on.length).getD (i - 1) 0
theorem pk_small (on : List Bool) (i : Nat) (h : i < cnt on) : pk on i = (en on on.length).getD i 0 := by
  unfold pk
  rw [Int.emod_eq_of_lt (by omega) (by omega)]
  simp
theorem pk_add (on : List Bool) (k : Int) : pk on (k + cnt on) = pk on k := by
  unfold pk
  rw [Int.add_emod_right]

theorem step (on : List Bool) (k : Int) (hs : on.length ≤ 60) (i : Nat) (hi : i < cnt on) : Gets E 0 (ht on k (cnt on) (lastI on i) i) (ht on k (cnt on) (lastI on (i + 1)) (i + 1 : Nat)) := by
  have hl : cnt on ≤ on.length := en_len on on.length
  have h := tb6 on k (cnt on) (lastI on i) i
  simp only [onOf_mk] at h
  rw [wrap64_in (x := (i : Int) + cnt on) (by omega) (by omega), wrap64_in (x := (i : Int) + 1) (by omega) (by omega), pk_add, pk_small on i hi] at h
  obtain ⟨j, j1, j2, j3⟩ := en_get on i hi
  have hlast : lastI on i < (en on on.length).getD i 0 := by
    unfold lastI
    split
    · rw [j3]; omega
    · rename_i h0
      have := en_lt on (i - 1) (by omega)
      rwa [show i - 1 + 1 = i by omega] at this
  rw [j3] at h hlast
  refine (reach_gg kT2_ok h ?_ (Nat.zero_le _) (fun i hi => absurd hi (Nat.not_lt_zero _))).eq ?_
  · have j2' : on[j] = true := by simpa [List.getD_eq_getElem?_getD, j1] using j2
    simp [AllT.cons, AllT.nil, isBool, Am.toBool, j1, j2', hi, hlast]
    omega
  · have : lastI on (i + 1) = (j : Int) := by unfold lastI; simp [← j3]
    rw [this]
    simp [ht, onB]

theorem loop (on : List Bool) (k : Int) (hs : on.length ≤ 60) : ∀ i, i ≤ cnt on → Gets E 0 (ht on k (cnt on) (-1) 0) (ht on k (cnt on) (lastI on i) i)
  | 0, _ => Gets.refl _
  | i + 1, h => (loop on k hs i (by omega)).trans (step on k hs i (by omega))

theorem walk (on : List Bool) (_ : on.length ≤ maxLen) (k : Int) (_ : (Lit.int .i64 k).wf = true) (W : World) (args' : Array Value) (ha : ∀ ρ, VL (prOf W) (AN []) ρ [.iface on.length (.agg (on.map Value.bool).toArray), .int .i64 k] args'.toList) :
    Calls Try.prog 3 args' W fun e w' => e = .returned (.bool true) ∧ Stays W w' := by
  by_cases h1 : 60 < on.length
  · exact calls_of_end kT2_ok (by kernel_rfl) (Gets.refl _) (ta1 on k) (by simp [AllT.cons, AllT.nil, one]; omega) (by kernel_rfl) rfl ha
  by_cases h2 : k < -1099511627776
  · exact calls_of_end kT2_ok (by kernel_rfl) (Gets.refl _) (ta2 on k) (by simp [AllT.cons, AllT.nil, one]; omega) (by kernel_rfl) rfl ha
  by_cases h3 : 1099511627776 < k
  · exact calls_of_end kT2_ok (by kernel_rfl) (Gets.refl _) (ta3 on k) (by simp [AllT.cons, AllT.nil, one]; omega) (by kernel_rfl) rfl ha
  have hl : cnt on ≤ on.length := en_len on on.length
  have h0 : Gets E 0 (startC E 3 [.iface on.length (.agg (on.map Value.bool).toArray), .int .i64 k] []) (ht on k (cnt on) (-1) 0) := by
    have h := ta4 on k
    simp only [onOf_mk] at h
    refine (reach_gg kT2_ok h ?_ (Nat.zero_le _) (fun i hi => absurd hi (Nat.not_lt_zero _))).eq ?_
    · simp [AllT.cons, AllT.nil, one, isBool]
      omega
    · simp [ht, onB]
  have h := tb7 on k (cnt on) (lastI on (cnt on)) (cnt on)
  simp only [onOf_mk] at h
  rw [wrap64_in (x := k + (cnt on : Int)) (by omega) (by omega), pk_add] at h
  exact calls_of_end kT2_ok (by kernel_rfl) (h0.trans (loop on k (by omega) (cnt on) (Nat.le_refl _))) h (by
    simp [AllT.cons, AllT.nil, isBool]
    omega) (by kernel_rfl) rfl ha

theorem own : ownKnob Try.prog.godebug = none := by kernel_rfl
theorem laid : laidOutB Try.prog = true := by kernel_rfl

set_option maxRecDepth 100000 in
theorem lifted (os : Os) (started : os.Started) (H : Type) (enc : TypeId × Value → H) :
    ReturnsInHanded {} Try.checked os 3 .any (Rows.schedTurnsSpec.pre6 enc Try.prog Try.f3 Rows.schedTurnsRow.domain false) (Rows.schedTurnsSpec.post enc Try.prog Try.f3 false true false false) := by
  refine returnsInHanded_of_change (C := Try.checked) own started (by kernel_rfl) Try.func3
    (ChangeSpec.witness6 (enc := enc) (C := Try.checked) false ⟨#[], #[.slice none 0 0, .int .i64 0], []⟩ 8 (by kernel_rfl) (by kernel_rfl) (by kernel_rfl) (by kernel_rfl)) ?_
  intro W base args ds gs before hval0 hW hcnd _
  have hval : ∀ (j : Nat) t v, Try.f3.params[j]? = some t → args[j]? = some v → Value.okWide Try.prog W .any base t v := hval0
  have hW' := hW
  obtain ⟨p, q, hA0, hV, rfl, hfz, hnd⟩ := hW
  have hA : DataW.TrodAll enc Try.prog W 0 (fun _ => true) true Try.f3.params.toList args.toList ds p := hA0
  rw [Try.params3] at hA hval
  obtain ⟨v0, vs0, d0, ds0, p0, q0, hargs, rfl, rfl, h0, r0⟩ := trodAll_cons hA
  obtain ⟨v1, vs1, d1, ds1, p1, q1, rfl, rfl, rfl, h1, r1⟩ := trodAll_cons r0
  obtain ⟨rfl, rfl, rfl⟩ := trodAll_nil r1
  obtain rfl : args = #[v0, v1] := by cases args; simp_all
  obtain ⟨a0, x0, w0⟩ := read_bools Try.underlying22 Try.underlying4 (by kernel_rfl) (hval 0 22 v0 rfl rfl) h0
  obtain ⟨a1, x1, w1⟩ := read_int Try.underlying3 (hval 1 3 v1 rfl rfl) h1
  refine (walk a0 w0 a1 w1 W _ (fun ρ => .cons (x0 _ _) (.cons (x1 _ _) (.nil)))).mono fun e W' ⟨he, hg⟩ => ?_
  subst he
  exact ⟨_, rfl, post_law (tb := 4) laid (by rw [Try.params3]; intro t ht; simp only [List.mem_cons, List.not_mem_nil, or_false] at ht; rcases ht with rfl | rfl <;> exact ⟨by kernel_rfl, by decide +kernel⟩) rfl (by kernel_rfl) Try.underlying4 (by rintro _ rfl; rfl) hW' hg⟩

theorem over : Rows.schedTurnsRow.holds Try.pinned (OpenSpec.ofChange Rows.schedTurnsSpec) :=
  OpenClaim.holds_of_wide 3 Try.f3 rfl rfl rfl rfl rfl rfl rfl ⟨rfl, rfl, rfl, rfl, rfl⟩ rfl rfl rfl rfl rfl (by kernel_rfl) Try.func3 (by kernel_rfl)
    (of_decide_eq_true (by kernel_rfl)) (by unfold Func.isWrapper; first | (rw [if_pos (by decide +kernel)]; kernel_rfl) | (rw [if_neg (by decide +kernel)]; exact ⟨rfl, rfl⟩))
    (fun os started H enc _ => lifted os started H enc)

theorem proved : Rows.SchedTurnsSaid :=
  over

end Go.Proofs.Ytagacgeamobjcaa.schedTurns
