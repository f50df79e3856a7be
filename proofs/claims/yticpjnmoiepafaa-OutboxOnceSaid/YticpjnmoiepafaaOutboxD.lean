/-
  A ring of items: what its functions do to the list of things that it holds; Push as a contract.
-/
import Derived.Test.YticpjnmoiepafaaOutboxP
import Derived.Test.YticpjnmoiepafaaOutboxB
set_option linter.unusedVariables false
set_option linter.unusedSimpArgs false
open Go Go.Am
namespace Go.Proofs.Yticpjnmoiepafaa

abbrev mT : Type := (Int × Int × ByteArray)
def mC (x : mT) : List Value := [.int .i64 x.1, .int .i64 x.2.1, .string x.2.2]
def mE (e : List Value) : Prop := ∃ x, e = mC x
def mZ : List Value := [.int .i64 0, .int .i64 0, .string ⟨#[]⟩]
theorem mEl : El 3 mE mZ := ⟨fun e ⟨s, h⟩ => by rw [h]; rfl, fun e ⟨s, h⟩ => by rw [h]; rfl, ⟨(0, 0, ⟨#[]⟩), rfl⟩, by omega⟩
def mQ (l : List mT) : List (List Value) := l.map mC
theorem mQ_get {l : List mT} {i : Nat} {x : mT} (h : l[i]? = some x) : (mQ l)[i]? = some (mC x) := by simp [mQ, h]
theorem mQ_len (l : List mT) : (mQ l).length = l.length := by simp [mQ]
theorem mQ_app (l : List mT) (x : mT) : mQ (l ++ [x]) = mQ l ++ [mC x] := by simp [mQ]
theorem mQ_E (l : List mT) : ∀ e ∈ mQ l, mE e := by
 intro e he
 obtain ⟨x, _, rfl⟩ := List.mem_map.1 he
 exact ⟨x, rfl⟩
theorem mQ_flen (l : List mT) : (mQ l).flatten.length = l.length * 3 := by rw [flat_len (w := 3) (fun e he => mEl.len e (mQ_E l e he)), mQ_len]
theorem mQ_flat (l : List mT) : (mQ l).flatten.all flat = true := all_flat mEl.flat (mQ_E l)
structure mR (mx first n : Int) (ln : Nat) (L : List Value) (l : List mT) : Prop where
 rep : Rep mE first n ln L (mQ l)
 lnm : (ln : Int) ≤ mx
 mxl : mx ≤ 65536
theorem mR_nil {mx : Int} (h0 : 0 ≤ mx) (h1 : mx ≤ 65536) : mR mx 0 0 0 [] [] := ⟨⟨[], rfl, rfl, by simp, by omega, by omega, rfl, by simp [mQ], by simp [mQ]⟩, by omega, h1⟩

section
variable {mx first n : Int} {ln : Nat} {L : List Value} {l : List mT}
theorem mR_n (h : mR mx first n ln L l) : n = l.length ∧ l.length ≤ ln ∧ 0 ≤ first ∧ (first < ln ∨ first = 0 ∧ ln = 0) ∧ (ln : Int) ≤ mx ∧ mx ≤ 65536 := by
 have m1 := h.lnm
 have m2 := h.mxl
 obtain ⟨es, h1, h2, h3, h4, h5, h6, h7, h8⟩ := h.rep
 rw [mQ_len] at h6 h7
 exact ⟨h6, h7, h4, h5, m1, m2⟩
theorem mR_flat (h : mR mx first n ln L l) : L.all flat = true := h.rep.flat mEl
theorem mR_len (h : mR mx first n ln L l) : L.length = ln * 3 := h.rep.len mEl
theorem mR_get (h : mR mx first n ln L l) {i : Nat} {x : mT} (hx : l[i]? = some x) : L.getD (0 + ((first.toNat + i) % ln) * 3 + 0) undef = .int .i64 x.1 ∧ L.getD (0 + ((first.toNat + i) % ln) * 3 + 1) undef = .int .i64 x.2.1 ∧ L.getD (0 + ((first.toNat + i) % ln) * 3 + 2) undef = .string x.2.2 := by
 have g := fun (k : Nat) (hk : k < 3) => h.rep.get mEl (mQ_get hx) (k := k) hk
 exact ⟨(by have := g 0 (by omega); rw [Nat.zero_add (_ * 3)]; exact this), (by have := g 1 (by omega); rw [Nat.zero_add (_ * 3)]; exact this), (by have := g 2 (by omega); rw [Nat.zero_add (_ * 3)]; exact this)⟩
theorem mQ_getD {i : Nat} {x : mT} (hx : l[i]? = some x) : (mQ l).flatten.getD (0 + i * 3 + 0) undef = .int .i64 x.1 ∧ (mQ l).flatten.getD (0 + i * 3 + 1) undef = .int .i64 x.2.1 ∧ (mQ l).flatten.getD (0 + i * 3 + 2) undef = .string x.2.2 := by
 have g := fun (k : Nat) (hk : k < 3) => getD_flat (w := 3) (es := mQ l) (fun e he => mEl.len e (mQ_E l e he)) (mQ_get hx) (k := k) hk
 exact ⟨(by have := g 0 (by omega); rw [Nat.zero_add (_ * 3)]; exact this), (by have := g 1 (by omega); rw [Nat.zero_add (_ * 3)]; exact this), (by have := g 2 (by omega); rw [Nat.zero_add (_ * 3)]; exact this)⟩
theorem mzeros (k : Nat) : (rep mZ k).all flat = true := by
 rw [rep_flat]; exact all_flat mEl.flat (fun e he => by rw [(List.mem_replicate.1 he).2]; exact mEl.z)

theorem mpop_nil (h : mR mx first n ln L []) : mpop_S0 mx first n ln L ∧ mpop_t0 mx first n ln L = (0, 0, ⟨#[]⟩, false, first, n, L) := by
 have hLf := mR_flat h
 obtain ⟨a1, _⟩ := mR_n h
 have : n = 0 := a1
 unfold mpop_S0 mpop_t0
 rw [decide_eq_true (by omega : n ≤ 0)]
 exact ⟨⟨fun _ => hLf, (fun h => by cases h)⟩, rfl⟩
theorem mpop_cons {x : mT} (h : mR mx first n ln L (x :: l)) : mpop_S0 mx first n ln L ∧ ∃ f' n' L', mpop_t0 mx first n ln L = (x.1, x.2.1, x.2.2, true, f', n', L') ∧ mR mx f' n' ln L' l := by
 obtain ⟨a1, a2, a4, a5, a6, a7⟩ := mR_n h
 simp only [List.length_cons] at a1 a2
 have hidx : (IntKind.i64.wrap (first + 0)).tmod (ln : Int) = ((first.toNat + 0) % ln : Nat) := mod_idx (i := 0) a4 (by omega) (by omega) (by omega) (by omega)
 have hidx1 : (IntKind.i64.wrap (first + 1)).tmod (ln : Int) = ((first.toNat + 1) % ln : Nat) := mod_idx (i := 1) a4 (by omega) (by omega) (by omega) (by omega)
 have hj : (first.toNat + 0) % ln < ln := Nat.mod_lt _ (by omega)
 have hget := mR_get h (i := 0) (x := x) rfl
 have hL := mR_len h
 have hp := h.rep.pop mEl
 have hpf := hp.flat mEl
 have d1 : decide (n ≤ 0) = false := by simp; omega
 have hN : ((ln : Int) != 0) = true := by simp; omega
 have hz : 0 + first.toNat * 3 = first.toNat * 3 := Nat.zero_add _
 constructor
 ·unfold mpop_S0
  simp only [d1, hidx, Int.toNat_natCast, hget, hz]
  refine ⟨(fun h => by cases h), fun _ => ?_⟩
  refine ⟨hpf, ?_⟩
  repeat' apply And.intro
  all_goals first | assumption | rfl | exact beq_self_eq_true _ | omega
 ·refine ⟨(((first.toNat + 1) % ln : Nat) : Int), n - 1, setN L (first.toNat * 3) mZ, ?_, hp, h.lnm, h.mxl⟩
  unfold mpop_t0
  simp only [d1, hidx, Int.toNat_natCast, hget, hidx1, hz]
  rw [wrap64_in (by omega) (by omega)]
  rfl
theorem mlen_in (h : mR mx first n ln L l) : mlen_S0 mx first n ln L := mR_flat h

/-! ### Push -/
theorem mpush_l1 (h : mR mx first n ln L l) (x : mT) : ∀ i, i ≤ l.length → Gets E 1 (mpush_h1 mx first n ln L x.1 x.2.1 x.2.2 0 0 []) (mpush_h1 mx first n ln L x.1 x.2.1 x.2.2 i i (mQ (l.take i)).flatten)
 | 0, _ => Gets.refl _
 | i + 1, hi => by
  refine (mpush_l1 h x i (by omega)).trans ?_
  obtain ⟨a1, a2, a4, a5, a6, a7⟩ := mR_n h
  obtain ⟨y, hy⟩ : ∃ y, l[i]? = some y := ⟨_, List.getElem?_eq_getElem (by omega)⟩
  have hidx : (IntKind.i64.wrap (first + (i : Int))).tmod (ln : Int) = ((first.toNat + i) % ln : Nat) := mod_idx a4 (by omega) (by omega) (by omega) (by omega)
  have hj : (first.toNat + i) % ln < ln := Nat.mod_lt _ (by omega)
  have hget := mR_get h hy
  have hL := mR_len h
  have hLf := mR_flat h
  have hT : (mQ (l.take i)).flatten.length = i * 3 := by rw [mQ_flen]; simp; omega
  have hTf := mQ_flat (l.take (i + 1))
  have hN : ((ln : Int) != 0) = true := by simp; omega
  have hz := mzeros (growN mx ln)
  have htk : List.take (i * 3) (List.drop 0 (mQ (l.take i)).flatten) = (mQ (l.take i)).flatten := by
   rw [List.drop_zero, List.take_of_length_le (by omega)]
  have hnx : (mQ (l.take i)).flatten ++ mC y = (mQ (l.take (i + 1))).flatten := by
   rw [List.take_add_one, hy, Option.toList_some, mQ_app, List.flatten_append, List.flatten_cons, List.flatten_nil, List.append_nil]
  have w := mpush_w1_3 mx first n ln L x.1 x.2.1 x.2.2 i i (mQ (l.take i)).flatten
  simp only [hidx, Int.toNat_natCast, hget, htk, toInt, toStr, isInt, isStr] at w
  rw [show (bif decide (mx < bif decide (IntKind.i64.wrap (2 * (ln : Int)) < 8) then 8 else IntKind.i64.wrap (2 * (ln : Int))) then mx else bif decide (IntKind.i64.wrap (2 * (ln : Int)) < 8) then 8 else IntKind.i64.wrap (2 * (ln : Int))).toNat = growN mx ln from rfl, show ([.int .i64 y.1, .int .i64 y.2.1, .string y.2.2] : List Value) = mC y from rfl, hnx, wrap64_in (by omega) (by omega)] at w
  exact w hTf hLf hz (by omega) (by omega) (by omega) (beq_self_eq_true _) (by omega) (decide_eq_true trivial) (decide_eq_true trivial) trivial (by omega) (by omega) hN (by simp; omega) (by simp) (by simp; omega)
theorem mpush_l2 (h : mR mx first n ln L l) (x : mT) (hn : n = ln) (hmx : n < mx) : ∀ i, i ≤ l.length → Gets E 1 (mpush_h2 mx first n ln L x.1 x.2.1 x.2.2 l.length (mQ l).flatten 0 (rep mZ (growN mx ln))) (mpush_h2 mx first n ln L x.1 x.2.1 x.2.2 l.length (mQ l).flatten i ((mQ (l.take i)).flatten ++ (List.replicate (growN mx ln - i) mZ).flatten))
 | 0, _ => by
  rw [rep_flat]
  exact Gets.refl _
 | i + 1, hi => by
  refine (mpush_l2 h x hn hmx i (by omega)).trans ?_
  obtain ⟨a1, a2, a4, a5, a6, a7⟩ := mR_n h
  obtain ⟨y, hy⟩ : ∃ y, l[i]? = some y := ⟨_, List.getElem?_eq_getElem (by omega)⟩
  have hg := growN_val a6 a7
  have hLf := mR_flat h
  have hQf := mQ_flat l
  have hget := mQ_getD hy
  have hQl := mQ_flen l
  have hTl : (mQ (l.take i)).length = i := by rw [mQ_len]; simp; omega
  have hEm : ∀ e ∈ mQ (l.take i) ++ List.replicate (growN mx ln - i) mZ, mE e := fun e he => by
   rcases List.mem_append.1 he with h | h
   ·exact mQ_E _ e h
   ·rw [(List.mem_replicate.1 h).2]; exact mEl.z
  have hEl : ((mQ (l.take i)).flatten ++ (List.replicate (growN mx ln - i) mZ).flatten).length = (i + (growN mx ln - i)) * 3 := by
   rw [← List.flatten_append, flat_len (w := 3) (fun e he => mEl.len e (hEm e he)), List.length_append, hTl, List.length_replicate]
  have hset : setN ((mQ (l.take i)).flatten ++ (List.replicate (growN mx ln - i) mZ).flatten) (0 + i * 3) (mC y) = (mQ (l.take (i + 1))).flatten ++ (List.replicate (growN mx ln - (i + 1)) mZ).flatten := by
   rw [← List.flatten_append, Nat.zero_add, setN_flat (w := 3) (fun e he => mEl.len e (hEm e he)) rfl (by rw [List.length_append, hTl, List.length_replicate]; omega), ← List.flatten_append]
   congr 1
   rw [List.set_append_right _ _ (by omega), hTl, Nat.sub_self, show growN mx ln - i = (growN mx ln - (i + 1)) + 1 by omega, List.replicate_succ, List.set_cons_zero, List.take_add_one, hy, Option.toList_some, mQ_app, List.append_assoc]
   rfl
  have hEf : ((mQ (l.take (i + 1))).flatten ++ (List.replicate (growN mx ln - (i + 1)) mZ).flatten).all flat = true := by
   rw [← List.flatten_append]
   exact all_flat mEl.flat (fun e he => by
    rcases List.mem_append.1 he with h | h
    ·exact mQ_E _ e h
    ·rw [(List.mem_replicate.1 h).2]; exact mEl.z)
  have w := mpush_w2_0 mx first n ln L x.1 x.2.1 x.2.2 l.length (mQ l).flatten i ((mQ (l.take i)).flatten ++ (List.replicate (growN mx ln - i) mZ).flatten)
  simp only [Int.toNat_natCast, hget, toInt, toStr, isInt, isStr] at w
  rw [show (bif decide (mx < bif decide (IntKind.i64.wrap (2 * (ln : Int)) < 8) then 8 else IntKind.i64.wrap (2 * (ln : Int))) then mx else bif decide (IntKind.i64.wrap (2 * (ln : Int)) < 8) then 8 else IntKind.i64.wrap (2 * (ln : Int))).toNat = growN mx ln from rfl, show ([.int .i64 y.1, .int .i64 y.2.1, .string y.2.2] : List Value) = mC y from rfl, hset, wrap64_in (by omega) (by omega)] at w
  exact w hQf hLf hEf (by omega) (by omega) (by omega) (by omega) (decide_eq_true trivial) (decide_eq_true trivial) trivial (by omega) (by simp; omega)
noncomputable def mpushR (mx first n : Int) (ln : Nat) (L : List Value) (x : mT) : Bool × Int × Int × Nat × List Value := pushF 3 mZ mx first n ln L (mC x)
theorem mpush_fin1 {C : Cfg} {args : List Value} {H : Heap} {b : Bool} {f' n' : Int} {ln' : Nat} {L' : List Value} (h : AEnds E 31 1 (startC E 31 args H) (.bool b) [some (.cells [.int .i64 mx, .int .i64 f', .int .i64 n', .slice (some ⟨1, 0, none⟩) ln' 0] 70 none), some (.cells L' 30 (some 3))])
  (hs : canStart E 31 args = true) (hH : H.length = 2) (hf : L'.all flat = true) : CallOk E 31 args H (.bool b) [some (.cells [.int .i64 mx, .int .i64 f', .int .i64 n', .slice (some ⟨2, 0, none⟩) ln' 0] 70 none), none, some (.cells L' 30 (some 3))] :=
 callOk_mov (ok := [L'.all flat]) h (by rw [hH]; kernel_rfl) (by simp [AllT, hf]) hs (by rw [hH]; exact Nat.le_of_ble_eq_true (by kernel_rfl)) (Nat.le_of_ble_eq_true (by kernel_rfl))
theorem mpush_fin2 {C : Cfg} {args : List Value} {H : Heap} {b : Bool} {f' n' : Int} {ln' : Nat} {L' : List Value} (h : AEnds E 31 1 (startC E 31 args H) (.bool b) [some (.cells [.int .i64 mx, .int .i64 f', .int .i64 n', .slice (some ⟨1, 0, none⟩) ln' ln'] 70 none), some (.cells L' 30 none)])
  (hs : canStart E 31 args = true) (hH : H.length = 2) (hf : L'.all flat = true) (hl : L'.length = ln' * 3) (hm : ln' ≤ maxLen) : CallOk E 31 args H (.bool b) [some (.cells [.int .i64 mx, .int .i64 f', .int .i64 n', .slice (some ⟨2, 0, none⟩) ln' 0] 70 none), none, some (.cells L' 30 (some 3))] := by
 have h2 : CallOk E 31 args H (.bool b) [some (.cells [.int .i64 mx, .int .i64 f', .int .i64 n', .slice (some ⟨2, 0, none⟩) ln' ln'] 70 none), none, some (.cells L' 30 none)] :=
  callOk_mov (ok := [L'.all flat]) h (by rw [hH]; kernel_rfl) (by simp [AllT, hf]) hs (by rw [hH]; exact Nat.le_of_ble_eq_true (by kernel_rfl)) (Nat.le_of_ble_eq_true (by kernel_rfl))
 exact callOk_flex (b := 2) (z := 3) (ok := [decide (0 + ln' * 3 ≤ L'.length), decide (ln' ≤ maxLen), L'.all flat]) h2 (by kernel_rfl) (by
  have : 0 + ln' * 3 ≤ L'.length := by omega
  simp only [AllT.cons]
  exact ⟨decide_eq_true this, decide_eq_true hm, hf, AllT.nil⟩) (by omega)
theorem mpushR_flat (h : mR mx first n ln L l) (x : mT) : (mpushR mx first n ln L x).2.2.2.2.all flat = true := by
 unfold mpushR
 by_cases c : mx ≤ n
 ·rw [pushF_full c]; exact h.rep.flat mEl
 ·exact (pushF_ok mEl h.rep (x := mC x) ⟨x, rfl⟩ (by omega) h.lnm h.mxl).2.2.flat mEl
theorem mpush_full (x : mT) (hn : mx ≤ n) : mpushR mx first n ln L x = (false, first, n, ln, L) := pushF_full hn
theorem mpush_in (h : mR mx first n ln L l) (x : mT) (hn : n < mx) : ∃ f' n' ln' L', mpushR mx first n ln L x = (true, f', n', ln', L') ∧ mR mx f' n' ln' L' (l ++ [x]) := by
 have hb := pushF_ok mEl h.rep (x := mC x) ⟨x, rfl⟩ hn h.lnm h.mxl
 unfold mpushR
 rcases hp : pushF 3 mZ mx first n ln L (mC x) with ⟨b, f', n', ln', L'⟩
 rw [hp] at hb
 obtain ⟨b1, b2, b3⟩ := hb
 have b1 : b = true := b1
 subst b1
 exact ⟨f', n', ln', L', rfl, by rw [mQ_app]; exact b3, b2, h.mxl⟩
end

def mpushc_pre (mx first n : Int) (ln : Nat) (L : List Value) (k o : Int) (x : ByteArray) : Prop := ∃ l, mR mx first n ln L l
noncomputable def mpushc_v (mx first n : Int) (ln : Nat) (L : List Value) (k o : Int) (x : ByteArray) : Value := .bool (mpushR mx first n ln L (k, o, x)).1
noncomputable def mpushc_h (mx first n : Int) (ln : Nat) (L : List Value) (k o : Int) (x : ByteArray) : Heap := [some (.cells [.int .i64 mx, .int .i64 (mpushR mx first n ln L (k, o, x)).2.1, .int .i64 (mpushR mx first n ln L (k, o, x)).2.2.1, .slice (some ⟨2, 0, none⟩) (mpushR mx first n ln L (k, o, x)).2.2.2.1 0] 70 none), none, some (.cells (mpushR mx first n ln L (k, o, x)).2.2.2.2 30 (some 3))]
theorem mpushc_ok {mx first n : Int} {ln : Nat} {L : List Value} {l : List mT} (h : mR mx first n ln L l) (x : mT) :
  CallOk E 31 [.pointer (some ⟨0, 0, none⟩), .agg #[.int .i64 x.1, .int .i64 x.2.1, .string x.2.2]] [some (.cells [.int .i64 mx, .int .i64 first, .int .i64 n, .slice (some ⟨1, 0, none⟩) ln 0] 70 none), some (.cells L 30 (some 3))] (.bool (mpushR mx first n ln L x).1) [some (.cells [.int .i64 mx, .int .i64 (mpushR mx first n ln L x).2.1, .int .i64 (mpushR mx first n ln L x).2.2.1, .slice (some ⟨2, 0, none⟩) (mpushR mx first n ln L x).2.2.2.1 0] 70 none), none, some (.cells (mpushR mx first n ln L x).2.2.2.2 30 (some 3))] := by
 have hfl := mpushR_flat h x
 obtain ⟨a1, a2, a4, a5, a6, a7⟩ := mR_n h
 have hL := mR_len h
 have hLf := mR_flat h
 have hg := growN_val a6 a7
 have hz := mzeros (growN mx ln)
 unfold mpushR at hfl ⊢
 by_cases c1 : mx ≤ n
 ·rw [pushF_full c1]
  have w := mpush_w0_0 mx first n ln L x.1 x.2.1 x.2.2 hLf (decide_eq_true c1)
  exact mpush_fin1 (C := startC E 31 [] []) w (by kernel_rfl) rfl hLf
 by_cases c2 : n = (ln : Int)
 ·have d2 : (n == (ln : Int)) = true := by simp [c2]
  have w := mpush_w0_1 mx first n ln L x.1 x.2.1 x.2.2
  have w := w hLf hz (by
   rw [wrap64_in (by omega) (by omega)]; have hg' := hg; unfold growN at hg'; rw [wrap64_in (by omega) (by omega)] at hg'; omega) (by
   rw [wrap64_in (by omega) (by omega)]; have hg' := hg; unfold growN at hg'; rw [wrap64_in (by omega) (by omega)] at hg'; omega) (by
   rw [wrap64_in (by omega) (by omega)]; have hg' := hg; unfold growN at hg'; rw [wrap64_in (by omega) (by omega)] at hg'; omega) d2 (decide_eq_false c1)
  have e1 := mpush_l1 h x l.length (Nat.le_refl _)
  rw [List.take_length] at e1
  have w1 := mpush_w1_1 mx first n ln L x.1 x.2.1 x.2.2 l.length l.length (mQ l).flatten (mQ_flat l) hLf hz (by simp; omega)
  have e2 := mpush_l2 h x c2 (by omega) l.length (Nat.le_refl _)
  rw [List.take_length] at e2
  have hidx : (IntKind.i64.wrap (0 + IntKind.i64.wrap (IntKind.i64.wrap (n + 1) - 1))).tmod (growN mx ln : Int) = ((l.length : Nat) : Int) := by
   rw [wrap64_in (x := n + 1) (by omega) (by omega), wrap64_in (x := n + 1 - 1) (by omega) (by omega), mod_idx (by omega) (by omega) (by omega) (by omega) (by omega)]
   rw [show (0 : Int).toNat + (n + 1 - 1).toNat = l.length by omega, Nat.mod_eq_of_lt (by omega)]
  have hEm : ∀ e ∈ mQ l ++ List.replicate (growN mx ln - l.length) mZ, mE e := fun e he => by
   rcases List.mem_append.1 he with h | h
   ·exact mQ_E l e h
   ·rw [(List.mem_replicate.1 h).2]; exact mEl.z
  have hEl : ((mQ l).flatten ++ (List.replicate (growN mx ln - l.length) mZ).flatten).length = (l.length + (growN mx ln - l.length)) * 3 := by
   rw [← List.flatten_append, flat_len (w := 3) (fun e he => mEl.len e (hEm e he)), List.length_append, mQ_len, List.length_replicate]
  have hset : setN ((mQ l).flatten ++ (List.replicate (growN mx ln - l.length) mZ).flatten) (0 + l.length * 3) (mC x) = (mQ l).flatten ++ (mC x ++ (List.replicate (growN mx ln - n.toNat - 1) mZ).flatten) := by
   rw [← List.flatten_append, Nat.zero_add, setN_flat (w := 3) (fun e he => mEl.len e (hEm e he)) rfl (by rw [List.length_append, mQ_len, List.length_replicate]; omega)]
   rw [List.set_append_right _ _ (by rw [mQ_len]; omega), mQ_len, Nat.sub_self, show growN mx ln - l.length = (growN mx ln - n.toNat - 1) + 1 by omega, List.replicate_succ, List.set_cons_zero, List.flatten_append, List.flatten_cons]
  have hpe : pushF 3 mZ mx first n ln L (mC x) = (true, 0, n + 1, growN mx ln, (mQ l).flatten ++ (mC x ++ (List.replicate (growN mx ln - n.toNat - 1) mZ).flatten)) := by
   unfold pushF
   rw [decide_eq_false c1, cond_false, decide_eq_true c2, cond_true, h.rep.elems mEl]
  rw [hpe] at hfl ⊢
  have w2 := mpush_w2_1 mx first n ln L x.1 x.2.1 x.2.2 l.length (mQ l).flatten l.length ((mQ l).flatten ++ (List.replicate (growN mx ln - l.length) mZ).flatten)
  rw [show (bif decide (mx < bif decide (IntKind.i64.wrap (2 * (ln : Int)) < 8) then 8 else IntKind.i64.wrap (2 * (ln : Int))) then mx else bif decide (IntKind.i64.wrap (2 * (ln : Int)) < 8) then 8 else IntKind.i64.wrap (2 * (ln : Int))).toNat = growN mx ln from rfl] at w2
  simp only [hidx, Int.toNat_natCast] at w2
  rw [show ([.int .i64 x.1, .int .i64 x.2.1, .string x.2.2] : List Value) = mC x from rfl, hset, wrap64_in (by omega) (by omega)] at w2
  have hN : ((growN mx ln : Int) != 0) = true := by simp; omega
  have w2' := w2 hfl (beq_self_eq_true _) (beq_self_eq_true _) (by omega) (by omega) (by omega) hN (by simp)
  have hfin := ((w.trans e1).trans (w1.trans e2)).ends w2'
  refine mpush_fin2 (C := startC E 31 [] []) hfin (by kernel_rfl) rfl hfl ?_ ?_
  ·rw [← hset, ← List.flatten_append, Nat.zero_add, setN_flat (w := 3) (fun e he => mEl.len e (hEm e he)) rfl (by rw [List.length_append, mQ_len, List.length_replicate]; omega), flat_len (w := 3) (fun e he => by
    rcases List.mem_or_eq_of_mem_set he with h | h
    ·exact mEl.len e (hEm e h)
    ·rw [h]; rfl), List.length_set, List.length_append, mQ_len, List.length_replicate, show l.length + (growN mx ln - l.length) = growN mx ln by omega]
  ·show growN mx ln ≤ 9223372036854775807; omega
 ·have d2 : (n == (ln : Int)) = false := by simp [c2]
  have hidx : (IntKind.i64.wrap (first + IntKind.i64.wrap (IntKind.i64.wrap (n + 1) - 1))).tmod (ln : Int) = ((first.toNat + n.toNat) % ln : Nat) := by
   rw [wrap64_in (x := n + 1) (by omega) (by omega), wrap64_in (x := n + 1 - 1) (by omega) (by omega), mod_idx (by omega) (by omega) (by omega) (by omega) (by omega)]
   rw [show (n + 1 - 1).toNat = n.toNat by omega]
  have hj : (first.toNat + n.toNat) % ln < ln := Nat.mod_lt _ (by omega)
  have hN : ((ln : Int) != 0) = true := by simp; omega
  have hpe : pushF 3 mZ mx first n ln L (mC x) = (true, first, n + 1, ln, setN L (((first.toNat + n.toNat) % ln) * 3) (mC x)) := by
   unfold pushF
   rw [decide_eq_false c1, cond_false, decide_eq_false c2, cond_false]
  rw [hpe] at hfl ⊢
  have w := mpush_w0_2 mx first n ln L x.1 x.2.1 x.2.2
  simp only [hidx, Int.toNat_natCast, Nat.zero_add] at w
  rw [show ([.int .i64 x.1, .int .i64 x.2.1, .string x.2.2] : List Value) = mC x from rfl, wrap64_in (by omega) (by omega)] at w
  have w' := w hfl (beq_self_eq_true _) (beq_self_eq_true _) (by omega) (by omega) (by omega) hN d2 (decide_eq_false c1)
  exact mpush_fin1 (C := startC E 31 [] []) w' (by kernel_rfl) rfl hfl
theorem mpushc_call (mx first n : Int) (ln : Nat) (L : List Value) (k o : Int) (x : ByteArray) (h : mpushc_pre mx first n ln L k o x) :
  CallOk E 31 [.pointer (some ⟨0, 0, none⟩), .agg #[.int .i64 k, .int .i64 o, .string x]] [some (.cells [.int .i64 mx, .int .i64 first, .int .i64 n, .slice (some ⟨1, 0, none⟩) ln 0] 70 none), some (.cells L 30 (some 3))] (mpushc_v mx first n ln L k o x) (mpushc_h mx first n ln L k o x) := by
 obtain ⟨l, h⟩ := h
 exact mpushc_ok h (k, o, x)

def mpushc_ex (a : List Value) (h : Heap) : Int × Int × Int × Nat × List Value × Int × Int × ByteArray := ((toInt ((cellsOf h 0).getD 0 undef)), (toInt ((cellsOf h 0).getD 1 undef)), (toInt ((cellsOf h 0).getD 2 undef)), (sliceLen ((cellsOf h 0).getD 3 undef)), (cellsOf h 1), (toInt ((aggOf (a.getD 1 undef)).getD 0 undef)), (toInt ((aggOf (a.getD 1 undef)).getD 1 undef)), (toStr ((aggOf (a.getD 1 undef)).getD 2 undef)))
noncomputable def mpushc_k : Ct := kS mpushc_ex [.ptr 0 0, .agg [.int .i64, .int .i64, .str]] [.cells [.int .i64, .int .i64, .int .i64, .sl 1 (some 0) (some 0)] 70 none, .any 30 (some 3)] (fun (a0, a1, a2, a3, a4, a5, a6, a7) => mpushc_pre a0 a1 a2 a3 a4 a5 a6 a7) (fun (a0, a1, a2, a3, a4, a5, a6, a7) => mpushc_v a0 a1 a2 a3 a4 a5 a6 a7) (fun (a0, a1, a2, a3, a4, a5, a6, a7) => mpushc_h a0 a1 a2 a3 a4 a5 a6 a7)
theorem mpushc_k_ok : KFor E 31 mpushc_k := kS_ok (fun x hx => mpushc_call (x.1) (x.2.1) (x.2.2.1) (x.2.2.2.1) (x.2.2.2.2.1) (x.2.2.2.2.2.1) (x.2.2.2.2.2.2.1) (x.2.2.2.2.2.2.2) hx) (fun _ _ => rfl) (fun _ _ => rfl)


end Go.Proofs.Yticpjnmoiepafaa
