/-
  A ring of texts: what its functions do to the list of things that it holds; Push as a contract.
-/
import Derived.Test.YtabloimmlmgcbaaRingUp
import Derived.Test.YtabloimmlmgcbaaRingUa
set_option linter.unusedVariables false
set_option linter.unusedSimpArgs false
open Go Go.Am
namespace Go.Proofs.Ytabloimmlmgcbaa

/-- A thing's cells. -/
abbrev sT : Type := ByteArray
def sC (x : sT) : List Value := [Value.string x]
def sE (e : List Value) : Prop := ∃ x, e = sC x
def sZ : List Value := [Value.string ⟨#[]⟩]
theorem sEl : El 1 sE sZ := ⟨fun e ⟨s, h⟩ => by rw [h]; rfl, fun e ⟨s, h⟩ => by rw [h]; rfl, ⟨⟨#[]⟩, rfl⟩, by omega⟩
def sQ (l : List sT) : List (List Value) := l.map sC
theorem sQ_get {l : List sT} {i : Nat} {x : sT} (h : l[i]? = some x) : (sQ l)[i]? = some (sC x) := by simp [sQ, h]
theorem sQ_len (l : List sT) : (sQ l).length = l.length := by simp [sQ]
theorem sQ_app (l : List sT) (x : sT) : sQ (l ++ [x]) = sQ l ++ [sC x] := by simp [sQ]
theorem sQ_E (l : List sT) : ∀ e ∈ sQ l, sE e := by
  intro e he
  obtain ⟨x, _, rfl⟩ := List.mem_map.1 he
  exact ⟨x, rfl⟩
theorem sQ_take (l : List sT) (i : Nat) : (sQ l).take i = sQ (l.take i) := by simp [sQ, List.map_take]
theorem sQ_flen (l : List sT) : (sQ l).flatten.length = l.length * 1 := by rw [flat_len (w := 1) (fun e he => sEl.len e (sQ_E l e he)), sQ_len]
theorem sQ_flat (l : List sT) : (sQ l).flatten.all flat = true := all_flat sEl.flat (sQ_E l)
/-- The ring holds these. -/
structure sR (mx first n : Int) (ln : Nat) (L : List Value) (l : List sT) : Prop where
  rep : Rep sE first n ln L (sQ l)
  lnm : (ln : Int) ≤ mx
  mxl : mx ≤ 65536
theorem sR_nil {mx : Int} (h0 : 0 ≤ mx) (h1 : mx ≤ 65536) : sR mx 0 0 0 [] [] := ⟨⟨[], rfl, rfl, by simp, by omega, by omega, rfl, by simp [sQ], by simp [sQ]⟩, by omega, h1⟩

section
variable {mx first n : Int} {ln : Nat} {L : List Value} {l : List sT}
theorem sR_n (h : sR mx first n ln L l) : n = l.length ∧ l.length ≤ ln ∧ 0 ≤ first ∧ (first < ln ∨ first = 0 ∧ ln = 0) ∧ (ln : Int) ≤ mx ∧ mx ≤ 65536 := by
  have m1 := h.lnm
  have m2 := h.mxl
  obtain ⟨es, h1, h2, h3, h4, h5, h6, h7, h8⟩ := h.rep
  rw [sQ_len] at h6 h7
  exact ⟨h6, h7, h4, h5, m1, m2⟩
theorem sR_flat (h : sR mx first n ln L l) : L.all flat = true := h.rep.flat sEl
theorem sR_len (h : sR mx first n ln L l) : L.length = ln * 1 := h.rep.len sEl
/-- The cells of a thing in the row. -/
theorem sR_get (h : sR mx first n ln L l) {i : Nat} {x : sT} (hx : l[i]? = some x) : L.getD (0 + ((first.toNat + i) % ln) * 1) undef = Value.string x := by
  have g := fun (k : Nat) (hk : k < 1) => h.rep.get sEl (sQ_get hx) (k := k) hk
  exact (by have := g 0 (by omega); rw [Nat.zero_add]; exact this)
theorem sQ_getD {i : Nat} {x : sT} (hx : l[i]? = some x) : (sQ l).flatten.getD (0 + i * 1) undef = Value.string x := by
  have g := fun (k : Nat) (hk : k < 1) => getD_flat (w := 1) (es := sQ l) (fun e he => sEl.len e (sQ_E l e he)) (sQ_get hx) (k := k) hk
  exact (by have := g 0 (by omega); rw [Nat.zero_add]; exact this)
theorem szeros (k : Nat) : (rep sZ k).all flat = true := by
  rw [rep_flat]; exact all_flat sEl.flat (fun e he => by rw [(List.mem_replicate.1 he).2]; exact sEl.z)

theorem sat_in (h : sR mx first n ln L l) {i : Nat} {x : sT} (hx : l[i]? = some x) : sat_S0 mx first n ln L i ∧ sat_t0 mx first n ln L i = (x, true) := by
  obtain ⟨a1, a2, a4, a5, a6, a7⟩ := sR_n h
  have hi := (List.getElem?_eq_some_iff.1 hx).1
  have hidx : (IntKind.i64.wrap (first + (i : Int))).tmod (ln : Int) = ((first.toNat + i) % ln : Nat) := mod_idx a4 (by omega) (by omega) (by omega) (by omega)
  have hj : (first.toNat + i) % ln < ln := Nat.mod_lt _ (by omega)
  have hget := sR_get h hx
  have hL := sR_len h
  have hLf := sR_flat h
  have d2 : decide ((i : Int) < 0) = false := by simp
  have d3 : decide (n ≤ (i : Int)) = false := by simp; omega
  have hN : ((ln : Int) != 0) = true := by simp; omega
  constructor
  · unfold sat_S0
    simp only [d2, d3, hidx, Int.toNat_natCast, hget]
    refine ⟨(fun h => by cases h), fun _ => ⟨(fun h => by cases h), fun _ => ?_⟩⟩
    refine ⟨hLf, ?_⟩
    repeat' apply And.intro
    all_goals first | assumption | rfl | exact beq_self_eq_true _ | omega
  · unfold sat_t0
    simp only [d2, d3, hidx, Int.toNat_natCast, hget]
    rfl
theorem sat_out (h : sR mx first n ln L l) {i : Int} (hx : i < 0 ∨ n ≤ i) : sat_S0 mx first n ln L i ∧ sat_t0 mx first n ln L i = (⟨#[]⟩, false) := by
  have hLf := sR_flat h
  unfold sat_S0 sat_t0
  by_cases c : i < 0
  · rw [decide_eq_true c]
    exact ⟨⟨fun _ => hLf, (fun h => by cases h)⟩, rfl⟩
  · rw [decide_eq_false c, decide_eq_true (by omega : n ≤ i)]
    exact ⟨⟨(fun h => by cases h), fun _ => ⟨fun _ => hLf, (fun h => by cases h)⟩⟩, rfl⟩
theorem spop_nil (h : sR mx first n ln L []) : spop_S0 mx first n ln L ∧ spop_t0 mx first n ln L = (⟨#[]⟩, false, first, n, L) := by
  have hLf := sR_flat h
  obtain ⟨a1, _⟩ := sR_n h
  have : n = 0 := a1
  unfold spop_S0 spop_t0
  rw [decide_eq_true (by omega : n ≤ 0)]
  exact ⟨⟨fun _ => hLf, (fun h => by cases h)⟩, rfl⟩
theorem spop_cons {x : sT} (h : sR mx first n ln L (x :: l)) : spop_S0 mx first n ln L ∧ ∃ f' n' L', spop_t0 mx first n ln L = (x, true, f', n', L') ∧ sR mx f' n' ln L' l := by
  obtain ⟨a1, a2, a4, a5, a6, a7⟩ := sR_n h
  simp only [List.length_cons] at a1 a2
  have hidx : (IntKind.i64.wrap (first + 0)).tmod (ln : Int) = ((first.toNat + 0) % ln : Nat) := mod_idx (i := 0) a4 (by omega) (by omega) (by omega) (by omega)
  have hidx1 : (IntKind.i64.wrap (first + 1)).tmod (ln : Int) = ((first.toNat + 1) % ln : Nat) := mod_idx (i := 1) a4 (by omega) (by omega) (by omega) (by omega)
  have hj : (first.toNat + 0) % ln < ln := Nat.mod_lt _ (by omega)
  have hget := sR_get h (i := 0) (x := x) rfl
  have hL := sR_len h
  have hp := h.rep.pop sEl
  have hpf := hp.flat sEl
  have d1 : decide (n ≤ 0) = false := by simp; omega
  have hN : ((ln : Int) != 0) = true := by simp; omega
  have hz : 0 + first.toNat * 1 = first.toNat * 1 := Nat.zero_add _
  constructor
  · unfold spop_S0
    simp only [d1, hidx, Int.toNat_natCast, hget, hz]
    refine ⟨(fun h => by cases h), fun _ => ?_⟩
    refine ⟨hpf, ?_⟩
    repeat' apply And.intro
    all_goals first | assumption | rfl | exact beq_self_eq_true _ | omega
  · refine ⟨(((first.toNat + 1) % ln : Nat) : Int), n - 1, setN L (first.toNat * 1) sZ, ?_, hp, h.lnm, h.mxl⟩
    unfold spop_t0
    simp only [d1, hidx, Int.toNat_natCast, hget, hidx1, hz]
    rw [wrap64_in (by omega) (by omega)]
    rfl
theorem slen_in (h : sR mx first n ln L l) : slen_S0 mx first n ln L := sR_flat h

/-! ### Push -/
theorem spush_l1 (h : sR mx first n ln L l) (x : sT) : ∀ i, i ≤ l.length → Gets E 1 (spush_h1 mx first n ln L x 0 0 []) (spush_h1 mx first n ln L x i i (sQ (l.take i)).flatten)
  | 0, _ => Gets.refl _
  | i + 1, hi => by
    refine (spush_l1 h x i (by omega)).trans ?_
    obtain ⟨a1, a2, a4, a5, a6, a7⟩ := sR_n h
    obtain ⟨y, hy⟩ : ∃ y, l[i]? = some y := ⟨_, List.getElem?_eq_getElem (by omega)⟩
    have hidx : (IntKind.i64.wrap (first + (i : Int))).tmod (ln : Int) = ((first.toNat + i) % ln : Nat) := mod_idx a4 (by omega) (by omega) (by omega) (by omega)
    have hj : (first.toNat + i) % ln < ln := Nat.mod_lt _ (by omega)
    have hget := sR_get h hy
    have hL := sR_len h
    have hLf := sR_flat h
    have hT : (sQ (l.take i)).flatten.length = i * 1 := by rw [sQ_flen]; simp; omega
    have hTf := sQ_flat (l.take (i + 1))
    have hN : ((ln : Int) != 0) = true := by simp; omega
    have hz := szeros (growN mx ln)
    have htk : List.take (i * 1) (List.drop 0 (sQ (l.take i)).flatten) = (sQ (l.take i)).flatten := by
      rw [List.drop_zero, List.take_of_length_le (by omega)]
    have hnx : (sQ (l.take i)).flatten ++ sC y = (sQ (l.take (i + 1))).flatten := by
      rw [List.take_add_one, hy, Option.toList_some, sQ_app, List.flatten_append, List.flatten_cons, List.flatten_nil, List.append_nil]
    have w := spush_w1_2 mx first n ln L x i i (sQ (l.take i)).flatten
    simp only [hidx, Int.toNat_natCast, hget, htk, toInt, toStr, isInt, isStr] at w
    rw [show (bif decide (mx < bif decide (IntKind.i64.wrap (2 * (ln : Int)) < 8) then 8 else IntKind.i64.wrap (2 * (ln : Int))) then mx else bif decide (IntKind.i64.wrap (2 * (ln : Int)) < 8) then 8 else IntKind.i64.wrap (2 * (ln : Int))).toNat = growN mx ln from rfl, show ([Value.string y] : List Value) = sC y from rfl, hnx, wrap64_in (by omega) (by omega)] at w
    exact w hTf hLf hz (by omega) (by omega) (by omega) (beq_self_eq_true _) (by omega) trivial (by omega) (by omega) hN (by simp; omega) (by simp) (by simp; omega)
theorem spush_l2 (h : sR mx first n ln L l) (x : sT) (hn : n = ln) (hmx : n < mx) : ∀ i, i ≤ l.length → Gets E 1 (spush_h2 mx first n ln L x l.length (sQ l).flatten 0 (rep sZ (growN mx ln))) (spush_h2 mx first n ln L x l.length (sQ l).flatten i ((sQ (l.take i)).flatten ++ (List.replicate (growN mx ln - i) sZ).flatten))
  | 0, _ => by
    rw [rep_flat]
    exact Gets.refl _
  | i + 1, hi => by
    refine (spush_l2 h x hn hmx i (by omega)).trans ?_
    obtain ⟨a1, a2, a4, a5, a6, a7⟩ := sR_n h
    obtain ⟨y, hy⟩ : ∃ y, l[i]? = some y := ⟨_, List.getElem?_eq_getElem (by omega)⟩
    have hg := growN_val a6 a7
    have hLf := sR_flat h
    have hQf := sQ_flat l
    have hget := sQ_getD hy
    have hQl := sQ_flen l
    have hTl : (sQ (l.take i)).length = i := by rw [sQ_len]; simp; omega
    have hEm : ∀ e ∈ sQ (l.take i) ++ List.replicate (growN mx ln - i) sZ, sE e := fun e he => by
      rcases List.mem_append.1 he with h | h
      · exact sQ_E _ e h
      · rw [(List.mem_replicate.1 h).2]; exact sEl.z
    have hEl : ((sQ (l.take i)).flatten ++ (List.replicate (growN mx ln - i) sZ).flatten).length = (i + (growN mx ln - i)) * 1 := by
      rw [← List.flatten_append, flat_len (w := 1) (fun e he => sEl.len e (hEm e he)), List.length_append, hTl, List.length_replicate]
    have hset : setN ((sQ (l.take i)).flatten ++ (List.replicate (growN mx ln - i) sZ).flatten) (0 + i * 1) (sC y) = (sQ (l.take (i + 1))).flatten ++ (List.replicate (growN mx ln - (i + 1)) sZ).flatten := by
      rw [← List.flatten_append, Nat.zero_add, setN_flat (w := 1) (fun e he => sEl.len e (hEm e he)) rfl (by rw [List.length_append, hTl, List.length_replicate]; omega), ← List.flatten_append]
      congr 1
      rw [List.set_append_right _ _ (by omega), hTl, Nat.sub_self, show growN mx ln - i = (growN mx ln - (i + 1)) + 1 by omega, List.replicate_succ, List.set_cons_zero, List.take_add_one, hy, Option.toList_some, sQ_app, List.append_assoc]
      rfl
    have hEf : ((sQ (l.take (i + 1))).flatten ++ (List.replicate (growN mx ln - (i + 1)) sZ).flatten).all flat = true := by
      rw [← List.flatten_append]
      exact all_flat sEl.flat (fun e he => by
        rcases List.mem_append.1 he with h | h
        · exact sQ_E _ e h
        · rw [(List.mem_replicate.1 h).2]; exact sEl.z)
    have w := spush_w2_0 mx first n ln L x l.length (sQ l).flatten i ((sQ (l.take i)).flatten ++ (List.replicate (growN mx ln - i) sZ).flatten)
    simp only [Int.toNat_natCast, hget, toInt, toStr, isInt, isStr] at w
    rw [show (bif decide (mx < bif decide (IntKind.i64.wrap (2 * (ln : Int)) < 8) then 8 else IntKind.i64.wrap (2 * (ln : Int))) then mx else bif decide (IntKind.i64.wrap (2 * (ln : Int)) < 8) then 8 else IntKind.i64.wrap (2 * (ln : Int))).toNat = growN mx ln from rfl, show ([Value.string y] : List Value) = sC y from rfl, hset, wrap64_in (by omega) (by omega)] at w
    exact w hQf hLf hEf (by omega) (by omega) (by omega) (by omega) trivial (by omega) (by simp; omega)
/-- What Push hands back, and what the ring is then. -/
noncomputable def spushR (mx first n : Int) (ln : Nat) (L : List Value) (x : sT) : Bool × Int × Int × Nat × List Value := pushF 1 sZ mx first n ln L (sC x)
def sringH (b : Nat) (mx first n : Int) (ln : Nat) (c : Nat) (g : Option Nat) (L : List Value) : List (Option Ob) := [some (.cells [.int .i64 mx, .int .i64 first, .int .i64 n, .slice (some ⟨b, 0, none⟩) ln c] 92 none), some (.cells L 9 g)]
theorem spush_fin1 {C : Cfg} {args : List Value} {H : Heap} {b : Bool} {f' n' : Int} {ln' : Nat} {L' : List Value} (h : AEnds E 35 1 (startC E 35 args H) (.bool b) [some (.cells [.int .i64 mx, .int .i64 f', .int .i64 n', .slice (some ⟨1, 0, none⟩) ln' 0] 92 none), some (.cells L' 9 (some 1))])
    (hs : canStart E 35 args = true) (hH : H.length = 2) (hf : L'.all flat = true) : CallOk E 35 args H (.bool b) [some (.cells [.int .i64 mx, .int .i64 f', .int .i64 n', .slice (some ⟨2, 0, none⟩) ln' 0] 92 none), none, some (.cells L' 9 (some 1))] :=
  callOk_mov (ok := [L'.all flat]) h (by rw [hH]; kernel_rfl) (by simp [AllT, hf]) hs (by rw [hH]; exact Nat.le_of_ble_eq_true (by kernel_rfl)) (Nat.le_of_ble_eq_true (by kernel_rfl))
theorem spush_fin2 {C : Cfg} {args : List Value} {H : Heap} {b : Bool} {f' n' : Int} {ln' : Nat} {L' : List Value} (h : AEnds E 35 1 (startC E 35 args H) (.bool b) [some (.cells [.int .i64 mx, .int .i64 f', .int .i64 n', .slice (some ⟨1, 0, none⟩) ln' ln'] 92 none), some (.cells L' 9 none)])
    (hs : canStart E 35 args = true) (hH : H.length = 2) (hf : L'.all flat = true) (hl : L'.length = ln' * 1) (hm : ln' ≤ maxLen) : CallOk E 35 args H (.bool b) [some (.cells [.int .i64 mx, .int .i64 f', .int .i64 n', .slice (some ⟨2, 0, none⟩) ln' 0] 92 none), none, some (.cells L' 9 (some 1))] := by
  have h2 : CallOk E 35 args H (.bool b) [some (.cells [.int .i64 mx, .int .i64 f', .int .i64 n', .slice (some ⟨2, 0, none⟩) ln' ln'] 92 none), none, some (.cells L' 9 none)] :=
    callOk_mov (ok := [L'.all flat]) h (by rw [hH]; kernel_rfl) (by simp [AllT, hf]) hs (by rw [hH]; exact Nat.le_of_ble_eq_true (by kernel_rfl)) (Nat.le_of_ble_eq_true (by kernel_rfl))
  exact callOk_flex (b := 2) (z := 1) (ok := [decide (0 + ln' * 1 ≤ L'.length), decide (ln' ≤ maxLen), L'.all flat]) h2 (by kernel_rfl) (by
    have : 0 + ln' * 1 ≤ L'.length := by omega
    simp only [AllT.cons]
    exact ⟨decide_eq_true this, decide_eq_true hm, hf, AllT.nil⟩) (by omega)
theorem spushR_flat (h : sR mx first n ln L l) (x : sT) : (spushR mx first n ln L x).2.2.2.2.all flat = true := by
  unfold spushR
  by_cases c : mx ≤ n
  · rw [pushF_full c]; exact h.rep.flat sEl
  · exact (pushF_ok sEl h.rep (x := sC x) ⟨x, rfl⟩ (by omega) h.lnm h.mxl).2.2.flat sEl
theorem spush_full (x : sT) (hn : mx ≤ n) : spushR mx first n ln L x = (false, first, n, ln, L) := pushF_full hn
theorem spush_in (h : sR mx first n ln L l) (x : sT) (hn : n < mx) : ∃ f' n' ln' L', spushR mx first n ln L x = (true, f', n', ln', L') ∧ sR mx f' n' ln' L' (l ++ [x]) := by
  have hb := pushF_ok sEl h.rep (x := sC x) ⟨x, rfl⟩ hn h.lnm h.mxl
  unfold spushR
  rcases hp : pushF 1 sZ mx first n ln L (sC x) with ⟨b, f', n', ln', L'⟩
  rw [hp] at hb
  obtain ⟨b1, b2, b3⟩ := hb
  have b1 : b = true := b1
  subst b1
  exact ⟨f', n', ln', L', rfl, by rw [sQ_app]; exact b3, b2, h.mxl⟩
end

def spushc_pre (mx first n : Int) (ln : Nat) (L : List Value) (x : ByteArray) : Prop := ∃ l, sR mx first n ln L l
noncomputable def spushc_v (mx first n : Int) (ln : Nat) (L : List Value) (x : ByteArray) : Value := .bool (spushR mx first n ln L x).1
noncomputable def spushc_h (mx first n : Int) (ln : Nat) (L : List Value) (x : ByteArray) : Heap := [some (.cells [.int .i64 mx, .int .i64 (spushR mx first n ln L x).2.1, .int .i64 (spushR mx first n ln L x).2.2.1, .slice (some ⟨2, 0, none⟩) (spushR mx first n ln L x).2.2.2.1 0] 92 none), none, some (.cells (spushR mx first n ln L x).2.2.2.2 9 (some 1))]
theorem spushc_ok {mx first n : Int} {ln : Nat} {L : List Value} {l : List sT} (h : sR mx first n ln L l) (x : sT) :
    CallOk E 35 [.pointer (some ⟨0, 0, none⟩), Value.string x] [some (.cells [.int .i64 mx, .int .i64 first, .int .i64 n, .slice (some ⟨1, 0, none⟩) ln 0] 92 none), some (.cells L 9 (some 1))] (.bool (spushR mx first n ln L x).1) [some (.cells [.int .i64 mx, .int .i64 (spushR mx first n ln L x).2.1, .int .i64 (spushR mx first n ln L x).2.2.1, .slice (some ⟨2, 0, none⟩) (spushR mx first n ln L x).2.2.2.1 0] 92 none), none, some (.cells (spushR mx first n ln L x).2.2.2.2 9 (some 1))] := by
  have hfl := spushR_flat h x
  obtain ⟨a1, a2, a4, a5, a6, a7⟩ := sR_n h
  have hL := sR_len h
  have hLf := sR_flat h
  have hg := growN_val a6 a7
  have hz := szeros (growN mx ln)
  unfold spushR at hfl ⊢
  by_cases c1 : mx ≤ n
  · rw [pushF_full c1]
    have w := spush_w0_0 mx first n ln L x hLf (decide_eq_true c1)
    exact spush_fin1 (C := startC E 35 [] []) w (by kernel_rfl) rfl hLf
  by_cases c2 : n = (ln : Int)
  · have d2 : (n == (ln : Int)) = true := by simp [c2]
    have w := spush_w0_1 mx first n ln L x
    have w := w hLf hz (by
      rw [wrap64_in (by omega) (by omega)]; have hg' := hg; unfold growN at hg'; rw [wrap64_in (by omega) (by omega)] at hg'; omega) (by
      rw [wrap64_in (by omega) (by omega)]; have hg' := hg; unfold growN at hg'; rw [wrap64_in (by omega) (by omega)] at hg'; omega) (by
      rw [wrap64_in (by omega) (by omega)]; have hg' := hg; unfold growN at hg'; rw [wrap64_in (by omega) (by omega)] at hg'; omega) d2 (decide_eq_false c1)
    have e1 := spush_l1 h x l.length (Nat.le_refl _)
    rw [List.take_length] at e1
    have w1 := spush_w1_3 mx first n ln L x l.length l.length (sQ l).flatten (sQ_flat l) hLf hz (by simp; omega)
    have e2 := spush_l2 h x c2 (by omega) l.length (Nat.le_refl _)
    rw [List.take_length] at e2
    have hidx : (IntKind.i64.wrap (0 + IntKind.i64.wrap (IntKind.i64.wrap (n + 1) - 1))).tmod (growN mx ln : Int) = ((l.length : Nat) : Int) := by
      rw [wrap64_in (x := n + 1) (by omega) (by omega), wrap64_in (x := n + 1 - 1) (by omega) (by omega), mod_idx (by omega) (by omega) (by omega) (by omega) (by omega)]
      rw [show (0 : Int).toNat + (n + 1 - 1).toNat = l.length by omega, Nat.mod_eq_of_lt (by omega)]
    have hEm : ∀ e ∈ sQ l ++ List.replicate (growN mx ln - l.length) sZ, sE e := fun e he => by
      rcases List.mem_append.1 he with h | h
      · exact sQ_E l e h
      · rw [(List.mem_replicate.1 h).2]; exact sEl.z
    have hEl : ((sQ l).flatten ++ (List.replicate (growN mx ln - l.length) sZ).flatten).length = (l.length + (growN mx ln - l.length)) * 1 := by
      rw [← List.flatten_append, flat_len (w := 1) (fun e he => sEl.len e (hEm e he)), List.length_append, sQ_len, List.length_replicate]
    have hset : setN ((sQ l).flatten ++ (List.replicate (growN mx ln - l.length) sZ).flatten) (0 + l.length * 1) (sC x) = (sQ l).flatten ++ (sC x ++ (List.replicate (growN mx ln - n.toNat - 1) sZ).flatten) := by
      rw [← List.flatten_append, Nat.zero_add, setN_flat (w := 1) (fun e he => sEl.len e (hEm e he)) rfl (by rw [List.length_append, sQ_len, List.length_replicate]; omega)]
      rw [List.set_append_right _ _ (by rw [sQ_len]; omega), sQ_len, Nat.sub_self, show growN mx ln - l.length = (growN mx ln - n.toNat - 1) + 1 by omega, List.replicate_succ, List.set_cons_zero, List.flatten_append, List.flatten_cons]
    have hpe : pushF 1 sZ mx first n ln L (sC x) = (true, 0, n + 1, growN mx ln, (sQ l).flatten ++ (sC x ++ (List.replicate (growN mx ln - n.toNat - 1) sZ).flatten)) := by
      unfold pushF
      rw [decide_eq_false c1, cond_false, decide_eq_true c2, cond_true, h.rep.elems sEl]
    rw [hpe] at hfl ⊢
    have w2 := spush_w2_1 mx first n ln L x l.length (sQ l).flatten l.length ((sQ l).flatten ++ (List.replicate (growN mx ln - l.length) sZ).flatten)
    rw [show (bif decide (mx < bif decide (IntKind.i64.wrap (2 * (ln : Int)) < 8) then 8 else IntKind.i64.wrap (2 * (ln : Int))) then mx else bif decide (IntKind.i64.wrap (2 * (ln : Int)) < 8) then 8 else IntKind.i64.wrap (2 * (ln : Int))).toNat = growN mx ln from rfl] at w2
    simp only [hidx, Int.toNat_natCast] at w2
    rw [show ([Value.string x] : List Value) = sC x from rfl, hset, wrap64_in (by omega) (by omega)] at w2
    have hN : ((growN mx ln : Int) != 0) = true := by simp; omega
    have w2' := w2 hfl (beq_self_eq_true _) (beq_self_eq_true _) (by omega) (by omega) (by omega) hN (by simp)
    have hfin := ((w.trans e1).trans (w1.trans e2)).ends w2'
    refine spush_fin2 (C := startC E 35 [] []) hfin (by kernel_rfl) rfl hfl ?_ ?_
    · rw [← hset, ← List.flatten_append, Nat.zero_add, setN_flat (w := 1) (fun e he => sEl.len e (hEm e he)) rfl (by rw [List.length_append, sQ_len, List.length_replicate]; omega), flat_len (w := 1) (fun e he => by
        rcases List.mem_or_eq_of_mem_set he with h | h
        · exact sEl.len e (hEm e h)
        · rw [h]; rfl), List.length_set, List.length_append, sQ_len, List.length_replicate, show l.length + (growN mx ln - l.length) = growN mx ln by omega]
    · show growN mx ln ≤ 9223372036854775807; omega
  · have d2 : (n == (ln : Int)) = false := by simp [c2]
    have hidx : (IntKind.i64.wrap (first + IntKind.i64.wrap (IntKind.i64.wrap (n + 1) - 1))).tmod (ln : Int) = ((first.toNat + n.toNat) % ln : Nat) := by
      rw [wrap64_in (x := n + 1) (by omega) (by omega), wrap64_in (x := n + 1 - 1) (by omega) (by omega), mod_idx (by omega) (by omega) (by omega) (by omega) (by omega)]
      rw [show (n + 1 - 1).toNat = n.toNat by omega]
    have hj : (first.toNat + n.toNat) % ln < ln := Nat.mod_lt _ (by omega)
    have hN : ((ln : Int) != 0) = true := by simp; omega
    have hpe : pushF 1 sZ mx first n ln L (sC x) = (true, first, n + 1, ln, setN L (((first.toNat + n.toNat) % ln) * 1) (sC x)) := by
      unfold pushF
      rw [decide_eq_false c1, cond_false, decide_eq_false c2, cond_false]
    rw [hpe] at hfl ⊢
    have w := spush_w0_2 mx first n ln L x
    simp only [hidx, Int.toNat_natCast, Nat.zero_add] at w
    rw [show ([Value.string x] : List Value) = sC x from rfl, wrap64_in (by omega) (by omega)] at w
    have w' := w hfl (beq_self_eq_true _) (beq_self_eq_true _) (by omega) (by omega) (by omega) hN d2 (decide_eq_false c1)
    exact spush_fin1 (C := startC E 35 [] []) w' (by kernel_rfl) rfl hfl
theorem spushc_call (mx first n : Int) (ln : Nat) (L : List Value) (x : ByteArray) (h : spushc_pre mx first n ln L x) :
    CallOk E 35 [.pointer (some ⟨0, 0, none⟩), .string x] [some (.cells [.int .i64 mx, .int .i64 first, .int .i64 n, .slice (some ⟨1, 0, none⟩) ln 0] 92 none), some (.cells L 9 (some 1))] (spushc_v mx first n ln L x) (spushc_h mx first n ln L x) := by
  obtain ⟨l, h⟩ := h
  exact spushc_ok h x

def spushc_ex (a : List Value) (h : Heap) : Int × Int × Int × Nat × List Value × ByteArray := ((toInt ((cellsOf h 0).getD 0 undef)), (toInt ((cellsOf h 0).getD 1 undef)), (toInt ((cellsOf h 0).getD 2 undef)), (sliceLen ((cellsOf h 0).getD 3 undef)), (cellsOf h 1), (toStr (a.getD 1 undef)))
noncomputable def spushc_k : Ct := kS spushc_ex [.ptr 0 0, .str] [.cells [.int .i64, .int .i64, .int .i64, .sl 1 (some 0) (some 0)] 92 none, .any 9 (some 1)] (fun x => spushc_pre (x.1) (x.2.1) (x.2.2.1) (x.2.2.2.1) (x.2.2.2.2.1) (x.2.2.2.2.2)) (fun x => spushc_v (x.1) (x.2.1) (x.2.2.1) (x.2.2.2.1) (x.2.2.2.2.1) (x.2.2.2.2.2)) (fun x => spushc_h (x.1) (x.2.1) (x.2.2.1) (x.2.2.2.1) (x.2.2.2.2.1) (x.2.2.2.2.2))
theorem spushc_k_ok : KFor E 35 spushc_k := kS_ok (fun x hx => spushc_call (x.1) (x.2.1) (x.2.2.1) (x.2.2.2.1) (x.2.2.2.2.1) (x.2.2.2.2.2) hx) (fun _ _ => rfl) (fun _ _ => rfl)


end Go.Proofs.Ytabloimmlmgcbaa
