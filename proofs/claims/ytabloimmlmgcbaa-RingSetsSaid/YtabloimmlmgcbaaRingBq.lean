/-
  A ring of texts: what its functions do to the list of things that it holds.
-/
import Derived.Test.YtabloimmlmgcbaaRingB
set_option linter.unusedVariables false
set_option linter.unusedSimpArgs false
open Go Go.Am
namespace Go.Proofs.Ytabloimmlmgcbaa

def sQ (l : List ByteArray) : List (List Value) := l.map fun s => [Value.string s]
theorem sQ_get {l : List ByteArray} {i : Nat} {x : ByteArray} (h : l[i]? = some x) : (sQ l)[i]? = some [Value.string x] := by simp [sQ, h]
theorem sQ_len (l : List ByteArray) : (sQ l).length = l.length := by simp [sQ]
theorem sQ_app (l : List ByteArray) (x : ByteArray) : sQ (l ++ [x]) = sQ l ++ [[Value.string x]] := by simp [sQ]
/-- The ring holds these. -/
abbrev sR (mx first n : Int) (ln : Nat) (L : List Value) (l : List ByteArray) : Prop := sInv mx first n ln L (sQ l)
section
variable {mx first n : Int} {ln : Nat} {L : List Value} {l : List ByteArray}
theorem sR_n (h : sR mx first n ln L l) : n = l.length ∧ l.length ≤ ln ∧ 0 < ln ∧ 0 ≤ first ∧ first < ln ∧ (ln : Int) ≤ mx ∧ mx ≤ 65536 := by
  have m1 := h.lnm
  have m2 := h.mxl
  obtain ⟨es, h1, h2, h3, h4, h5, h6, h7, h8⟩ := h.rep
  rw [sQ_len] at h6 h7
  omega
theorem sR_flat (h : sR mx first n ln L l) : L.all flat = true := h.rep.flat sEl
theorem sR_pre (h : sR mx first n ln L l) (x : ByteArray) : spushc_pre mx first n ln L x := ⟨_, h⟩
theorem sat_in (h : sR mx first n ln L l) {i : Nat} {x : ByteArray} (hx : l[i]? = some x) : sat_S0 mx first n ln L i ∧ sat_t0 mx first n ln L i = (x, true) := by
  obtain ⟨a1, a2, a3, a4, a5, a6, a7⟩ := sR_n h
  have hi := (List.getElem?_eq_some_iff.1 hx).1
  have hidx : (IntKind.i64.wrap (first + (i : Int))).tmod (ln : Int) = ((first.toNat + i) % ln : Nat) := mod_idx a4 a5 (by omega) (by omega) (by omega)
  have hj : (first.toNat + i) % ln < ln := Nat.mod_lt _ (by omega)
  have hget : L.getD (0 + ((first.toNat + i) % ln) * 1) undef = Value.string x := by
    have := h.rep.get sEl (sQ_get hx) (k := 0) (by omega)
    rw [Nat.zero_add]
    exact this
  have hL := h.rep.len sEl
  have hLf := sR_flat h
  have d2 : decide ((i : Int) < 0) = false := by simp
  have d3 : decide (n ≤ (i : Int)) = false := by simp; omega
  have hN : ((ln : Int) != 0) = true := by simp; omega
  constructor
  · unfold sat_S0
    rw [d2, d3, hidx, Int.toNat_natCast, hget]
    refine ⟨(fun h => by cases h), fun _ => ⟨(fun h => by cases h), fun _ => ⟨hLf, beq_self_eq_true _, ?_, rfl, ?_, ?_, hN⟩⟩⟩
    all_goals omega
  · unfold sat_t0
    rw [d2, d3, hidx, Int.toNat_natCast, hget]
    rfl
theorem sat_out (h : sR mx first n ln L l) {i : Int} (hx : i < 0 ∨ n ≤ i) : sat_S0 mx first n ln L i ∧ sat_t0 mx first n ln L i = (⟨#[]⟩, false) := by
  have hLf := sR_flat h
  unfold sat_S0 sat_t0
  by_cases c : i < 0
  · rw [decide_eq_true c]
    exact ⟨⟨fun _ => hLf, (fun h => by cases h)⟩, rfl⟩
  · rw [decide_eq_false c, decide_eq_true (by omega : n ≤ i)]
    exact ⟨⟨(fun h => by cases h), fun _ => ⟨fun _ => hLf, (fun h => by cases h)⟩⟩, rfl⟩
theorem spop_nil (h : sR mx first n ln L []) : spop_S0 mx first n ln L ∧ spop_t0 mx first n ln L = (⟨#[]⟩, false, first, n, L) := by
  have hLf := sR_flat h
  obtain ⟨a1, _⟩ := sR_n h
  have : n = 0 := a1
  unfold spop_S0 spop_t0
  rw [decide_eq_true (by omega : n ≤ 0)]
  exact ⟨⟨fun _ => hLf, (fun h => by cases h)⟩, rfl⟩
theorem spop_cons {x : ByteArray} (h : sR mx first n ln L (x :: l)) : spop_S0 mx first n ln L ∧ ∃ f' n' L', spop_t0 mx first n ln L = (x, true, f', n', L') ∧ sR mx f' n' ln L' l := by
  obtain ⟨a1, a2, a3, a4, a5, a6, a7⟩ := sR_n h
  simp only [List.length_cons] at a1 a2
  have hidx : (IntKind.i64.wrap (first + 0)).tmod (ln : Int) = ((first.toNat + 0) % ln : Nat) := mod_idx (i := 0) a4 a5 (by omega) (by omega) (by omega)
  have hidx1 : (IntKind.i64.wrap (first + 1)).tmod (ln : Int) = ((first.toNat + 1) % ln : Nat) := mod_idx (i := 1) a4 a5 (by omega) (by omega) (by omega)
  have hj : (first.toNat + 0) % ln < ln := Nat.mod_lt _ (by omega)
  have hget : L.getD (0 + ((first.toNat + 0) % ln) * 1) undef = Value.string x := by
    have := h.rep.get sEl (i := 0) (x := [Value.string x]) rfl (k := 0) (by omega)
    rw [Nat.zero_add]
    exact this
  have hL := h.rep.len sEl
  have hp := h.rep.pop sEl
  have hpf := hp.flat sEl
  have d1 : decide (n ≤ 0) = false := by simp; omega
  have hN : ((ln : Int) != 0) = true := by simp; omega
  constructor
  · unfold spop_S0
    rw [d1, hidx, Int.toNat_natCast, hget, Nat.zero_add (first.toNat * 1)]
    refine ⟨(fun h => by cases h), fun _ => ⟨hpf, hN, ?_, ?_, ?_, beq_self_eq_true _, ?_, rfl, ?_, ?_⟩⟩
    all_goals omega
  · refine ⟨(((first.toNat + 1) % ln : Nat) : Int), n - 1, setN L (first.toNat * 1) sZ, ?_, hp, h.lnm, h.mxl⟩
    unfold spop_t0
    rw [d1, hidx, Int.toNat_natCast, hget, hidx1, wrap64_in (by omega) (by omega), Nat.zero_add (first.toNat * 1)]
    rfl
theorem spush_full (x : ByteArray) (hn : mx ≤ n) : spushR mx first n ln L x = (false, first, n, ln, L) := pushF_full hn
theorem spush_in (h : sR mx first n ln L l) (x : ByteArray) (hn : n < mx) : ∃ f' n' ln' L', spushR mx first n ln L x = (true, f', n', ln', L') ∧ sR mx f' n' ln' L' (l ++ [x]) := by
  have hb := pushF_ok sEl h.rep (x := [Value.string x]) ⟨x, rfl⟩ hn h.lnm h.mxl
  unfold spushR
  rcases hp : pushF 1 sZ mx first n ln L [Value.string x] with ⟨b, f', n', ln', L'⟩
  rw [hp] at hb
  obtain ⟨b1, b2, b3⟩ := hb
  have b1 : b = true := b1
  subst b1
  exact ⟨f', n', ln', L', rfl, by rw [sQ_app]; exact b3, b2, h.mxl⟩
theorem spush0_in (h1 : 0 < mx) (h2 : mx ≤ 65536) (x : ByteArray) : spush0_S0 mx x ∧ sR mx 0 1 (bif decide (mx < 8) then mx else 8).toNat (setN (rep [Value.string ⟨#[]⟩] (bif decide (mx < 8) then mx else 8).toNat) (0 + (Int.tmod 0 (((bif decide (mx < 8) then mx else 8).toNat : Nat) : Int)).toNat * 1) [Value.string x]) [x] := by
  have hk : ∃ k : Nat, (bif decide (mx < 8) then mx else 8) = ((k + 1 : Nat) : Int) ∧ ((k + 1 : Nat) : Int) ≤ mx ∧ k < 8 := by
    by_cases c : mx < 8
    · exact ⟨mx.toNat - 1, by rw [decide_eq_true c, cond_true]; omega, by omega, by omega⟩
    · exact ⟨7, by rw [decide_eq_false c, cond_false]; rfl, by omega, by omega⟩
  obtain ⟨k, k1, k2, k3⟩ := hk
  have hs : setN (rep [Value.string ⟨#[]⟩] (k + 1)) (0 + (Int.tmod 0 ((k + 1 : Nat) : Int)).toNat * 1) [Value.string x] = ([[Value.string x]] ++ List.replicate k sZ).flatten := by
    rw [Int.zero_tmod, rep_flat, List.replicate_succ]
    rfl
  have hr := rep_new sEl (q := [[Value.string x]]) (fun y hy => by simp at hy; rw [hy]; exact ⟨x, rfl⟩) (m := k) (by simp; omega)
  have hl : ([[Value.string x]] : List (List Value)).length + k = k + 1 := by simp; omega
  rw [hl] at hr
  have hf := hr.flat sEl
  constructor
  · unfold spush0_S0
    rw [k1, Int.toNat_natCast, hs]
    refine ⟨hf, beq_self_eq_true _, beq_self_eq_true _, ?_, ?_, ?_, ?_, ?_, ?_, ?_⟩
    · rw [Int.zero_tmod, rep_flat, flat_len (w := 1) (fun e he => by rw [(List.mem_replicate.1 he).2]; rfl)]; simp
    · rw [Int.zero_tmod]; omega
    · simp; omega
    · omega
    · omega
    · omega
    · simp; omega
  · rw [k1, Int.toNat_natCast, hs]
    exact ⟨hr, k2, h2⟩
end
end Go.Proofs.Ytabloimmlmgcbaa
