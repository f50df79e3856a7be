/-
  A ring of 16-bit numbers: what its functions do to the list of things that it holds.
-/
import Derived.Test.YtabloimmlmgcbaaRingD
set_option linter.unusedVariables false
set_option linter.unusedSimpArgs false
open Go Go.Am
namespace Go.Proofs.Ytabloimmlmgcbaa

def uQ (l : List Int) : List (List Value) := l.map fun s => [Value.int .u16 s]
theorem uQ_get {l : List Int} {i : Nat} {x : Int} (h : l[i]? = some x) : (uQ l)[i]? = some [Value.int .u16 x] := by simp [uQ, h]
theorem uQ_len (l : List Int) : (uQ l).length = l.length := by simp [uQ]
theorem uQ_app (l : List Int) (x : Int) : uQ (l ++ [x]) = uQ l ++ [[Value.int .u16 x]] := by simp [uQ]
/-- The ring holds these. -/
abbrev uR (mx first n : Int) (ln : Nat) (L : List Value) (l : List Int) : Prop := uInv mx first n ln L (uQ l)
section
variable {mx first n : Int} {ln : Nat} {L : List Value} {l : List Int}
theorem uR_n (h : uR mx first n ln L l) : n = l.length ∧ l.length ≤ ln ∧ 0 < ln ∧ 0 ≤ first ∧ first < ln ∧ (ln : Int) ≤ mx ∧ mx ≤ 65536 := by
  have m1 := h.lnm
  have m2 := h.mxl
  obtain ⟨es, h1, h2, h3, h4, h5, h6, h7, h8⟩ := h.rep
  rw [uQ_len] at h6 h7
  omega
theorem uR_flat (h : uR mx first n ln L l) : L.all flat = true := h.rep.flat uEl
theorem uR_pre (h : uR mx first n ln L l) (x : Int) : upushc_pre mx first n ln L x := ⟨_, h⟩
theorem uat_in (h : uR mx first n ln L l) {i : Nat} {x : Int} (hx : l[i]? = some x) : uat_S0 mx first n ln L i ∧ uat_t0 mx first n ln L i = (x, true) := by
  obtain ⟨a1, a2, a3, a4, a5, a6, a7⟩ := uR_n h
  have hi := (List.getElem?_eq_some_iff.1 hx).1
  have hidx : (IntKind.i64.wrap (first + (i : Int))).tmod (ln : Int) = ((first.toNat + i) % ln : Nat) := mod_idx a4 a5 (by omega) (by omega) (by omega)
  have hj : (first.toNat + i) % ln < ln := Nat.mod_lt _ (by omega)
  have hget : L.getD (0 + ((first.toNat + i) % ln) * 1) undef = Value.int .u16 x := by
    have := h.rep.get uEl (uQ_get hx) (k := 0) (by omega)
    rw [Nat.zero_add]
    exact this
  have hL := h.rep.len uEl
  have hLf := uR_flat h
  have d2 : decide ((i : Int) < 0) = false := by simp
  have d3 : decide (n ≤ (i : Int)) = false := by simp; omega
  have hN : ((ln : Int) != 0) = true := by simp; omega
  constructor
  · unfold uat_S0
    rw [d2, d3, hidx, Int.toNat_natCast, hget]
    refine ⟨(fun h => by cases h), fun _ => ⟨(fun h => by cases h), fun _ => ⟨hLf, beq_self_eq_true _, ?_, rfl, ?_, ?_, hN⟩⟩⟩
    all_goals omega
  · unfold uat_t0
    rw [d2, d3, hidx, Int.toNat_natCast, hget]
    rfl
theorem uat_out (h : uR mx first n ln L l) {i : Int} (hx : i < 0 ∨ n ≤ i) : uat_S0 mx first n ln L i ∧ uat_t0 mx first n ln L i = (0, false) := by
  have hLf := uR_flat h
  unfold uat_S0 uat_t0
  by_cases c : i < 0
  · rw [decide_eq_true c]
    exact ⟨⟨fun _ => hLf, (fun h => by cases h)⟩, rfl⟩
  · rw [decide_eq_false c, decide_eq_true (by omega : n ≤ i)]
    exact ⟨⟨(fun h => by cases h), fun _ => ⟨fun _ => hLf, (fun h => by cases h)⟩⟩, rfl⟩
theorem upop_nil (h : uR mx first n ln L []) : upop_S0 mx first n ln L ∧ upop_t0 mx first n ln L = (0, false, first, n, L) := by
  have hLf := uR_flat h
  obtain ⟨a1, _⟩ := uR_n h
  have : n = 0 := a1
  unfold upop_S0 upop_t0
  rw [decide_eq_true (by omega : n ≤ 0)]
  exact ⟨⟨fun _ => hLf, (fun h => by cases h)⟩, rfl⟩
theorem upop_cons {x : Int} (h : uR mx first n ln L (x :: l)) : upop_S0 mx first n ln L ∧ ∃ f' n' L', upop_t0 mx first n ln L = (x, true, f', n', L') ∧ uR mx f' n' ln L' l := by
  obtain ⟨a1, a2, a3, a4, a5, a6, a7⟩ := uR_n h
  simp only [List.length_cons] at a1 a2
  have hidx : (IntKind.i64.wrap (first + 0)).tmod (ln : Int) = ((first.toNat + 0) % ln : Nat) := mod_idx (i := 0) a4 a5 (by omega) (by omega) (by omega)
  have hidx1 : (IntKind.i64.wrap (first + 1)).tmod (ln : Int) = ((first.toNat + 1) % ln : Nat) := mod_idx (i := 1) a4 a5 (by omega) (by omega) (by omega)
  have hj : (first.toNat + 0) % ln < ln := Nat.mod_lt _ (by omega)
  have hget : L.getD (0 + ((first.toNat + 0) % ln) * 1) undef = Value.int .u16 x := by
    have := h.rep.get uEl (i := 0) (x := [Value.int .u16 x]) rfl (k := 0) (by omega)
    rw [Nat.zero_add]
    exact this
  have hL := h.rep.len uEl
  have hp := h.rep.pop uEl
  have hpf := hp.flat uEl
  have d1 : decide (n ≤ 0) = false := by simp; omega
  have hN : ((ln : Int) != 0) = true := by simp; omega
  constructor
  · unfold upop_S0
    rw [d1, hidx, Int.toNat_natCast, hget, Nat.zero_add (first.toNat * 1)]
    refine ⟨(fun h => by cases h), fun _ => ⟨hpf, hN, ?_, ?_, ?_, beq_self_eq_true _, ?_, rfl, ?_, ?_⟩⟩
    all_goals omega
  · refine ⟨(((first.toNat + 1) % ln : Nat) : Int), n - 1, setN L (first.toNat * 1) uZ, ?_, hp, h.lnm, h.mxl⟩
    unfold upop_t0
    rw [d1, hidx, Int.toNat_natCast, hget, hidx1, wrap64_in (by omega) (by omega), Nat.zero_add (first.toNat * 1)]
    rfl
theorem upush_full (x : Int) (hn : mx ≤ n) : upushR mx first n ln L x = (false, first, n, ln, L) := pushF_full hn
theorem upush_in (h : uR mx first n ln L l) (x : Int) (hn : n < mx) : ∃ f' n' ln' L', upushR mx first n ln L x = (true, f', n', ln', L') ∧ uR mx f' n' ln' L' (l ++ [x]) := by
  have hb := pushF_ok uEl h.rep (x := [Value.int .u16 x]) ⟨x, rfl⟩ hn h.lnm h.mxl
  unfold upushR
  rcases hp : pushF 1 uZ mx first n ln L [Value.int .u16 x] with ⟨b, f', n', ln', L'⟩
  rw [hp] at hb
  obtain ⟨b1, b2, b3⟩ := hb
  have b1 : b = true := b1
  subst b1
  exact ⟨f', n', ln', L', rfl, by rw [uQ_app]; exact b3, b2, h.mxl⟩
theorem upush0_in (h1 : 0 < mx) (h2 : mx ≤ 65536) (x : Int) : upush0_S0 mx x ∧ uR mx 0 1 (bif decide (mx < 8) then mx else 8).toNat (setN (rep [Value.int .u16 0] (bif decide (mx < 8) then mx else 8).toNat) (0 + (Int.tmod 0 (((bif decide (mx < 8) then mx else 8).toNat : Nat) : Int)).toNat * 1) [Value.int .u16 x]) [x] := by
  have hk : ∃ k : Nat, (bif decide (mx < 8) then mx else 8) = ((k + 1 : Nat) : Int) ∧ ((k + 1 : Nat) : Int) ≤ mx ∧ k < 8 := by
    by_cases c : mx < 8
    · exact ⟨mx.toNat - 1, by rw [decide_eq_true c, cond_true]; omega, by omega, by omega⟩
    · exact ⟨7, by rw [decide_eq_false c, cond_false]; rfl, by omega, by omega⟩
  obtain ⟨k, k1, k2, k3⟩ := hk
  have hs : setN (rep [Value.int .u16 0] (k + 1)) (0 + (Int.tmod 0 ((k + 1 : Nat) : Int)).toNat * 1) [Value.int .u16 x] = ([[Value.int .u16 x]] ++ List.replicate k uZ).flatten := by
    rw [Int.zero_tmod, rep_flat, List.replicate_succ]
    rfl
  have hr := rep_new uEl (q := [[Value.int .u16 x]]) (fun y hy => by simp at hy; rw [hy]; exact ⟨x, rfl⟩) (m := k) (by simp; omega)
  have hl : ([[Value.int .u16 x]] : List (List Value)).length + k = k + 1 := by simp; omega
  rw [hl] at hr
  have hf := hr.flat uEl
  constructor
  · unfold upush0_S0
    rw [k1, Int.toNat_natCast, hs]
    refine ⟨hf, beq_self_eq_true _, ?_, ?_, ?_, ?_, ?_, ?_, ?_⟩
    · rw [Int.zero_tmod, rep_flat, flat_len (w := 1) (fun e he => by rw [(List.mem_replicate.1 he).2]; rfl)]; simp
    · rw [Int.zero_tmod]; omega
    · simp; omega
    · omega
    · omega
    · omega
    · simp; omega
  · rw [k1, Int.toNat_natCast, hs]
    exact ⟨hr, k2, h2⟩
end
end Go.Proofs.Ytabloimmlmgcbaa
