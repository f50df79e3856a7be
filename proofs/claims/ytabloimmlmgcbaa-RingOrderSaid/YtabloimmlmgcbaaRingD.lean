/-
  A ring of 16-bit numbers: Push as a contract.
-/
import Derived.Test.YtabloimmlmgcbaaRingP
import Derived.Test.YtabloimmlmgcbaaRingC
set_option linter.unusedVariables false
set_option linter.unusedSimpArgs false
open Go Go.Am
namespace Go.Proofs.Ytabloimmlmgcbaa

/-- An element. -/
def uE (e : List Value) : Prop := ∃ s, e = [Value.int .u16 s]
def uZ : List Value := [Value.int .u16 0]
theorem uEl : El 1 uE uZ := ⟨fun e ⟨s, h⟩ => by rw [h]; rfl, fun e ⟨s, h⟩ => by rw [h]; rfl, ⟨_, rfl⟩, by omega⟩

structure uInv (mx first n : Int) (ln : Nat) (L : List Value) (q : List (List Value)) : Prop where
  rep : Rep uE first n ln L q
  lnm : (ln : Int) ≤ mx
  mxl : mx ≤ 65536

section
variable {mx first n : Int} {ln : Nat} {L : List Value} {q : List (List Value)}
theorem upush_l1 (h : uInv mx first n ln L q) (x : Int) : ∀ i, i ≤ q.length → Gets E 1 (upush_h1 mx first n ln L x 0 0 []) (upush_h1 mx first n ln L x i i (q.take i).flatten)
  | 0, _ => Gets.refl _
  | i + 1, hi => by
    refine (upush_l1 h x i (by omega)).trans ?_
    have hq : q[i]? = some q[i] := List.getElem?_eq_getElem hi
    have hR := h.rep
    obtain ⟨es, h1, h2, h3, h4, h5, h6, h7, h8⟩ := h.rep
    have m1 := h.lnm
    have m2 := h.mxl
    obtain ⟨s, hs⟩ := hR.mem uEl _ (List.getElem_mem hi)
    have hidx : (IntKind.i64.wrap (first + (i : Int))).tmod (ln : Int) = ((first.toNat + i) % ln : Nat) := mod_idx h4 h5 (by omega) (by omega) (by omega)
    have hj : (first.toNat + i) % ln < ln := Nat.mod_lt _ (by omega)
    have hget : L.getD (0 + ((first.toNat + i) % ln) * 1) undef = Value.int .u16 s := by
      have := hR.get uEl hq (k := 0) (by omega)
      rw [hs] at this
      rw [Nat.zero_add]
      exact this
    have hL := hR.len uEl
    have hLf := hR.flat uEl
    have hTm : ∀ y ∈ q.take i, uE y := fun y hy => hR.mem uEl y (List.mem_of_mem_take hy)
    have hT : (q.take i).flatten.length = i := by rw [flat_len (w := 1) (fun e he => uEl.len e (hTm e he))]; simp; omega
    have hTf : (q.take i).flatten.all flat = true := all_flat uEl.flat hTm
    have d1 : decide ((i : Int) < n) = true := by simp; omega
    have d2 : decide ((i : Int) < 0) = false := by simp
    have d3 : decide (n ≤ (i : Int)) = false := by simp; omega
    have hz : (rep [Value.int .u16 0] (growN mx ln)).all flat = true := by
      rw [rep_flat]; exact all_flat uEl.flat (fun e he => by rw [(List.mem_replicate.1 he).2]; exact uEl.z)
    have hN : ((ln : Int) != 0) = true := by simp; omega
    have htk : List.take (i * 1) (List.drop 0 (q.take i).flatten) = (q.take i).flatten := by
      rw [List.drop_zero, List.take_of_length_le (by omega)]
    have hok := upush_ok1 mx first n ln L x i i (q.take i).flatten (by
      unfold upush_S1
      simp only [d1, d2, d3, hidx, Int.toNat_natCast, hget, htk]
      refine ⟨fun _ => ⟨(fun h => by cases h), fun _ => ⟨(fun h => by cases h), fun _ => ⟨?_, hLf, hz, ?_, ?_, ?_, ?_, ?_, ?_, ?_, ?_, hN⟩⟩⟩, (fun h => by cases h)⟩
      · rw [List.all_append, hTf]; rfl
      · omega
      · omega
      · omega
      · exact beq_self_eq_true _
      · omega
      · rfl
      · omega
      · omega)
    have ht : upush_t1 mx first n ln L x i i (q.take i).flatten = .inl (i + 1, ((i + 1 : Nat) : Int), (q.take (i + 1)).flatten) := by
      unfold upush_t1
      simp only [d1, d2, d3, hidx, Int.toNat_natCast, hget, htk, cond_true, cond_false]
      rw [wrap64_in (by omega) (by omega), List.take_add_one, hq, hs]
      simp [toInt]
    rw [ht] at hok
    exact upush_go1 hok
theorem upush_l2 (h : uInv mx first n ln L q) (x : Int) (hn : n = ln) (hmx : n < mx) : ∀ i, i ≤ q.length → Gets E 1 (upush_h2 mx first n ln L x q.length q.flatten 0 (rep [Value.int .u16 0] (growN mx ln))) (upush_h2 mx first n ln L x q.length q.flatten i ((q.take i).flatten ++ (List.replicate (growN mx ln - i) [Value.int .u16 0]).flatten))
  | 0, _ => by
    rw [rep_flat, List.take_zero, List.flatten_nil, List.nil_append]
    exact Gets.refl _
  | i + 1, hi => by
    refine (upush_l2 h x hn hmx i (by omega)).trans ?_
    have hq : q[i]? = some q[i] := List.getElem?_eq_getElem hi
    have hR := h.rep
    obtain ⟨es, h1, h2, h3, h4, h5, h6, h7, h8⟩ := h.rep
    have m1 := h.lnm
    have m2 := h.mxl
    have hg := growN_val m1 m2
    obtain ⟨s, hs⟩ := hR.mem uEl _ (List.getElem_mem hi)
    have hLf := hR.flat uEl
    have hQm : ∀ y ∈ q, uE y := fun y hy => hR.mem uEl y hy
    have hQf : q.flatten.all flat = true := all_flat uEl.flat hQm
    have hget : q.flatten.getD (0 + i * 1) undef = Value.int .u16 s := by
      have := getD_flat (w := 1) (es := q) (fun e he => uEl.len e (hQm e he)) hq (k := 0) (by omega)
      rw [hs] at this
      rw [Nat.zero_add]
      exact this
    have hQl : q.flatten.length = q.length := by rw [flat_len (w := 1) (fun e he => uEl.len e (hQm e he))]; omega
    have hEm : ∀ e ∈ q.take i ++ List.replicate (growN mx ln - i) [Value.int .u16 0], uE e := fun e he => by
      rcases List.mem_append.1 he with h | h
      · exact hQm e (List.mem_of_mem_take h)
      · rw [(List.mem_replicate.1 h).2]; exact uEl.z
    have hset : setN ((q.take i).flatten ++ (List.replicate (growN mx ln - i) [Value.int .u16 0]).flatten) (0 + i * 1) [Value.int .u16 s] = (q.take (i + 1)).flatten ++ (List.replicate (growN mx ln - (i + 1)) [Value.int .u16 0]).flatten := by
      rw [← List.flatten_append, Nat.zero_add, setN_flat (w := 1) (fun e he => uEl.len e (hEm e he)) rfl (by simp; omega), ← List.flatten_append]
      congr 1
      have hl : (q.take i).length = i := by simp; omega
      rw [List.set_append_right _ _ (by omega), hl, Nat.sub_self, show growN mx ln - i = (growN mx ln - (i + 1)) + 1 by omega, List.replicate_succ, List.set_cons_zero, List.take_add_one, hq, hs]
      simp
    have hEf : ((q.take (i + 1)).flatten ++ (List.replicate (growN mx ln - (i + 1)) [Value.int .u16 0]).flatten).all flat = true := by
      rw [← List.flatten_append]
      exact all_flat uEl.flat (fun e he => by
        rcases List.mem_append.1 he with h | h
        · exact hQm e (List.mem_of_mem_take h)
        · rw [(List.mem_replicate.1 h).2]; exact uEl.z)
    have d1 : decide ((i : Int) < (q.length : Int)) = true := by simp; omega
    have hok := upush_ok2 mx first n ln L x q.length q.flatten i ((q.take i).flatten ++ (List.replicate (growN mx ln - i) [Value.int .u16 0]).flatten) (by
      unfold upush_S2
      simp only [d1, Int.toNat_natCast, hget]
      refine ⟨fun _ => ⟨hQf, hLf, ?_, ?_, ?_, ?_, ?_, rfl, ?_⟩, (fun h => by cases h)⟩
      · rw [toInt, hset]; exact hEf
      · rw [← List.flatten_append, flat_len (w := 1) (fun e he => uEl.len e (hEm e he))]; simp; omega
      · omega
      · show (i : Int) < (growN mx ln : Int); omega
      · omega
      · omega)
    have ht : upush_t2 mx first n ln L x q.length q.flatten i ((q.take i).flatten ++ (List.replicate (growN mx ln - i) [Value.int .u16 0]).flatten) = .inr (.inl (q.length, q.flatten, ((i + 1 : Nat) : Int), (q.take (i + 1)).flatten ++ (List.replicate (growN mx ln - (i + 1)) [Value.int .u16 0]).flatten)) := by
      unfold upush_t2
      simp only [d1, Int.toNat_natCast, hget, cond_true, toInt, hset]
      rw [wrap64_in (by omega) (by omega)]
      rfl
    rw [ht] at hok
    exact upush_go2 hok
/-- What Push hands back, and what the ring is then. -/
noncomputable def upushR (mx first n : Int) (ln : Nat) (L : List Value) (x : Int) : Bool × Int × Int × Nat × List Value := pushF 1 uZ mx first n ln L [Value.int .u16 x]
theorem upush_ends (h : uInv mx first n ln L q) (x : Int) : AEnds E 10 1 (startC E 10 [.pointer (some ⟨0, 0, none⟩), Value.int .u16 x] [some (.cells [.int .i64 mx, .int .i64 first, .int .i64 n, .slice (some ⟨1, 0, none⟩) ln ln] 84 none), some (.cells L 28 none)])
    (upush_V mx first n ln L x (upushR mx first n ln L x)) (upush_H mx first n ln L x (upushR mx first n ln L x)) := by
  have hR := h.rep
  obtain ⟨es, h1, h2, h3, h4, h5, h6, h7, h8⟩ := h.rep
  have m1 := h.lnm
  have m2 := h.mxl
  have hL := hR.len uEl
  have hLf := hR.flat uEl
  have hg := growN_val m1 m2
  have hz : (rep [Value.int .u16 0] (growN mx ln)).all flat = true := by
    rw [rep_flat]; exact all_flat uEl.flat (fun e he => by rw [(List.mem_replicate.1 he).2]; exact uEl.z)
  have hN : ((ln : Int) != 0) = true := by simp; omega
  unfold upushR
  by_cases c1 : mx ≤ n
  · rw [pushF_full c1]
    have hok := upush_ok0 mx first n ln L x (by
      unfold upush_S0
      rw [decide_eq_true c1]
      exact ⟨fun _ => hLf, (fun h => by cases h)⟩)
    unfold upush_t0 at hok
    rw [decide_eq_true c1, cond_true] at hok
    exact upush_end hok
  by_cases c2 : n = (ln : Int)
  · have d2 : (n == (ln : Int)) = true := by simp [c2]
    have hok := upush_ok0 mx first n ln L x (by
      unfold upush_S0
      rw [decide_eq_false c1, d2]
      refine ⟨(fun h => by cases h), fun _ => ⟨fun _ => ⟨hLf, hz, ?_, ?_, ?_⟩, (fun h => by cases h)⟩⟩
      all_goals (rw [wrap64_in (by omega) (by omega)]; have hg' := hg; unfold growN at hg'; rw [wrap64_in (by omega) (by omega)] at hg'; omega))
    unfold upush_t0 at hok
    rw [decide_eq_false c1, d2, cond_false, cond_true] at hok
    refine (upush_go1 hok).ends ?_
    have e1 := upush_l1 h x q.length (Nat.le_refl _)
    rw [List.take_length] at e1
    refine e1.ends ?_
    have hQm : ∀ y ∈ q, uE y := fun y hy => hR.mem uEl y hy
    have hQf : q.flatten.all flat = true := all_flat uEl.flat hQm
    have hQl : q.flatten.length = q.length := by rw [flat_len (w := 1) (fun e he => uEl.len e (hQm e he))]; omega
    have d3 : decide ((q.length : Int) < n) = false := by simp; omega
    have hok := upush_ok1 mx first n ln L x q.length q.length q.flatten (by
      unfold upush_S1
      rw [d3]
      exact ⟨(fun h => by cases h), fun _ => ⟨hQf, hLf, hz⟩⟩)
    unfold upush_t1 at hok
    rw [d3, cond_false] at hok
    refine (upush_go2 hok).ends ?_
    have e2 := upush_l2 h x c2 (by omega) q.length (Nat.le_refl _)
    rw [List.take_length] at e2
    refine e2.ends ?_
    have d4 : decide ((q.length : Int) < (q.length : Int)) = false := by simp
    have hidx : (IntKind.i64.wrap (0 + IntKind.i64.wrap (IntKind.i64.wrap (n + 1) - 1))).tmod (growN mx ln : Int) = ((q.length : Nat) : Int) := by
      rw [wrap64_in (x := n + 1) (by omega) (by omega), wrap64_in (x := n + 1 - 1) (by omega) (by omega), mod_idx (by omega) (by omega) (by omega) (by omega) (by omega)]
      rw [show (0 : Int).toNat + (n + 1 - 1).toNat = q.length by omega, Nat.mod_eq_of_lt (by omega)]
    have hEm : ∀ e ∈ q ++ List.replicate (growN mx ln - q.length) [Value.int .u16 0], uE e := fun e he => by
      rcases List.mem_append.1 he with h | h
      · exact hQm e h
      · rw [(List.mem_replicate.1 h).2]; exact uEl.z
    have hset : setN (q.flatten ++ (List.replicate (growN mx ln - q.length) [Value.int .u16 0]).flatten) (0 + q.length * 1) [Value.int .u16 x] = q.flatten ++ ([Value.int .u16 x] ++ (List.replicate (growN mx ln - n.toNat - 1) uZ).flatten) := by
      rw [← List.flatten_append, Nat.zero_add, setN_flat (w := 1) (fun e he => uEl.len e (hEm e he)) rfl (by simp; omega)]
      rw [List.set_append_right _ _ (by omega), Nat.sub_self, show growN mx ln - q.length = (growN mx ln - n.toNat - 1) + 1 by omega, List.replicate_succ, List.set_cons_zero, List.flatten_append, List.flatten_cons]
      rfl
    have hall : (q.flatten ++ ([Value.int .u16 x] ++ (List.replicate (growN mx ln - n.toNat - 1) uZ).flatten)).all flat = true := by
      have : q.flatten ++ ([Value.int .u16 x] ++ (List.replicate (growN mx ln - n.toNat - 1) uZ).flatten) = (q ++ ([Value.int .u16 x] :: List.replicate (growN mx ln - n.toNat - 1) uZ)).flatten := by simp
      rw [this]
      exact all_flat uEl.flat (fun e he => by
        rcases List.mem_append.1 he with h | h
        · exact hQm e h
        · rcases List.mem_cons.1 h with h | h
          · rw [h]; exact ⟨x, rfl⟩
          · rw [(List.mem_replicate.1 h).2]; exact uEl.z)
    have hok := upush_ok2 mx first n ln L x q.length q.flatten q.length (q.flatten ++ (List.replicate (growN mx ln - q.length) [Value.int .u16 0]).flatten) (by
      unfold upush_S2
      rw [d4]
      change _ ∧ (_ → ((setN (q.flatten ++ (List.replicate (growN mx ln - q.length) [Value.int .u16 0]).flatten) (0 + ((IntKind.i64.wrap (0 + IntKind.i64.wrap (IntKind.i64.wrap (n + 1) - 1))).tmod (growN mx ln : Int)).toNat * 1) [Value.int .u16 x]).all flat) = true ∧ ((growN mx ln == growN mx ln) = true) ∧ 0 + ((IntKind.i64.wrap (0 + IntKind.i64.wrap (IntKind.i64.wrap (n + 1) - 1))).tmod (growN mx ln : Int)).toNat * 1 + 1 ≤ (q.flatten ++ (List.replicate (growN mx ln - q.length) [Value.int .u16 0]).flatten).length ∧ 0 ≤ (IntKind.i64.wrap (0 + IntKind.i64.wrap (IntKind.i64.wrap (n + 1) - 1))).tmod (growN mx ln : Int) ∧ (IntKind.i64.wrap (0 + IntKind.i64.wrap (IntKind.i64.wrap (n + 1) - 1))).tmod (growN mx ln : Int) < (growN mx ln : Int) ∧ ((growN mx ln : Int) != 0) = true)
      rw [hidx, Int.toNat_natCast, hset]
      refine ⟨(fun h => by cases h), fun _ => ⟨hall, beq_self_eq_true _, ?_, ?_, ?_, ?_⟩⟩
      · rw [← List.flatten_append, flat_len (w := 1) (fun e he => uEl.len e (hEm e he))]; simp; omega
      · omega
      · omega
      · simp; omega)
    have ht : upush_t2 mx first n ln L x q.length q.flatten q.length (q.flatten ++ (List.replicate (growN mx ln - q.length) [Value.int .u16 0]).flatten) = .inr (.inr (pushF 1 uZ mx first n ln L [Value.int .u16 x])) := by
      unfold upush_t2
      rw [d4, cond_false]
      change Sum.inr (Sum.inr (true, (0 : Int), IntKind.i64.wrap (n + 1), growN mx ln, setN (q.flatten ++ (List.replicate (growN mx ln - q.length) [Value.int .u16 0]).flatten) (0 + ((IntKind.i64.wrap (0 + IntKind.i64.wrap (IntKind.i64.wrap (n + 1) - 1))).tmod (growN mx ln : Int)).toNat * 1) [Value.int .u16 x])) = _
      rw [hidx, Int.toNat_natCast, hset, wrap64_in (by omega) (by omega)]
      unfold pushF
      rw [decide_eq_false c1, cond_false, decide_eq_true c2, cond_true, hR.elems uEl]
    rw [ht] at hok
    exact upush_end hok
  · have d2 : (n == (ln : Int)) = false := by simp [c2]
    have hidx : (IntKind.i64.wrap (first + IntKind.i64.wrap (IntKind.i64.wrap (n + 1) - 1))).tmod (ln : Int) = ((first.toNat + n.toNat) % ln : Nat) := by
      rw [wrap64_in (x := n + 1) (by omega) (by omega), wrap64_in (x := n + 1 - 1) (by omega) (by omega), mod_idx (by omega) (by omega) (by omega) (by omega) (by omega)]
      rw [show (n + 1 - 1).toNat = n.toNat by omega]
    have hj : (first.toNat + n.toNat) % ln < ln := Nat.mod_lt _ (by omega)
    have hp := hR.push uEl (x := [Value.int .u16 x]) ⟨x, rfl⟩ (by omega)
    rw [show q.length = n.toNat by omega] at hp
    have hall := hp.flat uEl
    have hok := upush_ok0 mx first n ln L x (by
      unfold upush_S0
      rw [decide_eq_false c1, d2, hidx, Int.toNat_natCast, Nat.zero_add]
      refine ⟨(fun h => by cases h), fun _ => ⟨(fun h => by cases h), fun _ => ⟨hall, beq_self_eq_true _, ?_, ?_, ?_, hN⟩⟩⟩
      all_goals omega)
    unfold upush_t0 at hok
    rw [decide_eq_false c1, d2, cond_false, cond_false, hidx, Int.toNat_natCast, Nat.zero_add, wrap64_in (by omega) (by omega)] at hok
    unfold pushF
    rw [decide_eq_false c1, cond_false, decide_eq_false c2, cond_false]
    exact upush_end hok
end

def upushc_pre (mx first n : Int) (ln : Nat) (L : List Value) (x : Int) : Prop := ∃ q, uInv mx first n ln L q
noncomputable def upushc_v (mx first n : Int) (ln : Nat) (L : List Value) (x : Int) : Value := .bool (upushR mx first n ln L x).1
noncomputable def upushc_h (mx first n : Int) (ln : Nat) (L : List Value) (x : Int) : Heap := [some (.cells [.int .i64 mx, .int .i64 (upushR mx first n ln L x).2.1, .int .i64 (upushR mx first n ln L x).2.2.1, .slice (some ⟨2, 0, none⟩) (upushR mx first n ln L x).2.2.2.1 (upushR mx first n ln L x).2.2.2.1] 84 none), none, some (.cells (upushR mx first n ln L x).2.2.2.2 28 none)]
theorem upushR_flat {mx first n : Int} {ln : Nat} {L : List Value} {q : List (List Value)} (h : uInv mx first n ln L q) (x : Int) : (upushR mx first n ln L x).2.2.2.2.all flat = true := by
  unfold upushR
  by_cases c : mx ≤ n
  · rw [pushF_full c]; exact h.rep.flat uEl
  · exact (pushF_ok uEl h.rep (x := [Value.int .u16 x]) ⟨x, rfl⟩ (by omega) h.lnm h.mxl).2.2.flat uEl
theorem upushc_call (mx first n : Int) (ln : Nat) (L : List Value) (x : Int) (h : upushc_pre mx first n ln L x) :
    CallOk E 10 [.pointer (some ⟨0, 0, none⟩), Value.int .u16 x] [some (.cells [.int .i64 mx, .int .i64 first, .int .i64 n, .slice (some ⟨1, 0, none⟩) ln ln] 84 none), some (.cells L 28 none)] (upushc_v mx first n ln L x) (upushc_h mx first n ln L x) := by
  obtain ⟨q, h⟩ := h
  have hf := upushR_flat h x
  exact callOk_mov (ok := [(upushR mx first n ln L x).2.2.2.2.all flat]) (upush_ends h x) (by kernel_rfl) (by simp [AllT, hf]) (by kernel_rfl) (Nat.le_of_ble_eq_true (by kernel_rfl)) (Nat.le_of_ble_eq_true (by kernel_rfl))

def upushc_ex (a : List Value) (h : Heap) : Int × Int × Int × Nat × List Value × Int := ((toInt ((cellsOf h 0).getD 0 undef)), (toInt ((cellsOf h 0).getD 1 undef)), (toInt ((cellsOf h 0).getD 2 undef)), (sliceLen ((cellsOf h 0).getD 3 undef)), (cellsOf h 1), (toInt (a.getD 1 undef)))
noncomputable def upushc_k : Ct := kP upushc_ex (fun x => [Value.pointer (some { block := 0, off := 0 }), Value.int IntKind.u16 x.2.2.2.2.2]) (fun x => [some (Ob.cells [Value.int IntKind.i64 x.1, Value.int IntKind.i64 x.2.1, Value.int IntKind.i64 x.2.2.1, Value.slice (some { block := 1, off := 0 }) x.2.2.2.1 x.2.2.2.1] 84 none), some (Ob.cells x.2.2.2.2.1 28 none)]) (fun x => upushc_pre (x.1) (x.2.1) (x.2.2.1) (x.2.2.2.1) (x.2.2.2.2.1) (x.2.2.2.2.2)) (fun x => upushc_v (x.1) (x.2.1) (x.2.2.1) (x.2.2.2.1) (x.2.2.2.2.1) (x.2.2.2.2.2)) (fun x => upushc_h (x.1) (x.2.1) (x.2.2.1) (x.2.2.2.1) (x.2.2.2.2.1) (x.2.2.2.2.2))
theorem upushc_k_ok : KFor E 10 upushc_k := kP_ok (fun x hx => upushc_call (x.1) (x.2.1) (x.2.2.1) (x.2.2.2.1) (x.2.2.2.2.1) (x.2.2.2.2.2) hx)


end Go.Proofs.Ytabloimmlmgcbaa
