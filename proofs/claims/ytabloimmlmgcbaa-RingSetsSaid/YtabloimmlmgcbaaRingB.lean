/-
  A ring of texts: Push as a contract.
-/
import Derived.Test.YtabloimmlmgcbaaRingP
import Derived.Test.YtabloimmlmgcbaaRingA
set_option linter.unusedVariables false
set_option linter.unusedSimpArgs false
open Go Go.Am
namespace Go.Proofs.Ytabloimmlmgcbaa

/-- An element. -/
def sE (e : List Value) : Prop := ∃ s, e = [Value.string s]
def sZ : List Value := [Value.string ⟨#[]⟩]
theorem sEl : El 1 sE sZ := ⟨fun e ⟨s, h⟩ => by rw [h]; rfl, fun e ⟨s, h⟩ => by rw [h]; rfl, ⟨_, rfl⟩, by omega⟩

structure sInv (mx first n : Int) (ln : Nat) (L : List Value) (q : List (List Value)) : Prop where
  rep : Rep sE first n ln L q
  lnm : (ln : Int) ≤ mx
  mxl : mx ≤ 65536

section
variable {mx first n : Int} {ln : Nat} {L : List Value} {q : List (List Value)}
theorem spush_l1 (h : sInv mx first n ln L q) (x : ByteArray) : ∀ i, i ≤ q.length → Gets E 1 (spush_h1 mx first n ln L x 0 0 []) (spush_h1 mx first n ln L x i i (q.take i).flatten)
  | 0, _ => Gets.refl _
  | i + 1, hi => by
    refine (spush_l1 h x i (by omega)).trans ?_
    have hq : q[i]? = some q[i] := List.getElem?_eq_getElem hi
    have hR := h.rep
    obtain ⟨es, h1, h2, h3, h4, h5, h6, h7, h8⟩ := h.rep
    have m1 := h.lnm
    have m2 := h.mxl
    obtain ⟨s, hs⟩ := hR.mem sEl _ (List.getElem_mem hi)
    have hidx : (IntKind.i64.wrap (first + (i : Int))).tmod (ln : Int) = ((first.toNat + i) % ln : Nat) := mod_idx h4 h5 (by omega) (by omega) (by omega)
    have hj : (first.toNat + i) % ln < ln := Nat.mod_lt _ (by omega)
    have hget : L.getD (0 + ((first.toNat + i) % ln) * 1) undef = Value.string s := by
      have := hR.get sEl hq (k := 0) (by omega)
      rw [hs] at this
      rw [Nat.zero_add]
      exact this
    have hL := hR.len sEl
    have hLf := hR.flat sEl
    have hTm : ∀ y ∈ q.take i, sE y := fun y hy => hR.mem sEl y (List.mem_of_mem_take hy)
    have hT : (q.take i).flatten.length = i := by rw [flat_len (w := 1) (fun e he => sEl.len e (hTm e he))]; simp; omega
    have hTf : (q.take i).flatten.all flat = true := all_flat sEl.flat hTm
    have d1 : decide ((i : Int) < n) = true := by simp; omega
    have d2 : decide ((i : Int) < 0) = false := by simp
    have d3 : decide (n ≤ (i : Int)) = false := by simp; omega
    have hz : (rep [Value.string ⟨#[]⟩] (growN mx ln)).all flat = true := by
      rw [rep_flat]; exact all_flat sEl.flat (fun e he => by rw [(List.mem_replicate.1 he).2]; exact sEl.z)
    have hN : ((ln : Int) != 0) = true := by simp; omega
    have htk : List.take (i * 1) (List.drop 0 (q.take i).flatten) = (q.take i).flatten := by
      rw [List.drop_zero, List.take_of_length_le (by omega)]
    have hok := spush_ok1 mx first n ln L x i i (q.take i).flatten (by
      unfold spush_S1
      simp only [d1, d2, d3, hidx, Int.toNat_natCast, hget, htk]
      refine ⟨fun _ => ⟨(fun h => by cases h), fun _ => ⟨(fun h => by cases h), fun _ => ⟨?_, hLf, hz, ?_, ?_, ?_, ?_, ?_, ?_, ?_, ?_, hN⟩⟩⟩, (fun h => by cases h)⟩
      · rw [List.all_append, hTf]; rfl
      · omega
      · omega
      · omega
      · exact beq_self_eq_true _
      · omega
      · rfl
      · omega
      · omega)
    have ht : spush_t1 mx first n ln L x i i (q.take i).flatten = .inl (i + 1, ((i + 1 : Nat) : Int), (q.take (i + 1)).flatten) := by
      unfold spush_t1
      simp only [d1, d2, d3, hidx, Int.toNat_natCast, hget, htk, cond_true, cond_false]
      rw [wrap64_in (by omega) (by omega), List.take_add_one, hq, hs]
      simp [toStr]
    rw [ht] at hok
    exact spush_go1 hok
theorem spush_l2 (h : sInv mx first n ln L q) (x : ByteArray) (hn : n = ln) (hmx : n < mx) : ∀ i, i ≤ q.length → Gets E 1 (spush_h2 mx first n ln L x q.length q.flatten 0 (rep [Value.string ⟨#[]⟩] (growN mx ln))) (spush_h2 mx first n ln L x q.length q.flatten i ((q.take i).flatten ++ (List.replicate (growN mx ln - i) [Value.string ⟨#[]⟩]).flatten))
  | 0, _ => by
    rw [rep_flat, List.take_zero, List.flatten_nil, List.nil_append]
    exact Gets.refl _
  | i + 1, hi => by
    refine (spush_l2 h x hn hmx i (by omega)).trans ?_
    have hq : q[i]? = some q[i] := List.getElem?_eq_getElem hi
    have hR := h.rep
    obtain ⟨es, h1, h2, h3, h4, h5, h6, h7, h8⟩ := h.rep
    have m1 := h.lnm
    have m2 := h.mxl
    have hg := growN_val m1 m2
    obtain ⟨s, hs⟩ := hR.mem sEl _ (List.getElem_mem hi)
    have hLf := hR.flat sEl
    have hQm : ∀ y ∈ q, sE y := fun y hy => hR.mem sEl y hy
    have hQf : q.flatten.all flat = true := all_flat sEl.flat hQm
    have hget : q.flatten.getD (0 + i * 1) undef = Value.string s := by
      have := getD_flat (w := 1) (es := q) (fun e he => sEl.len e (hQm e he)) hq (k := 0) (by omega)
      rw [hs] at this
      rw [Nat.zero_add]
      exact this
    have hQl : q.flatten.length = q.length := by rw [flat_len (w := 1) (fun e he => sEl.len e (hQm e he))]; omega
    have hEm : ∀ e ∈ q.take i ++ List.replicate (growN mx ln - i) [Value.string ⟨#[]⟩], sE e := fun e he => by
      rcases List.mem_append.1 he with h | h
      · exact hQm e (List.mem_of_mem_take h)
      · rw [(List.mem_replicate.1 h).2]; exact sEl.z
    have hset : setN ((q.take i).flatten ++ (List.replicate (growN mx ln - i) [Value.string ⟨#[]⟩]).flatten) (0 + i * 1) [Value.string s] = (q.take (i + 1)).flatten ++ (List.replicate (growN mx ln - (i + 1)) [Value.string ⟨#[]⟩]).flatten := by
      rw [← List.flatten_append, Nat.zero_add, setN_flat (w := 1) (fun e he => sEl.len e (hEm e he)) rfl (by simp; omega), ← List.flatten_append]
      congr 1
      have hl : (q.take i).length = i := by simp; omega
      rw [List.set_append_right _ _ (by omega), hl, Nat.sub_self, show growN mx ln - i = (growN mx ln - (i + 1)) + 1 by omega, List.replicate_succ, List.set_cons_zero, List.take_add_one, hq, hs]
      simp
    have hEf : ((q.take (i + 1)).flatten ++ (List.replicate (growN mx ln - (i + 1)) [Value.string ⟨#[]⟩]).flatten).all flat = true := by
      rw [← List.flatten_append]
      exact all_flat sEl.flat (fun e he => by
        rcases List.mem_append.1 he with h | h
        · exact hQm e (List.mem_of_mem_take h)
        · rw [(List.mem_replicate.1 h).2]; exact sEl.z)
    have d1 : decide ((i : Int) < (q.length : Int)) = true := by simp; omega
    have hok := spush_ok2 mx first n ln L x q.length q.flatten i ((q.take i).flatten ++ (List.replicate (growN mx ln - i) [Value.string ⟨#[]⟩]).flatten) (by
      unfold spush_S2
      simp only [d1, Int.toNat_natCast, hget]
      refine ⟨fun _ => ⟨hQf, hLf, ?_, ?_, ?_, ?_, ?_, rfl, ?_⟩, (fun h => by cases h)⟩
      · rw [toStr, hset]; exact hEf
      · rw [← List.flatten_append, flat_len (w := 1) (fun e he => sEl.len e (hEm e he))]; simp; omega
      · omega
      · show (i : Int) < (growN mx ln : Int); omega
      · omega
      · omega)
    have ht : spush_t2 mx first n ln L x q.length q.flatten i ((q.take i).flatten ++ (List.replicate (growN mx ln - i) [Value.string ⟨#[]⟩]).flatten) = .inr (.inl (q.length, q.flatten, ((i + 1 : Nat) : Int), (q.take (i + 1)).flatten ++ (List.replicate (growN mx ln - (i + 1)) [Value.string ⟨#[]⟩]).flatten)) := by
      unfold spush_t2
      simp only [d1, Int.toNat_natCast, hget, cond_true, toStr, hset]
      rw [wrap64_in (by omega) (by omega)]
      rfl
    rw [ht] at hok
    exact spush_go2 hok
/-- What Push hands back, and what the ring is then. -/
noncomputable def spushR (mx first n : Int) (ln : Nat) (L : List Value) (x : ByteArray) : Bool × Int × Int × Nat × List Value := pushF 1 sZ mx first n ln L [Value.string x]
theorem spush_ends (h : sInv mx first n ln L q) (x : ByteArray) : AEnds E 35 1 (startC E 35 [.pointer (some ⟨0, 0, none⟩), Value.string x] [some (.cells [.int .i64 mx, .int .i64 first, .int .i64 n, .slice (some ⟨1, 0, none⟩) ln ln] 92 none), some (.cells L 9 none)])
    (spush_V mx first n ln L x (spushR mx first n ln L x)) (spush_H mx first n ln L x (spushR mx first n ln L x)) := by
  have hR := h.rep
  obtain ⟨es, h1, h2, h3, h4, h5, h6, h7, h8⟩ := h.rep
  have m1 := h.lnm
  have m2 := h.mxl
  have hL := hR.len sEl
  have hLf := hR.flat sEl
  have hg := growN_val m1 m2
  have hz : (rep [Value.string ⟨#[]⟩] (growN mx ln)).all flat = true := by
    rw [rep_flat]; exact all_flat sEl.flat (fun e he => by rw [(List.mem_replicate.1 he).2]; exact sEl.z)
  have hN : ((ln : Int) != 0) = true := by simp; omega
  unfold spushR
  by_cases c1 : mx ≤ n
  · rw [pushF_full c1]
    have hok := spush_ok0 mx first n ln L x (by
      unfold spush_S0
      rw [decide_eq_true c1]
      exact ⟨fun _ => hLf, (fun h => by cases h)⟩)
    unfold spush_t0 at hok
    rw [decide_eq_true c1, cond_true] at hok
    exact spush_end hok
  by_cases c2 : n = (ln : Int)
  · have d2 : (n == (ln : Int)) = true := by simp [c2]
    have hok := spush_ok0 mx first n ln L x (by
      unfold spush_S0
      rw [decide_eq_false c1, d2]
      refine ⟨(fun h => by cases h), fun _ => ⟨fun _ => ⟨hLf, hz, ?_, ?_, ?_⟩, (fun h => by cases h)⟩⟩
      all_goals (rw [wrap64_in (by omega) (by omega)]; have hg' := hg; unfold growN at hg'; rw [wrap64_in (by omega) (by omega)] at hg'; omega))
    unfold spush_t0 at hok
    rw [decide_eq_false c1, d2, cond_false, cond_true] at hok
    refine (spush_go1 hok).ends ?_
    have e1 := spush_l1 h x q.length (Nat.le_refl _)
    rw [List.take_length] at e1
    refine e1.ends ?_
    have hQm : ∀ y ∈ q, sE y := fun y hy => hR.mem sEl y hy
    have hQf : q.flatten.all flat = true := all_flat sEl.flat hQm
    have hQl : q.flatten.length = q.length := by rw [flat_len (w := 1) (fun e he => sEl.len e (hQm e he))]; omega
    have d3 : decide ((q.length : Int) < n) = false := by simp; omega
    have hok := spush_ok1 mx first n ln L x q.length q.length q.flatten (by
      unfold spush_S1
      rw [d3]
      exact ⟨(fun h => by cases h), fun _ => ⟨hQf, hLf, hz⟩⟩)
    unfold spush_t1 at hok
    rw [d3, cond_false] at hok
    refine (spush_go2 hok).ends ?_
    have e2 := spush_l2 h x c2 (by omega) q.length (Nat.le_refl _)
    rw [List.take_length] at e2
    refine e2.ends ?_
    have d4 : decide ((q.length : Int) < (q.length : Int)) = false := by simp
    have hidx : (IntKind.i64.wrap (0 + IntKind.i64.wrap (IntKind.i64.wrap (n + 1) - 1))).tmod (growN mx ln : Int) = ((q.length : Nat) : Int) := by
      rw [wrap64_in (x := n + 1) (by omega) (by omega), wrap64_in (x := n + 1 - 1) (by omega) (by omega), mod_idx (by omega) (by omega) (by omega) (by omega) (by omega)]
      rw [show (0 : Int).toNat + (n + 1 - 1).toNat = q.length by omega, Nat.mod_eq_of_lt (by omega)]
    have hEm : ∀ e ∈ q ++ List.replicate (growN mx ln - q.length) [Value.string ⟨#[]⟩], sE e := fun e he => by
      rcases List.mem_append.1 he with h | h
      · exact hQm e h
      · rw [(List.mem_replicate.1 h).2]; exact sEl.z
    have hset : setN (q.flatten ++ (List.replicate (growN mx ln - q.length) [Value.string ⟨#[]⟩]).flatten) (0 + q.length * 1) [Value.string x] = q.flatten ++ ([Value.string x] ++ (List.replicate (growN mx ln - n.toNat - 1) sZ).flatten) := by
      rw [← List.flatten_append, Nat.zero_add, setN_flat (w := 1) (fun e he => sEl.len e (hEm e he)) rfl (by simp; omega)]
      rw [List.set_append_right _ _ (by omega), Nat.sub_self, show growN mx ln - q.length = (growN mx ln - n.toNat - 1) + 1 by omega, List.replicate_succ, List.set_cons_zero, List.flatten_append, List.flatten_cons]
      rfl
    have hall : (q.flatten ++ ([Value.string x] ++ (List.replicate (growN mx ln - n.toNat - 1) sZ).flatten)).all flat = true := by
      have : q.flatten ++ ([Value.string x] ++ (List.replicate (growN mx ln - n.toNat - 1) sZ).flatten) = (q ++ ([Value.string x] :: List.replicate (growN mx ln - n.toNat - 1) sZ)).flatten := by simp
      rw [this]
      exact all_flat sEl.flat (fun e he => by
        rcases List.mem_append.1 he with h | h
        · exact hQm e h
        · rcases List.mem_cons.1 h with h | h
          · rw [h]; exact ⟨x, rfl⟩
          · rw [(List.mem_replicate.1 h).2]; exact sEl.z)
    have hok := spush_ok2 mx first n ln L x q.length q.flatten q.length (q.flatten ++ (List.replicate (growN mx ln - q.length) [Value.string ⟨#[]⟩]).flatten) (by
      unfold spush_S2
      rw [d4]
      change _ ∧ (_ → ((setN (q.flatten ++ (List.replicate (growN mx ln - q.length) [Value.string ⟨#[]⟩]).flatten) (0 + ((IntKind.i64.wrap (0 + IntKind.i64.wrap (IntKind.i64.wrap (n + 1) - 1))).tmod (growN mx ln : Int)).toNat * 1) [Value.string x]).all flat) = true ∧ ((growN mx ln == growN mx ln) = true) ∧ ((toL x == toL x) = true) ∧ 0 + ((IntKind.i64.wrap (0 + IntKind.i64.wrap (IntKind.i64.wrap (n + 1) - 1))).tmod (growN mx ln : Int)).toNat * 1 + 1 ≤ (q.flatten ++ (List.replicate (growN mx ln - q.length) [Value.string ⟨#[]⟩]).flatten).length ∧ 0 ≤ (IntKind.i64.wrap (0 + IntKind.i64.wrap (IntKind.i64.wrap (n + 1) - 1))).tmod (growN mx ln : Int) ∧ (IntKind.i64.wrap (0 + IntKind.i64.wrap (IntKind.i64.wrap (n + 1) - 1))).tmod (growN mx ln : Int) < (growN mx ln : Int) ∧ ((growN mx ln : Int) != 0) = true)
      rw [hidx, Int.toNat_natCast, hset]
      refine ⟨(fun h => by cases h), fun _ => ⟨hall, beq_self_eq_true _, beq_self_eq_true _, ?_, ?_, ?_, ?_⟩⟩
      · rw [← List.flatten_append, flat_len (w := 1) (fun e he => sEl.len e (hEm e he))]; simp; omega
      · omega
      · omega
      · simp; omega)
    have ht : spush_t2 mx first n ln L x q.length q.flatten q.length (q.flatten ++ (List.replicate (growN mx ln - q.length) [Value.string ⟨#[]⟩]).flatten) = .inr (.inr (pushF 1 sZ mx first n ln L [Value.string x])) := by
      unfold spush_t2
      rw [d4, cond_false]
      change Sum.inr (Sum.inr (true, (0 : Int), IntKind.i64.wrap (n + 1), growN mx ln, setN (q.flatten ++ (List.replicate (growN mx ln - q.length) [Value.string ⟨#[]⟩]).flatten) (0 + ((IntKind.i64.wrap (0 + IntKind.i64.wrap (IntKind.i64.wrap (n + 1) - 1))).tmod (growN mx ln : Int)).toNat * 1) [Value.string x])) = _
      rw [hidx, Int.toNat_natCast, hset, wrap64_in (by omega) (by omega)]
      unfold pushF
      rw [decide_eq_false c1, cond_false, decide_eq_true c2, cond_true, hR.elems sEl]
    rw [ht] at hok
    exact spush_end hok
  · have d2 : (n == (ln : Int)) = false := by simp [c2]
    have hidx : (IntKind.i64.wrap (first + IntKind.i64.wrap (IntKind.i64.wrap (n + 1) - 1))).tmod (ln : Int) = ((first.toNat + n.toNat) % ln : Nat) := by
      rw [wrap64_in (x := n + 1) (by omega) (by omega), wrap64_in (x := n + 1 - 1) (by omega) (by omega), mod_idx (by omega) (by omega) (by omega) (by omega) (by omega)]
      rw [show (n + 1 - 1).toNat = n.toNat by omega]
    have hj : (first.toNat + n.toNat) % ln < ln := Nat.mod_lt _ (by omega)
    have hp := hR.push sEl (x := [Value.string x]) ⟨x, rfl⟩ (by omega)
    rw [show q.length = n.toNat by omega] at hp
    have hall := hp.flat sEl
    have hok := spush_ok0 mx first n ln L x (by
      unfold spush_S0
      rw [decide_eq_false c1, d2, hidx, Int.toNat_natCast, Nat.zero_add]
      refine ⟨(fun h => by cases h), fun _ => ⟨(fun h => by cases h), fun _ => ⟨hall, beq_self_eq_true _, beq_self_eq_true _, ?_, ?_, ?_, hN⟩⟩⟩
      all_goals omega)
    unfold spush_t0 at hok
    rw [decide_eq_false c1, d2, cond_false, cond_false, hidx, Int.toNat_natCast, Nat.zero_add, wrap64_in (by omega) (by omega)] at hok
    unfold pushF
    rw [decide_eq_false c1, cond_false, decide_eq_false c2, cond_false]
    exact spush_end hok
end

def spushc_pre (mx first n : Int) (ln : Nat) (L : List Value) (x : ByteArray) : Prop := ∃ q, sInv mx first n ln L q
noncomputable def spushc_v (mx first n : Int) (ln : Nat) (L : List Value) (x : ByteArray) : Value := .bool (spushR mx first n ln L x).1
noncomputable def spushc_h (mx first n : Int) (ln : Nat) (L : List Value) (x : ByteArray) : Heap := [some (.cells [.int .i64 mx, .int .i64 (spushR mx first n ln L x).2.1, .int .i64 (spushR mx first n ln L x).2.2.1, .slice (some ⟨2, 0, none⟩) (spushR mx first n ln L x).2.2.2.1 (spushR mx first n ln L x).2.2.2.1] 92 none), none, some (.cells (spushR mx first n ln L x).2.2.2.2 9 none)]
theorem spushR_flat {mx first n : Int} {ln : Nat} {L : List Value} {q : List (List Value)} (h : sInv mx first n ln L q) (x : ByteArray) : (spushR mx first n ln L x).2.2.2.2.all flat = true := by
  unfold spushR
  by_cases c : mx ≤ n
  · rw [pushF_full c]; exact h.rep.flat sEl
  · exact (pushF_ok sEl h.rep (x := [Value.string x]) ⟨x, rfl⟩ (by omega) h.lnm h.mxl).2.2.flat sEl
theorem spushc_call (mx first n : Int) (ln : Nat) (L : List Value) (x : ByteArray) (h : spushc_pre mx first n ln L x) :
    CallOk E 35 [.pointer (some ⟨0, 0, none⟩), Value.string x] [some (.cells [.int .i64 mx, .int .i64 first, .int .i64 n, .slice (some ⟨1, 0, none⟩) ln ln] 92 none), some (.cells L 9 none)] (spushc_v mx first n ln L x) (spushc_h mx first n ln L x) := by
  obtain ⟨q, h⟩ := h
  have hf := spushR_flat h x
  exact callOk_mov (ok := [(spushR mx first n ln L x).2.2.2.2.all flat]) (spush_ends h x) (by kernel_rfl) (by simp [AllT, hf]) (by kernel_rfl) (Nat.le_of_ble_eq_true (by kernel_rfl)) (Nat.le_of_ble_eq_true (by kernel_rfl))

def spushc_ex (a : List Value) (h : Heap) : Int × Int × Int × Nat × List Value × ByteArray := ((toInt ((cellsOf h 0).getD 0 undef)), (toInt ((cellsOf h 0).getD 1 undef)), (toInt ((cellsOf h 0).getD 2 undef)), (sliceLen ((cellsOf h 0).getD 3 undef)), (cellsOf h 1), (toStr (a.getD 1 undef)))
noncomputable def spushc_k : Ct := kP spushc_ex (fun x => [Value.pointer (some { block := 0, off := 0 }), Value.string x.2.2.2.2.2]) (fun x => [some (Ob.cells [Value.int IntKind.i64 x.1, Value.int IntKind.i64 x.2.1, Value.int IntKind.i64 x.2.2.1, Value.slice (some { block := 1, off := 0 }) x.2.2.2.1 x.2.2.2.1] 92 none), some (Ob.cells x.2.2.2.2.1 9 none)]) (fun x => spushc_pre (x.1) (x.2.1) (x.2.2.1) (x.2.2.2.1) (x.2.2.2.2.1) (x.2.2.2.2.2)) (fun x => spushc_v (x.1) (x.2.1) (x.2.2.1) (x.2.2.2.1) (x.2.2.2.2.1) (x.2.2.2.2.2)) (fun x => spushc_h (x.1) (x.2.1) (x.2.2.1) (x.2.2.2.1) (x.2.2.2.2.1) (x.2.2.2.2.2))
theorem spushc_k_ok : KFor E 35 spushc_k := kP_ok (fun x hx => spushc_call (x.1) (x.2.1) (x.2.2.1) (x.2.2.2.1) (x.2.2.2.2.1) (x.2.2.2.2.2) hx)


end Go.Proofs.Ytabloimmlmgcbaa
