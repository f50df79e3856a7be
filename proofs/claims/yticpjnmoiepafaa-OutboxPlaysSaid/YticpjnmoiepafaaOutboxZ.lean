/-
  The reference's box: the kinds in its one list. Plain.
-/
import Derived.Test.YticpjnmoiepafaaOutboxU
import Derived.Test.YticpjnmoiepafaaOutboxX
import Derived.Test.YticpjnmoiepafaaOutboxI
import Derived.Test.YticpjnmoiepafaaOutboxV
set_option linter.unusedVariables false
set_option linter.unusedSimpArgs false
open Go Go.Am
namespace Go.Proofs.Yticpjnmoiepafaa

def kF (k : Int) (l : List mT) : List mT := l.filter (fun y => y.1 == k)
theorem cnt_kF (k : Int) (l : List mT) : cnt k l = (kF k l).length := rfl
theorem kF_app (k : Int) (a b : List mT) : kF k (a ++ b) = kF k a ++ kF k b := List.filter_append _ _
theorem kIx_none {k : Int} {l : List mT} (h : kF k l = []) : kIx k l = none := by
 unfold kIx
 rw [List.findIdx?_eq_none_iff]
 intro x hx
 have := List.filter_eq_nil_iff.1 h x hx
 simpa using this
theorem kF_erase_same (k : Int) : ∀ (l : List mT), kF k (l.eraseP (fun y => y.1 == k)) = (kF k l).drop 1
 | [] => rfl
 | a :: l => by
  by_cases h : a.1 = k
  ·rw [List.eraseP_cons_of_pos (by simp [h])]
   unfold kF
   rw [List.filter_cons_of_pos (by simp [h])]
   rfl
  ·rw [List.eraseP_cons_of_neg (by simp [h])]
   have := kF_erase_same k l
   unfold kF at this ⊢
   rw [List.filter_cons_of_neg (by simp [h]), List.filter_cons_of_neg (by simp [h])]
   exact this
theorem kF_erase_other {k k' : Int} (hk : k ≠ k') : ∀ (l : List mT), kF k (l.eraseP (fun y => y.1 == k')) = kF k l
 | [] => rfl
 | a :: l => by
  by_cases h : a.1 = k'
  ·rw [List.eraseP_cons_of_pos (by simp [h])]
   unfold kF
   rw [List.filter_cons_of_neg (by simp [h]; omega)]
  ·rw [List.eraseP_cons_of_neg (by simp [h])]
   have := kF_erase_other hk l
   unfold kF at this ⊢
   simp only [List.filter_cons, this]
theorem kIx_some {k : Int} : ∀ {l : List mT} {y : mT} {ys : List mT}, kF k l = y :: ys → ∃ i, kIx k l = some i ∧ l.getD i (0, 0, ⟨#[]⟩) = y ∧ l.eraseIdx i = l.eraseP (fun y => y.1 == k)
 | [], y, ys, h => by cases h
 | a :: l, y, ys, h => by
  by_cases ha : a.1 = k
  ·refine ⟨0, ?_, ?_, ?_⟩
   ·unfold kIx; rw [List.findIdx?_cons]; simp [ha]
   ·unfold kF at h
    rw [List.filter_cons_of_pos (by simp [ha])] at h
    cases h; rfl
   ·rw [List.eraseP_cons_of_pos (by simp [ha])]; rfl
  ·unfold kF at h
   rw [List.filter_cons_of_neg (by simp [ha])] at h
   obtain ⟨i, h1, h2, h3⟩ := kIx_some (l := l) h
   refine ⟨i + 1, ?_, ?_, ?_⟩
   ·unfold kIx at h1 ⊢
    rw [List.findIdx?_cons]
    simp [ha, h1]
   ·rw [List.getD_cons_succ]; exact h2
   ·rw [List.eraseP_cons_of_neg (by simp [ha]), List.eraseIdx_cons_succ, h3]
theorem erase_mem {p : mT → Bool} {l : List mT} {x : mT} (h : x ∈ l.eraseP p) : x ∈ l := List.mem_of_mem_eraseP h
def Kinds (l : List mT) : Prop := ∀ x ∈ l, x.1 = 1 ∨ x.1 = 2 ∨ x.1 = 3 ∨ x.1 = 4
theorem kinds_len : ∀ {l : List mT}, Kinds l → l.length = (kF 1 l).length + (kF 2 l).length + (kF 3 l).length + (kF 4 l).length
 | [], _ => rfl
 | a :: l, h => by
  have ih := kinds_len (l := l) fun x hx => h x (List.mem_cons_of_mem _ hx)
  unfold kF at ih ⊢
  rcases h a List.mem_cons_self with e | e | e | e <;> simp [List.filter_cons, e] <;> omega
theorem nextF_1 {e t : Bool} {l : List mT} {y : mT} {ys : List mT} (h : kF 1 l = y :: ys) : nextF e t l = (y, true, l.eraseP (fun y => y.1 == 1), t) := by
 obtain ⟨i, h1, h2, h3⟩ := kIx_some h
 unfold nextF firstIx
 rw [h1]
 show (l.getD i (0, 0, ⟨#[]⟩), true, l.eraseIdx i, t) = _
 rw [h2, h3]
theorem nextF_2 {e t : Bool} {l : List mT} {y : mT} {ys : List mT} (h0 : kF 1 l = []) (h : kF 2 l = y :: ys) : nextF e t l = (y, true, l.eraseP (fun y => y.1 == 2), t) := by
 obtain ⟨i, h1, h2, h3⟩ := kIx_some h
 unfold nextF firstIx
 rw [kIx_none h0, h1]
 show (l.getD i (0, 0, ⟨#[]⟩), true, l.eraseIdx i, t) = _
 rw [h2, h3]
theorem nextF_3 {e t : Bool} {l : List mT} {y : mT} {ys : List mT} (h0 : kF 1 l = []) (h00 : kF 2 l = []) (h : kF 3 l = y :: ys) : nextF e t l = (y, true, l.eraseP (fun y => y.1 == 3), t) := by
 obtain ⟨i, h1, h2, h3⟩ := kIx_some h
 unfold nextF firstIx
 rw [kIx_none h0, kIx_none h00, h1]
 show (l.getD i (0, 0, ⟨#[]⟩), true, l.eraseIdx i, t) = _
 rw [h2, h3]
theorem nextF_4 {e t : Bool} {l : List mT} {y : mT} {ys : List mT} (h0 : kF 1 l = []) (h00 : kF 2 l = []) (h000 : kF 3 l = []) (h : kF 4 l = y :: ys) : nextF e t l = (y, true, l.eraseP (fun y => y.1 == 4), t) := by
 obtain ⟨i, h1, h2, h3⟩ := kIx_some h
 unfold nextF firstIx
 rw [kIx_none h0, kIx_none h00, kIx_none h000, h1]
 show (l.getD i (0, 0, ⟨#[]⟩), true, l.eraseIdx i, t) = _
 rw [h2, h3]
theorem nextF_0 {e t : Bool} {l : List mT} (h : Kinds l) (h1 : kF 1 l = []) (h2 : kF 2 l = []) (h3 : kF 3 l = []) (h4 : kF 4 l = []) : nextF e t l = bif e && !t then ((5, 0, ⟨#[]⟩), true, l, true) else ((0, 0, ⟨#[]⟩), false, l, t) := by
 unfold nextF firstIx
 rw [kIx_none h1, kIx_none h2, kIx_none h3, kIx_none h4]
 rfl
end Go.Proofs.Yticpjnmoiepafaa

/-
  The statement OutboxPlays: what the box and the document's list have in common. Plain.
-/
set_option linter.unusedVariables false
set_option linter.unusedSimpArgs false
open Go Go.Am
namespace Go.Proofs.Yticpjnmoiepafaa

def rI (x : sT) : mT := (1, 0, x)
def pI (x : sT) : mT := (2, 0, x)
def cI (x : sT) : mT := (4, 0, x)
structure PI (q : Int) (p k : Option sT) (c : Bool) (f1 n1 : Int) (k1 : Nat) (L1 : List Value) (f2 n2 : Int) (k2 : Nat) (L2 : List Value) (lr : List sT) (lm ll : List mT) : Prop where
 s : sR 4 f1 n1 k1 L1 lr
 m : mR q f2 n2 k2 L2 lm
 kd : Kinds ll
 g1 : kF 1 ll = lr.map rI
 g2 : kF 2 ll = p.toList.map pI
 g3 : kF 3 ll = lm
 g4 : kF 4 ll = k.toList.map cI
 kc : k.isSome = true → c = true

section
variable {q : Int} {p k : Option sT} {c : Bool} {f1 n1 : Int} {k1 : Nat} {L1 : List Value} {f2 n2 : Int} {k2 : Nat} {L2 : List Value} {lr : List sT} {lm ll : List mT}
theorem PI.len (h : PI q p k c f1 n1 k1 L1 f2 n2 k2 L2 lr lm ll) : ll.length = lr.length + p.toList.length + lm.length + k.toList.length := by
 rw [kinds_len h.kd, h.g1, h.g2, h.g3, h.g4]; simp
theorem opt_len (p : Option sT) : p.toList.length ≤ 1 := by cases p <;> simp
theorem PI.isL (h : PI q p k c f1 n1 k1 L1 f2 n2 k2 L2 lr lm ll) : IsL ll.length (mQ ll).flatten ll := by
 refine ⟨rfl, rfl, ?_⟩
 have hl := h.len
 obtain ⟨a1, a2, a4, a5, a6, a7⟩ := sR_n h.s
 obtain ⟨b1, b2, b4, b5, b6, b7⟩ := mR_n h.m
 have := opt_len p
 have := opt_len k
 omega
theorem PI.c1 (h : PI q p k c f1 n1 k1 L1 f2 n2 k2 L2 lr lm ll) : n1 = (cnt 1 ll : Int) := by
 rw [(sR_n h.s).1, cnt_kF, h.g1, List.length_map]
theorem PI.c3 (h : PI q p k c f1 n1 k1 L1 f2 n2 k2 L2 lr lm ll) : n2 = (cnt 3 ll : Int) := by
 rw [(mR_n h.m).1, cnt_kF, h.g3]
theorem kinds_app {x : mT} (h : Kinds ll) (hx : x.1 = 1 ∨ x.1 = 2 ∨ x.1 = 3 ∨ x.1 = 4) : Kinds (ll ++ [x]) := fun y hy => by
 rcases List.mem_append.1 hy with hy | hy
 ·exact h y hy
 ·rw [List.mem_singleton.1 hy]; exact hx
theorem kinds_erase {f : mT → Bool} (h : Kinds ll) : Kinds (ll.eraseP f) := fun y hy => h y (erase_mem hy)
theorem PI.reply (h : PI q p k c f1 n1 k1 L1 f2 n2 k2 L2 lr lm ll) (x : sT) {f1' n1' : Int} {k1' : Nat} {L1' : List Value} (hs : sR 4 f1' n1' k1' L1' (lr ++ [x])) : PI q p k c f1' n1' k1' L1' f2 n2 k2 L2 (lr ++ [x]) lm (ll ++ [(1, 0, x)]) := by
 refine ⟨hs, h.m, kinds_app h.kd (.inl rfl), ?_, ?_, ?_, ?_, h.kc⟩ <;> rw [kF_app] <;> (first | rw [h.g1] | rw [h.g2] | rw [h.g3] | rw [h.g4]) <;> simp [kF, rI]
theorem PI.msg (h : PI q p k c f1 n1 k1 L1 f2 n2 k2 L2 lr lm ll) (o : Int) (x : sT) {f2' n2' : Int} {k2' : Nat} {L2' : List Value} (hs : mR q f2' n2' k2' L2' (lm ++ [(3, o, x)])) : PI q p k c f1 n1 k1 L1 f2' n2' k2' L2' lr (lm ++ [(3, o, x)]) (ll ++ [(3, o, x)]) := by
 refine ⟨h.s, hs, kinds_app h.kd (.inr (.inr (.inl rfl))), ?_, ?_, ?_, ?_, h.kc⟩ <;> rw [kF_app] <;> (first | rw [h.g1] | rw [h.g2] | rw [h.g3] | rw [h.g4]) <;> simp [kF]
theorem PI.pong (h : PI q p k c f1 n1 k1 L1 f2 n2 k2 L2 lr lm ll) (x : sT) : PI q (some x) k c f1 n1 k1 L1 f2 n2 k2 L2 lr lm (ll.eraseP (fun y => y.1 == 2) ++ [(2, 0, x)]) := by
 refine ⟨h.s, h.m, kinds_app (kinds_erase h.kd) (.inr (.inl rfl)), ?_, ?_, ?_, ?_, h.kc⟩ <;> rw [kF_app]
 ·rw [kF_erase_other (by decide), h.g1]; simp [kF]
 ·rw [kF_erase_same, h.g2]
  cases p <;> simp [kF, pI]
 ·rw [kF_erase_other (by decide), h.g3]; simp [kF]
 ·rw [kF_erase_other (by decide), h.g4]; simp [kF]
theorem PI.close (h : PI q p none c f1 n1 k1 L1 f2 n2 k2 L2 lr lm ll) (x : sT) : PI q p (some x) true f1 n1 k1 L1 f2 n2 k2 L2 lr lm (ll ++ [(4, 0, x)]) := by
 refine ⟨h.s, h.m, kinds_app h.kd (.inr (.inr (.inr rfl))), ?_, ?_, ?_, ?_, fun _ => rfl⟩ <;> rw [kF_app] <;> (first | rw [h.g1] | rw [h.g2] | rw [h.g3] | rw [h.g4]) <;> simp [kF, cI]
theorem PI.nreply {x : sT} (h : PI q p k c f1 n1 k1 L1 f2 n2 k2 L2 (x :: lr) lm ll) {f1' n1' : Int} {L1' : List Value} (hs : sR 4 f1' n1' k1 L1' lr) : PI q p k c f1' n1' k1 L1' f2 n2 k2 L2 lr lm (ll.eraseP (fun y => y.1 == 1)) := by
 refine ⟨hs, h.m, kinds_erase h.kd, ?_, ?_, ?_, ?_, h.kc⟩
 ·rw [kF_erase_same, h.g1]; rfl
 ·rw [kF_erase_other (by decide), h.g2]
 ·rw [kF_erase_other (by decide), h.g3]
 ·rw [kF_erase_other (by decide), h.g4]
theorem PI.npong {x : sT} (h : PI q (some x) k c f1 n1 k1 L1 f2 n2 k2 L2 lr lm ll) : PI q none k c f1 n1 k1 L1 f2 n2 k2 L2 lr lm (ll.eraseP (fun y => y.1 == 2)) := by
 refine ⟨h.s, h.m, kinds_erase h.kd, ?_, ?_, ?_, ?_, h.kc⟩
 ·rw [kF_erase_other (by decide), h.g1]
 ·rw [kF_erase_same, h.g2]; rfl
 ·rw [kF_erase_other (by decide), h.g3]
 ·rw [kF_erase_other (by decide), h.g4]
theorem PI.nmsg {x : mT} (h : PI q p k c f1 n1 k1 L1 f2 n2 k2 L2 lr (x :: lm) ll) {f2' n2' : Int} {L2' : List Value} (hs : mR q f2' n2' k2 L2' lm) : PI q p k c f1 n1 k1 L1 f2' n2' k2 L2' lr lm (ll.eraseP (fun y => y.1 == 3)) := by
 refine ⟨h.s, hs, kinds_erase h.kd, ?_, ?_, ?_, ?_, h.kc⟩
 ·rw [kF_erase_other (by decide), h.g1]
 ·rw [kF_erase_other (by decide), h.g2]
 ·rw [kF_erase_same, h.g3]; rfl
 ·rw [kF_erase_other (by decide), h.g4]
theorem PI.nclose {x : sT} (h : PI q p (some x) c f1 n1 k1 L1 f2 n2 k2 L2 lr lm ll) : PI q p none c f1 n1 k1 L1 f2 n2 k2 L2 lr lm (ll.eraseP (fun y => y.1 == 4)) := by
 refine ⟨h.s, h.m, kinds_erase h.kd, ?_, ?_, ?_, ?_, fun h => by cases h⟩
 ·rw [kF_erase_other (by decide), h.g1]
 ·rw [kF_erase_other (by decide), h.g2]
 ·rw [kF_erase_other (by decide), h.g3]
 ·rw [kF_erase_same, h.g4]; rfl
theorem PI.nil {f1 n1 : Int} {k1 : Nat} {L1 : List Value} {f2 n2 : Int} {k2 : Nat} {L2 : List Value} (hs : sR 4 f1 n1 k1 L1 []) (hm : mR q f2 n2 k2 L2 []) (c : Bool) : PI q none none c f1 n1 k1 L1 f2 n2 k2 L2 [] [] [] :=
 ⟨hs, hm, fun x hx => by simp at hx, rfl, rfl, rfl, rfl, fun h => by cases h⟩
/-! What Put does. -/
theorem put_err {e : Bool} {x : mT} (hc : c = true ∨ e = true) : putF q c e x ll = (11, ll, c) := by unfold putF; rw [if_pos hc]
theorem put_1 (h : PI q p k false f1 n1 k1 L1 f2 n2 k2 L2 lr lm ll) (x : sT) (hn : n1 < 4) : putF q false false (1, 0, x) ll = (0, ll ++ [(1, 0, x)], false) := by
 have := h.c1
 unfold putF
 rw [if_neg (by simp), if_pos rfl, if_neg (by omega)]
theorem put_1f (h : PI q p k false f1 n1 k1 L1 f2 n2 k2 L2 lr lm ll) (x : sT) (hn : 4 ≤ n1) : putF q false false (1, 0, x) ll = (6, ll, false) := by
 have := h.c1
 unfold putF
 rw [if_neg (by simp), if_pos rfl, if_pos (by omega)]
theorem put_2 (x : sT) : putF q false false (2, 0, x) ll = (0, ll.eraseP (fun y => y.1 == 2) ++ [(2, 0, x)], false) := by
 unfold putF
 rw [if_neg (by simp), if_neg (by simp), if_pos rfl]
theorem put_3 (h : PI q p k false f1 n1 k1 L1 f2 n2 k2 L2 lr lm ll) (o : Int) (x : sT) (hn : n2 < q) : putF q false false (3, o, x) ll = (0, ll ++ [(3, o, x)], false) := by
 have := h.c3
 unfold putF
 rw [if_neg (by simp), if_neg (by simp), if_neg (by simp), if_pos rfl, if_neg (by omega)]
theorem put_3f (h : PI q p k false f1 n1 k1 L1 f2 n2 k2 L2 lr lm ll) (o : Int) (x : sT) (hn : q ≤ n2) : putF q false false (3, o, x) ll = (6, ll, false) := by
 have := h.c3
 unfold putF
 rw [if_neg (by simp), if_neg (by simp), if_neg (by simp), if_pos rfl, if_pos (by omega)]
theorem put_4 (x : sT) : putF q false false (4, 0, x) ll = (0, ll ++ [(4, 0, x)], true) := by
 unfold putF
 rw [if_neg (by simp), if_neg (by simp), if_neg (by simp), if_neg (by simp), if_pos rfl]
/-! What Next does. -/
theorem next_r {e t : Bool} {x : sT} (h : PI q p k c f1 n1 k1 L1 f2 n2 k2 L2 (x :: lr) lm ll) : nextF e t ll = ((1, 0, x), true, ll.eraseP (fun y => y.1 == 1), t) := nextF_1 h.g1
theorem next_p {e t : Bool} {x : sT} (h : PI q (some x) k c f1 n1 k1 L1 f2 n2 k2 L2 [] lm ll) : nextF e t ll = ((2, 0, x), true, ll.eraseP (fun y => y.1 == 2), t) := nextF_2 h.g1 h.g2
theorem next_m {e t : Bool} {x : mT} (h : PI q none k c f1 n1 k1 L1 f2 n2 k2 L2 [] (x :: lm) ll) : nextF e t ll = (x, true, ll.eraseP (fun y => y.1 == 3), t) := nextF_3 h.g1 h.g2 h.g3
theorem next_c {e t : Bool} {x : sT} (h : PI q none (some x) c f1 n1 k1 L1 f2 n2 k2 L2 [] [] ll) : nextF e t ll = ((4, 0, x), true, ll.eraseP (fun y => y.1 == 4), t) := nextF_4 h.g1 h.g2 h.g3 h.g4
theorem next_0 {e t : Bool} (h : PI q none none c f1 n1 k1 L1 f2 n2 k2 L2 [] [] ll) : nextF e t ll = bif e && !t then ((5, 0, ⟨#[]⟩), true, ll, true) else ((0, 0, ⟨#[]⟩), false, ll, t) := nextF_0 h.kd h.g1 h.g2 h.g3 h.g4
/-! What waits. -/
theorem rwaits_eq {e t : Bool} (q : Int) (n : Nat) (L : List Value) : rwaits_t0 q n L c e t = (decide (0 < n) || (e && !t)) := by
 unfold rwaits_t0
 have : decide (0 < (n : Int)) = decide (0 < n) := by simp
 rw [this]
 cases decide (0 < n) <;> cases e <;> rfl
theorem waits_00 {e t : Bool} (h : PI q none none c f1 n1 k1 L1 f2 n2 k2 L2 lr lm ll) : waits00_t0 4 f1 n1 k1 L1 q f2 n2 k2 L2 c e t = rwaits_t0 q ll.length (mQ ll).flatten c e t := by
 rw [rwaits_eq]
 have hl := h.len
 have a1 := (sR_n h.s).1
 have b1 := (mR_n h.m).1
 simp only [Option.toList_none, List.length_nil] at hl
 unfold waits00_t0
 have d1 : decide (0 < n1) = decide (0 < lr.length) := by rw [a1]; simp
 have d2 : decide (0 < n2) = decide (0 < lm.length) := by rw [b1]; simp
 rw [d1, d2]
 have d3 : decide (0 < ll.length) = (decide (0 < lr.length) || decide (0 < lm.length)) := by
  rw [hl, ← Bool.decide_or]; congr 1; simp; omega
 rw [d3]
 cases decide (0 < lr.length) <;> cases decide (0 < lm.length) <;> cases e <;> rfl
theorem waits_some {e t : Bool} (h : PI q p k c f1 n1 k1 L1 f2 n2 k2 L2 lr lm ll) (hp : p.isSome = true ∨ k.isSome = true) : rwaits_t0 q ll.length (mQ ll).flatten c e t = true := by
 rw [rwaits_eq]
 have hl := h.len
 have : 0 < ll.length := by
  rcases hp with hp | hp
  ·cases p with
   | none => cases hp
   | some x => simp only [Option.toList_some, List.length_singleton] at hl; omega
  ·cases k with
   | none => cases hp
   | some x => simp only [Option.toList_some, List.length_singleton] at hl; omega
 rw [decide_eq_true this]; rfl
theorem shut_eq (c e : Bool) : (bif c then true else e) = (c || e) := by cases c <;> rfl
end
end Go.Proofs.Yticpjnmoiepafaa

/-
  The statement OutboxPlays hands back true: the walk. (Printed by plays.py.)
-/
set_option linter.unusedVariables false
set_option linter.unusedSimpArgs false
open Go Go.Am
namespace Go.Proofs.Yticpjnmoiepafaa

noncomputable def lpH (q : Int) (l : List Act) (p k : Option sT) (c e t : Bool) (f1 n1 : Int) (k1 : Nat) (L1 : List Value) (f2 n2 : Int) (k2 : Nat) (L2 : List Value) (ll : List mT) (i : Nat) : Cfg :=
 match p, k with
 | none, none => plays_h1 q l.length (aQ l) c e t ll.length c e t 4 f1 n1 k1 f2 n2 k2 (mQ ll).flatten L1 L2 (i : Int)
 | some x, none => plays_h6 q l.length (aQ l) ((i : Int) - 1) c e t ll.length c e t 4 f1 n1 k1 f2 n2 k2 x (mQ ll).flatten L1 L2
 | none, some y => plays_h7 q l.length (aQ l) ((i : Int) - 1) c e t ll.length c e t 4 f1 n1 k1 f2 n2 k2 y (mQ ll).flatten L1 L2
 | some x, some y => plays_h11 q l.length (aQ l) ((i : Int) - 2) c e t ll.length c e t 4 f1 n1 k1 f2 n2 k2 x y (mQ ll).flatten L1 L2
noncomputable def cpH (q : Int) (l : List Act) (p k : Option sT) (c e t : Bool) (f1 n1 : Int) (k1 : Nat) (L1 : List Value) (f2 n2 : Int) (k2 : Nat) (L2 : List Value) (ll : List mT) (i : Nat) : Cfg :=
 match p, k with
 | none, none => plays_h2 q l.length (aQ l) (i : Int) c e t ll.length c e t 4 f1 n1 k1 f2 n2 k2 (mQ ll).flatten L1 L2
 | some x, none => plays_h3 q l.length (aQ l) (i : Int) c e t ll.length c e t 4 f1 n1 k1 f2 n2 k2 x (mQ ll).flatten L1 L2
 | none, some y => plays_h4 q l.length (aQ l) (i : Int) c e t ll.length c e t 4 f1 n1 k1 f2 n2 k2 y (mQ ll).flatten L1 L2
 | some x, some y => plays_h8 q l.length (aQ l) ((i : Int) - 1) c e t ll.length c e t 4 f1 n1 k1 f2 n2 k2 x y (mQ ll).flatten L1 L2

section
variable {q : Int} {l : List Act}
theorem lpH_00 {c e t : Bool} {f1 n1 : Int} {k1 : Nat} {L1 : List Value} {f2 n2 : Int} {k2 : Nat} {L2 : List Value} {ll : List mT} {i : Nat} : lpH q l none none c e t f1 n1 k1 L1 f2 n2 k2 L2 ll i = plays_h1 q l.length (aQ l) c e t ll.length c e t 4 f1 n1 k1 f2 n2 k2 (mQ ll).flatten L1 L2 (i : Int) := rfl
theorem cpH_00 {c e t : Bool} {f1 n1 : Int} {k1 : Nat} {L1 : List Value} {f2 n2 : Int} {k2 : Nat} {L2 : List Value} {ll : List mT} {i : Nat} : cpH q l none none c e t f1 n1 k1 L1 f2 n2 k2 L2 ll i = plays_h2 q l.length (aQ l) (i : Int) c e t ll.length c e t 4 f1 n1 k1 f2 n2 k2 (mQ ll).flatten L1 L2 := rfl
theorem lpH_10 {x : sT} {c e t : Bool} {f1 n1 : Int} {k1 : Nat} {L1 : List Value} {f2 n2 : Int} {k2 : Nat} {L2 : List Value} {ll : List mT} {i : Nat} : lpH q l (some x) none c e t f1 n1 k1 L1 f2 n2 k2 L2 ll i = plays_h6 q l.length (aQ l) ((i : Int) - 1) c e t ll.length c e t 4 f1 n1 k1 f2 n2 k2 x (mQ ll).flatten L1 L2 := rfl
theorem cpH_10 {x : sT} {c e t : Bool} {f1 n1 : Int} {k1 : Nat} {L1 : List Value} {f2 n2 : Int} {k2 : Nat} {L2 : List Value} {ll : List mT} {i : Nat} : cpH q l (some x) none c e t f1 n1 k1 L1 f2 n2 k2 L2 ll i = plays_h3 q l.length (aQ l) (i : Int) c e t ll.length c e t 4 f1 n1 k1 f2 n2 k2 x (mQ ll).flatten L1 L2 := rfl
theorem lpH_01 {y : sT} {c e t : Bool} {f1 n1 : Int} {k1 : Nat} {L1 : List Value} {f2 n2 : Int} {k2 : Nat} {L2 : List Value} {ll : List mT} {i : Nat} : lpH q l none (some y) c e t f1 n1 k1 L1 f2 n2 k2 L2 ll i = plays_h7 q l.length (aQ l) ((i : Int) - 1) c e t ll.length c e t 4 f1 n1 k1 f2 n2 k2 y (mQ ll).flatten L1 L2 := rfl
theorem cpH_01 {y : sT} {c e t : Bool} {f1 n1 : Int} {k1 : Nat} {L1 : List Value} {f2 n2 : Int} {k2 : Nat} {L2 : List Value} {ll : List mT} {i : Nat} : cpH q l none (some y) c e t f1 n1 k1 L1 f2 n2 k2 L2 ll i = plays_h4 q l.length (aQ l) (i : Int) c e t ll.length c e t 4 f1 n1 k1 f2 n2 k2 y (mQ ll).flatten L1 L2 := rfl
theorem lpH_11 {x y : sT} {c e t : Bool} {f1 n1 : Int} {k1 : Nat} {L1 : List Value} {f2 n2 : Int} {k2 : Nat} {L2 : List Value} {ll : List mT} {i : Nat} : lpH q l (some x) (some y) c e t f1 n1 k1 L1 f2 n2 k2 L2 ll i = plays_h11 q l.length (aQ l) ((i : Int) - 2) c e t ll.length c e t 4 f1 n1 k1 f2 n2 k2 x y (mQ ll).flatten L1 L2 := rfl
theorem cpH_11 {x y : sT} {c e t : Bool} {f1 n1 : Int} {k1 : Nat} {L1 : List Value} {f2 n2 : Int} {k2 : Nat} {L2 : List Value} {ll : List mT} {i : Nat} : cpH q l (some x) (some y) c e t f1 n1 k1 L1 f2 n2 k2 L2 ll i = plays_h8 q l.length (aQ l) ((i : Int) - 1) c e t ll.length c e t 4 f1 n1 k1 f2 n2 k2 x y (mQ ll).flatten L1 L2 := rfl
theorem wr1 {i : Nat} (hi : i ≤ 1000) : IntKind.i64.wrap ((i : Int) - 1 + 1) = (i : Int) := by rw [wrap64_in (by omega) (by omega)]; omega
theorem wr2 {i : Nat} (hi : i ≤ 1000) : IntKind.i64.wrap ((i : Int) - 2 + 1) = (i : Int) - 1 := by rw [wrap64_in (by omega) (by omega)]; omega
theorem wr0 {i : Nat} (hi : i ≤ 1000) : IntKind.i64.wrap ((i : Int) + 1) = ((i + 1 : Nat) : Int) := by rw [wrap64_in (by omega) (by omega)]; omega
theorem plays_cmp00 {i : Nat} (hi : i ≤ 200) (c e t : Bool) (f1 n1 : Int) (k1 : Nat) (L1 : List Value) (f2 n2 : Int) (k2 : Nat) (L2 : List Value) (lr : List sT) (lm ll : List mT) (h : PI q none none c f1 n1 k1 L1 f2 n2 k2 L2 lr lm ll)
  (nx : AEnds E2 6 0 (lpH q l none none c e t f1 n1 k1 L1 f2 n2 k2 L2 ll (i + 1)) (.bool true) []) : AEnds E2 6 0 (plays_h2 q l.length (aQ l) (i : Int) c e t ll.length c e t 4 f1 n1 k1 f2 n2 k2 (mQ ll).flatten L1 L2) (.bool true) [] := by
 have isl := h.isL
 have sf := sR_flat h.s
 have mf := mR_flat h.m
 have sl := slen_in h.s
 have ml := mlen_in h.m
 have c1 := h.c1
 have c3 := h.c3
 have ws : waits00_S0 4 f1 n1 k1 L1 q f2 n2 k2 L2 c e t := by unfold waits00_S0; simp [sf, mf, sl, ml]
 have ss : shut00_S0 4 f1 n1 k1 L1 q f2 n2 k2 L2 c e t := by unfold shut00_S0; simp [sf, mf]
 have rs : rwaits_S0 q ll.length (mQ ll).flatten c e t := ⟨fun _ => mQ_flat _, fun _ => ⟨fun _ => mQ_flat _, fun _ => mQ_flat _⟩⟩
 have sh : shut00_t0 4 f1 n1 k1 L1 q f2 n2 k2 L2 c e t = (c || e) := shut_eq c e
 have wt := waits_00 (e := e) (t := t) h
 cases c with
 | true =>
  have w := plays_w2_0 q l.length (aQ l) (i : Int) true e t ll.length true e t 4 f1 n1 k1 f2 n2 k2 (mQ ll).flatten L1 L2
  rw [wr0 (by omega)] at w
  simp only [prs_mQ, sh, wt] at w
  refine Gets.ends ?_ nx
  rw [lpH_00]
  apply w
  all_goals first | assumption | exact trivial | exact mQ_flat _ | exact ⟨_, isl⟩ | (simp; done) | (simp; omega) | omega | rfl
 | false =>
  have w := plays_w2_1 q l.length (aQ l) (i : Int) false e t ll.length false e t 4 f1 n1 k1 f2 n2 k2 (mQ ll).flatten L1 L2
  rw [wr0 (by omega)] at w
  simp only [prs_mQ, sh, wt] at w
  refine Gets.ends ?_ nx
  rw [lpH_00]
  apply w
  all_goals first | assumption | exact trivial | exact mQ_flat _ | exact ⟨_, isl⟩ | (simp; done) | (simp; omega) | omega | rfl
theorem plays_cmp10 {i : Nat} (hi : i ≤ 200) (x : sT) (c e t : Bool) (f1 n1 : Int) (k1 : Nat) (L1 : List Value) (f2 n2 : Int) (k2 : Nat) (L2 : List Value) (lr : List sT) (lm ll : List mT) (h : PI q (some x) none c f1 n1 k1 L1 f2 n2 k2 L2 lr lm ll)
  (nx : AEnds E2 6 0 (lpH q l (some x) none c e t f1 n1 k1 L1 f2 n2 k2 L2 ll (i + 1)) (.bool true) []) : AEnds E2 6 0 (plays_h3 q l.length (aQ l) (i : Int) c e t ll.length c e t 4 f1 n1 k1 f2 n2 k2 x (mQ ll).flatten L1 L2) (.bool true) [] := by
 have isl := h.isL
 have sf := sR_flat h.s
 have mf := mR_flat h.m
 have sl := slen_in h.s
 have ml := mlen_in h.m
 have c1 := h.c1
 have c3 := h.c3
 have ws : waits10_S0 4 f1 n1 k1 L1 q f2 n2 k2 L2 c e t x := by unfold waits10_S0; simp [sf, mf, sl, ml]
 have ss : shut10_S0 4 f1 n1 k1 L1 q f2 n2 k2 L2 c e t x := by unfold shut10_S0; simp [sf, mf]
 have rs : rwaits_S0 q ll.length (mQ ll).flatten c e t := ⟨fun _ => mQ_flat _, fun _ => ⟨fun _ => mQ_flat _, fun _ => mQ_flat _⟩⟩
 have sh : shut10_t0 4 f1 n1 k1 L1 q f2 n2 k2 L2 c e t x = (c || e) := shut_eq c e
 have wt : rwaits_t0 q ll.length (mQ ll).flatten c e t = true := waits_some h (.inl rfl)
 cases c with
 | true =>
  have w := plays_w3_0 q l.length (aQ l) (i : Int) true e t ll.length true e t 4 f1 n1 k1 f2 n2 k2 x (mQ ll).flatten L1 L2
  simp only [prs_mQ, sh, wt] at w
  refine Gets.ends ?_ nx
  rw [lpH_10]
  rw [show (((i + 1 : Nat) : Int) - 1) = (i : Int) by omega]
  apply w
  all_goals first | assumption | exact trivial | exact mQ_flat _ | exact ⟨_, isl⟩ | (simp; done) | (simp; omega) | omega | rfl
 | false =>
  have w := plays_w3_1 q l.length (aQ l) (i : Int) false e t ll.length false e t 4 f1 n1 k1 f2 n2 k2 x (mQ ll).flatten L1 L2
  simp only [prs_mQ, sh, wt] at w
  refine Gets.ends ?_ nx
  rw [lpH_10]
  rw [show (((i + 1 : Nat) : Int) - 1) = (i : Int) by omega]
  apply w
  all_goals first | assumption | exact trivial | exact mQ_flat _ | exact ⟨_, isl⟩ | (simp; done) | (simp; omega) | omega | rfl
theorem plays_cmp01 {i : Nat} (hi : i ≤ 200) (y : sT) (c e t : Bool) (f1 n1 : Int) (k1 : Nat) (L1 : List Value) (f2 n2 : Int) (k2 : Nat) (L2 : List Value) (lr : List sT) (lm ll : List mT) (h : PI q none (some y) c f1 n1 k1 L1 f2 n2 k2 L2 lr lm ll)
  (nx : AEnds E2 6 0 (lpH q l none (some y) c e t f1 n1 k1 L1 f2 n2 k2 L2 ll (i + 1)) (.bool true) []) : AEnds E2 6 0 (plays_h4 q l.length (aQ l) (i : Int) c e t ll.length c e t 4 f1 n1 k1 f2 n2 k2 y (mQ ll).flatten L1 L2) (.bool true) [] := by
 have isl := h.isL
 have sf := sR_flat h.s
 have mf := mR_flat h.m
 have sl := slen_in h.s
 have ml := mlen_in h.m
 have c1 := h.c1
 have c3 := h.c3
 have ws : waits01_S0 4 f1 n1 k1 L1 q f2 n2 k2 L2 c e t y := by unfold waits01_S0; simp [sf, mf, sl, ml]
 have ss : shut01_S0 4 f1 n1 k1 L1 q f2 n2 k2 L2 c e t y := by unfold shut01_S0; simp [sf, mf]
 have rs : rwaits_S0 q ll.length (mQ ll).flatten c e t := ⟨fun _ => mQ_flat _, fun _ => ⟨fun _ => mQ_flat _, fun _ => mQ_flat _⟩⟩
 have sh : shut01_t0 4 f1 n1 k1 L1 q f2 n2 k2 L2 c e t y = (c || e) := shut_eq c e
 have wt : rwaits_t0 q ll.length (mQ ll).flatten c e t = true := waits_some h (.inr rfl)
 cases c with
 | true =>
  have w := plays_w4_0 q l.length (aQ l) (i : Int) true e t ll.length true e t 4 f1 n1 k1 f2 n2 k2 y (mQ ll).flatten L1 L2
  simp only [prs_mQ, sh, wt] at w
  refine Gets.ends ?_ nx
  rw [lpH_01]
  rw [show (((i + 1 : Nat) : Int) - 1) = (i : Int) by omega]
  apply w
  all_goals first | assumption | exact trivial | exact mQ_flat _ | exact ⟨_, isl⟩ | (simp; done) | (simp; omega) | omega | rfl
 | false =>
  have w := plays_w4_1 q l.length (aQ l) (i : Int) false e t ll.length false e t 4 f1 n1 k1 f2 n2 k2 y (mQ ll).flatten L1 L2
  simp only [prs_mQ, sh, wt] at w
  refine Gets.ends ?_ nx
  rw [lpH_01]
  rw [show (((i + 1 : Nat) : Int) - 1) = (i : Int) by omega]
  apply w
  all_goals first | assumption | exact trivial | exact mQ_flat _ | exact ⟨_, isl⟩ | (simp; done) | (simp; omega) | omega | rfl
theorem plays_cmp11 {i : Nat} (hi : i ≤ 200) (x y : sT) (c e t : Bool) (f1 n1 : Int) (k1 : Nat) (L1 : List Value) (f2 n2 : Int) (k2 : Nat) (L2 : List Value) (lr : List sT) (lm ll : List mT) (h : PI q (some x) (some y) c f1 n1 k1 L1 f2 n2 k2 L2 lr lm ll)
  (nx : AEnds E2 6 0 (lpH q l (some x) (some y) c e t f1 n1 k1 L1 f2 n2 k2 L2 ll (i + 1)) (.bool true) []) : AEnds E2 6 0 (plays_h8 q l.length (aQ l) ((i : Int) - 1) c e t ll.length c e t 4 f1 n1 k1 f2 n2 k2 x y (mQ ll).flatten L1 L2) (.bool true) [] := by
 have isl := h.isL
 have sf := sR_flat h.s
 have mf := mR_flat h.m
 have sl := slen_in h.s
 have ml := mlen_in h.m
 have c1 := h.c1
 have c3 := h.c3
 have ws : waits11_S0 4 f1 n1 k1 L1 q f2 n2 k2 L2 c e t x y := by unfold waits11_S0; simp [sf, mf, sl, ml]
 have ss : shut11_S0 4 f1 n1 k1 L1 q f2 n2 k2 L2 c e t x y := by unfold shut11_S0; simp [sf, mf]
 have rs : rwaits_S0 q ll.length (mQ ll).flatten c e t := ⟨fun _ => mQ_flat _, fun _ => ⟨fun _ => mQ_flat _, fun _ => mQ_flat _⟩⟩
 have sh : shut11_t0 4 f1 n1 k1 L1 q f2 n2 k2 L2 c e t x y = (c || e) := shut_eq c e
 have wt : rwaits_t0 q ll.length (mQ ll).flatten c e t = true := waits_some h (.inl rfl)
 cases c with
 | true =>
  have w := plays_w8_0 q l.length (aQ l) ((i : Int) - 1) true e t ll.length true e t 4 f1 n1 k1 f2 n2 k2 x y (mQ ll).flatten L1 L2
  simp only [prs_mQ, sh, wt] at w
  refine Gets.ends ?_ nx
  rw [lpH_11]
  rw [show (((i + 1 : Nat) : Int) - 2) = ((i : Int) - 1) by omega]
  apply w
  all_goals first | assumption | exact trivial | exact mQ_flat _ | exact ⟨_, isl⟩ | (simp; done) | (simp; omega) | omega | rfl
 | false =>
  have w := plays_w8_1 q l.length (aQ l) ((i : Int) - 1) false e t ll.length false e t 4 f1 n1 k1 f2 n2 k2 x y (mQ ll).flatten L1 L2
  simp only [prs_mQ, sh, wt] at w
  refine Gets.ends ?_ nx
  rw [lpH_11]
  rw [show (((i + 1 : Nat) : Int) - 2) = ((i : Int) - 1) by omega]
  apply w
  all_goals first | assumption | exact trivial | exact mQ_flat _ | exact ⟨_, isl⟩ | (simp; done) | (simp; omega) | omega | rfl
theorem plays_cmp {i : Nat} (hi : i ≤ 200) (p k : Option sT) (c e t : Bool) (f1 n1 : Int) (k1 : Nat) (L1 : List Value) (f2 n2 : Int) (k2 : Nat) (L2 : List Value) (lr : List sT) (lm ll : List mT) (h : PI q p k c f1 n1 k1 L1 f2 n2 k2 L2 lr lm ll)
  (nx : AEnds E2 6 0 (lpH q l p k c e t f1 n1 k1 L1 f2 n2 k2 L2 ll (i + 1)) (.bool true) []) : AEnds E2 6 0 (cpH q l p k c e t f1 n1 k1 L1 f2 n2 k2 L2 ll i) (.bool true) [] := by
 cases p with
 | none => cases k with
  | none => rw [cpH_00]; exact plays_cmp00 hi c e t f1 n1 k1 L1 f2 n2 k2 L2 lr lm ll h nx
  | some y => rw [cpH_01]; exact plays_cmp01 hi y c e t f1 n1 k1 L1 f2 n2 k2 L2 lr lm ll h nx
 | some x => cases k with
  | none => rw [cpH_10]; exact plays_cmp10 hi x c e t f1 n1 k1 L1 f2 n2 k2 L2 lr lm ll h nx
  | some y => rw [cpH_11]; exact plays_cmp11 hi x y c e t f1 n1 k1 L1 f2 n2 k2 L2 lr lm ll h nx

section
variable {i : Nat} (hi : i ≤ 200) (c ed td : Bool) (ln : Nat) (L0 : List Value) (h0 : L0.all flat = true) (k1 k2 : Nat)
 (nx : ∀ (f1 n1 : Int) (L1 : List Value) (f2 n2 : Int) (L2 : List Value), sR 4 f1 n1 k1 L1 [] → mR q f2 n2 k2 L2 [] → AEnds E2 6 0 (cpH q l none none c true true f1 n1 k1 L1 f2 n2 k2 L2 [] i) (.bool true) [])
include hi h0 nx
theorem clr_stop (tb : Bool) (f1 n1 : Int) (L1 : List Value) (f2 n2 : Int) (L2 : List Value) (hs : sR 4 f1 n1 k1 L1 []) (hm : mR q f2 n2 k2 L2 []) : AEnds E2 6 0 (plays_h5 q l.length (aQ l) (i : Int) c true tb ln c ed td 4 f1 n1 k1 f2 n2 k2 L0 L1 L2 false) (.bool true) [] := by
 have _ := hi
 have _ := h0
 have sf := sR_flat hs
 have mf := mR_flat hm
 have w := plays_w5_5 q l.length (aQ l) (i : Int) c true tb ln c ed td 4 f1 n1 k1 f2 n2 k2 L0 L1 L2 false
 refine Gets.ends ?_ (nx f1 n1 L1 f2 n2 L2 hs hm)
 rw [cpH_00, show (mQ ([] : List mT)).flatten = [] from rfl, List.length_nil]
 apply w
 all_goals first | assumption | rfl
theorem clr_told (f1 n1 : Int) (L1 : List Value) (f2 n2 : Int) (L2 : List Value) (hs : sR 4 f1 n1 k1 L1 []) (hm : mR q f2 n2 k2 L2 []) : AEnds E2 6 0 (plays_h5 q l.length (aQ l) (i : Int) c true true ln c ed td 4 f1 n1 k1 f2 n2 k2 L0 L1 L2 true) (.bool true) [] := by
 have sf := sR_flat hs
 have mf := mR_flat hm
 obtain ⟨s1, s2⟩ := spop_nil hs
 obtain ⟨m1, m2⟩ := mpop_nil hm
 have w := plays_w5_3 q l.length (aQ l) (i : Int) c true true ln c ed td 4 f1 n1 k1 f2 n2 k2 L0 L1 L2 true _ s2 _ m2
 refine Gets.ends ?_ (clr_stop hi c ed td ln L0 h0 k1 k2 nx true f1 n1 L1 f2 n2 L2 hs hm)
 apply w
 all_goals first | assumption | rfl
theorem clr_end (tb : Bool) (f1 n1 : Int) (L1 : List Value) (f2 n2 : Int) (L2 : List Value) (hs : sR 4 f1 n1 k1 L1 []) (hm : mR q f2 n2 k2 L2 []) : AEnds E2 6 0 (plays_h5 q l.length (aQ l) (i : Int) c true tb ln c ed td 4 f1 n1 k1 f2 n2 k2 L0 L1 L2 true) (.bool true) [] := by
 cases tb with
 | true => exact clr_told hi c ed td ln L0 h0 k1 k2 nx f1 n1 L1 f2 n2 L2 hs hm
 | false =>
  have sf := sR_flat hs
  have mf := mR_flat hm
  obtain ⟨s1, s2⟩ := spop_nil hs
  obtain ⟨m1, m2⟩ := mpop_nil hm
  have w := plays_w5_2 q l.length (aQ l) (i : Int) c true false ln c ed td 4 f1 n1 k1 f2 n2 k2 L0 L1 L2 true _ s2 _ m2
  refine Gets.ends ?_ (clr_told hi c ed td ln L0 h0 k1 k2 nx f1 n1 L1 f2 n2 L2 hs hm)
  apply w
  all_goals first | assumption | rfl
theorem clr00 (tb : Bool) : ∀ (lr : List sT) (lm : List mT) (f1 n1 : Int) (L1 : List Value) (f2 n2 : Int) (L2 : List Value), sR 4 f1 n1 k1 L1 lr → mR q f2 n2 k2 L2 lm → AEnds E2 6 0 (plays_h5 q l.length (aQ l) (i : Int) c true tb ln c ed td 4 f1 n1 k1 f2 n2 k2 L0 L1 L2 true) (.bool true) []
 | x :: lr, lm, f1, n1, L1, f2, n2, L2, hs, hm => by
  have sf := sR_flat hs
  have mf := mR_flat hm
  obtain ⟨s1, f1', n1', L1', s2, s3⟩ := spop_cons hs
  have sf3 := sR_flat s3
  have w := plays_w5_0 q l.length (aQ l) (i : Int) c true tb ln c ed td 4 f1 n1 k1 f2 n2 k2 L0 L1 L2 true _ s2
  refine Gets.ends ?_ (clr00 tb lr lm f1' n1' L1' f2 n2 L2 s3 hm)
  apply w
  all_goals first | assumption | rfl
 | [], y :: lm, f1, n1, L1, f2, n2, L2, hs, hm => by
  have sf := sR_flat hs
  have mf := mR_flat hm
  obtain ⟨s1, s2⟩ := spop_nil hs
  obtain ⟨m1, f2', n2', L2', m2, m3⟩ := mpop_cons hm
  have mf3 := mR_flat m3
  have w := plays_w5_1 q l.length (aQ l) (i : Int) c true tb ln c ed td 4 f1 n1 k1 f2 n2 k2 L0 L1 L2 true _ s2 _ m2
  refine Gets.ends ?_ (clr00 tb [] lm f1 n1 L1 f2' n2' L2' hs m3)
  apply w
  all_goals first | assumption | rfl
 | [], [], f1, n1, L1, f2, n2, L2, hs, hm => by
  exact clr_end hi c ed td ln L0 h0 k1 k2 nx tb f1 n1 L1 f2 n2 L2 hs hm
theorem clr10 (tb : Bool) (x : sT) : ∀ (lr : List sT) (lm : List mT) (f1 n1 : Int) (L1 : List Value) (f2 n2 : Int) (L2 : List Value), sR 4 f1 n1 k1 L1 lr → mR q f2 n2 k2 L2 lm → AEnds E2 6 0 (plays_h9 q l.length (aQ l) ((i : Int) - 1) c true tb ln c ed td 4 f1 n1 k1 f2 n2 k2 x L0 L1 L2) (.bool true) []
 | z :: lr, lm, f1, n1, L1, f2, n2, L2, hs, hm => by
  have sf := sR_flat hs
  have mf := mR_flat hm
  obtain ⟨s1, f1', n1', L1', s2, s3⟩ := spop_cons hs
  have sf3 := sR_flat s3
  have w := plays_w9_0 q l.length (aQ l) ((i : Int) - 1) c true tb ln c ed td 4 f1 n1 k1 f2 n2 k2 x L0 L1 L2 _ s2
  refine Gets.ends ?_ (clr10 tb x lr lm f1' n1' L1' f2 n2 L2 s3 hm)
  apply w
  all_goals first | assumption | rfl
 | [], lm, f1, n1, L1, f2, n2, L2, hs, hm => by
  have sf := sR_flat hs
  have mf := mR_flat hm
  obtain ⟨s1, s2⟩ := spop_nil hs
  have w := plays_w9_1 q l.length (aQ l) ((i : Int) - 1) c true tb ln c ed td 4 f1 n1 k1 f2 n2 k2 x L0 L1 L2 _ s2
  rw [wr1 (by omega)] at w
  refine Gets.ends ?_ (clr00 hi c ed td ln L0 h0 k1 k2 nx tb [] lm f1 n1 L1 f2 n2 L2 hs hm)
  apply w
  all_goals first | assumption | rfl
theorem clr01 (tb : Bool) (y : sT) : ∀ (lr : List sT) (lm : List mT) (f1 n1 : Int) (L1 : List Value) (f2 n2 : Int) (L2 : List Value), sR 4 f1 n1 k1 L1 lr → mR q f2 n2 k2 L2 lm → AEnds E2 6 0 (plays_h10 q l.length (aQ l) ((i : Int) - 1) c true tb ln c ed td 4 f1 n1 k1 f2 n2 k2 y L0 L1 L2) (.bool true) []
 | z :: lr, lm, f1, n1, L1, f2, n2, L2, hs, hm => by
  have sf := sR_flat hs
  have mf := mR_flat hm
  obtain ⟨s1, f1', n1', L1', s2, s3⟩ := spop_cons hs
  have sf3 := sR_flat s3
  have w := plays_w10_0 q l.length (aQ l) ((i : Int) - 1) c true tb ln c ed td 4 f1 n1 k1 f2 n2 k2 y L0 L1 L2 _ s2
  refine Gets.ends ?_ (clr01 tb y lr lm f1' n1' L1' f2 n2 L2 s3 hm)
  apply w
  all_goals first | assumption | rfl
 | [], z :: lm, f1, n1, L1, f2, n2, L2, hs, hm => by
  have sf := sR_flat hs
  have mf := mR_flat hm
  obtain ⟨s1, s2⟩ := spop_nil hs
  obtain ⟨m1, f2', n2', L2', m2, m3⟩ := mpop_cons hm
  have mf3 := mR_flat m3
  have w := plays_w10_1 q l.length (aQ l) ((i : Int) - 1) c true tb ln c ed td 4 f1 n1 k1 f2 n2 k2 y L0 L1 L2 _ s2 _ m2
  refine Gets.ends ?_ (clr01 tb y [] lm f1 n1 L1 f2' n2' L2' hs m3)
  apply w
  all_goals first | assumption | rfl
 | [], [], f1, n1, L1, f2, n2, L2, hs, hm => by
  have sf := sR_flat hs
  have mf := mR_flat hm
  obtain ⟨s1, s2⟩ := spop_nil hs
  obtain ⟨m1, m2⟩ := mpop_nil hm
  have w := plays_w10_2 q l.length (aQ l) ((i : Int) - 1) c true tb ln c ed td 4 f1 n1 k1 f2 n2 k2 y L0 L1 L2 _ s2 _ m2
  rw [wr1 (by omega)] at w
  refine Gets.ends ?_ (clr_end hi c ed td ln L0 h0 k1 k2 nx tb f1 n1 L1 f2 n2 L2 hs hm)
  apply w
  all_goals first | assumption | rfl
theorem clr11 (tb : Bool) (x y : sT) : ∀ (lr : List sT) (lm : List mT) (f1 n1 : Int) (L1 : List Value) (f2 n2 : Int) (L2 : List Value), sR 4 f1 n1 k1 L1 lr → mR q f2 n2 k2 L2 lm → AEnds E2 6 0 (plays_h12 q l.length (aQ l) ((i : Int) - 2) c true tb ln c ed td 4 f1 n1 k1 f2 n2 k2 x y L0 L1 L2) (.bool true) []
 | z :: lr, lm, f1, n1, L1, f2, n2, L2, hs, hm => by
  have sf := sR_flat hs
  have mf := mR_flat hm
  obtain ⟨s1, f1', n1', L1', s2, s3⟩ := spop_cons hs
  have sf3 := sR_flat s3
  have w := plays_w12_0 q l.length (aQ l) ((i : Int) - 2) c true tb ln c ed td 4 f1 n1 k1 f2 n2 k2 x y L0 L1 L2 _ s2
  refine Gets.ends ?_ (clr11 tb x y lr lm f1' n1' L1' f2 n2 L2 s3 hm)
  apply w
  all_goals first | assumption | rfl
 | [], lm, f1, n1, L1, f2, n2, L2, hs, hm => by
  have sf := sR_flat hs
  have mf := mR_flat hm
  obtain ⟨s1, s2⟩ := spop_nil hs
  have w := plays_w12_1 q l.length (aQ l) ((i : Int) - 2) c true tb ln c ed td 4 f1 n1 k1 f2 n2 k2 x y L0 L1 L2 _ s2
  rw [wr2 (by omega)] at w
  refine Gets.ends ?_ (clr01 hi c ed td ln L0 h0 k1 k2 nx tb y [] lm f1 n1 L1 f2 n2 L2 hs hm)
  apply w
  all_goals first | assumption | rfl
end
theorem plays_act00 (hq : 1 ≤ q ∧ q ≤ 64) (hl : l.length ≤ 200) (hb : ∀ a ∈ l, (0 ≤ a.1 ∧ a.1 ≤ 255) ∧ (0 ≤ a.2.1 ∧ a.2.1 ≤ 255)) {i : Nat} {a : Act} (ha : l[i]? = some a)
  (nx : ∀ (p k : Option sT) (c e t : Bool) (f1 n1 : Int) (k1 : Nat) (L1 : List Value) (f2 n2 : Int) (k2 : Nat) (L2 : List Value) (lr : List sT) (lm ll : List mT), PI q p k c f1 n1 k1 L1 f2 n2 k2 L2 lr lm ll → AEnds E2 6 0 (cpH q l p k c e t f1 n1 k1 L1 f2 n2 k2 L2 ll i) (.bool true) [])
  (c e t : Bool) (f1 n1 : Int) (k1 : Nat) (L1 : List Value) (f2 n2 : Int) (k2 : Nat) (L2 : List Value) (lr : List sT) (lm ll : List mT) (h : PI q none none c f1 n1 k1 L1 f2 n2 k2 L2 lr lm ll) : AEnds E2 6 0 (lpH q l none none c e t f1 n1 k1 L1 f2 n2 k2 L2 ll i) (.bool true) [] := by
 have hi := (List.getElem?_eq_some_iff.1 ha).1
 obtain ⟨g, g0, g1, g2⟩ := aQ_get ha
 obtain ⟨b1, b2⟩ := hb a (List.mem_of_getElem? ha)
 have hlen := aQ_len l
 have isl := h.isL
 have sf := sR_flat h.s
 have mf := mR_flat h.m
 have lf := mQ_flat ll
 have sc : spushc_pre 4 f1 n1 k1 L1 a.2.2 := ⟨_, h.s⟩
 have mc : mpushc_pre q f2 n2 k2 L2 3 a.2.1 a.2.2 := ⟨_, h.m⟩
 have ss : shut00_S0 4 f1 n1 k1 L1 q f2 n2 k2 L2 c e t := by unfold shut00_S0; simp [sf, mf]
 have sh : shut00_t0 4 f1 n1 k1 L1 q f2 n2 k2 L2 c e t = (c || e) := shut_eq c e
 have wo : IntKind.i64.wrap a.2.1 = a.2.1 := wrap64_in (by omega) (by omega)
 show AEnds E2 6 0 (plays_h1 q l.length (aQ l) c e t ll.length c e t 4 f1 n1 k1 f2 n2 k2 (mQ ll).flatten L1 L2 (i : Int)) (.bool true) []
 by_cases a0 : a.1 = 0
 ·cases c with
  | true =>
   have w := plays_w1_0 q l.length (aQ l) true e t ll.length true e t 4 f1 n1 k1 f2 n2 k2 (mQ ll).flatten L1 L2 (i : Int)
   simp only [Int.toNat_natCast, g0, g1, g2, toInt, toStr, isInt, isStr, prs_mQ, wo] at w
   have w := w _ (put_err (.inl rfl))
   refine Gets.ends ?_ (nx none none true e t f1 n1 k1 L1 f2 n2 k2 L2 _ _ _ (h))
   first | rw [cpH_00] | rw [cpH_10] | rw [cpH_01] | rw [cpH_11] | skip
   apply w
   all_goals first | assumption | exact trivial | exact mQ_flat _ | exact ⟨_, isl⟩ | (simp; done) | (simp; omega) | omega | rfl
  | false =>
   cases e with
   | true =>
    have w := plays_w1_1 q l.length (aQ l) false true t ll.length false true t 4 f1 n1 k1 f2 n2 k2 (mQ ll).flatten L1 L2 (i : Int)
    simp only [Int.toNat_natCast, g0, g1, g2, toInt, toStr, isInt, isStr, prs_mQ, wo] at w
    have w := w _ (put_err (.inr rfl))
    refine Gets.ends ?_ (nx none none false true t f1 n1 k1 L1 f2 n2 k2 L2 _ _ _ (h))
    first | rw [cpH_00] | rw [cpH_10] | rw [cpH_01] | rw [cpH_11] | skip
    apply w
    all_goals first | assumption | exact trivial | exact mQ_flat _ | exact ⟨_, isl⟩ | (simp; done) | (simp; omega) | omega | rfl
   | false =>
    by_cases hn : n1 < 4
    ·obtain ⟨f1', n1', k1', L1', s2, s3⟩ := spush_in h.s a.2.2 hn
     have sf3 := sR_flat s3
     have w := plays_w1_3 q l.length (aQ l) false false t ll.length false false t 4 f1 n1 k1 f2 n2 k2 (mQ ll).flatten L1 L2 (i : Int)
     simp only [Int.toNat_natCast, g0, g1, g2, toInt, toStr, isInt, isStr, prs_mQ, wo] at w
     have w := w _ (put_1 h a.2.2 hn) _ (s2)
     refine Gets.ends ?_ (nx none none false false t f1' n1' k1' L1' f2 n2 k2 L2 _ _ _ (h.reply a.2.2 s3))
     first | rw [cpH_00] | rw [cpH_10] | rw [cpH_01] | rw [cpH_11] | skip
     apply w
     all_goals first | assumption | exact trivial | exact mQ_flat _ | exact ⟨_, isl⟩ | (simp; done) | (simp; omega) | omega | rfl
    ·have s2 := spush_full (first := f1) (ln := k1) (L := L1) a.2.2 (show (4 : Int) ≤ n1 by omega)
     have w := plays_w1_2 q l.length (aQ l) false false t ll.length false false t 4 f1 n1 k1 f2 n2 k2 (mQ ll).flatten L1 L2 (i : Int)
     simp only [Int.toNat_natCast, g0, g1, g2, toInt, toStr, isInt, isStr, prs_mQ, wo] at w
     have w := w _ (put_1f h a.2.2 (by omega)) _ (s2)
     refine Gets.ends ?_ (nx none none false false t f1 n1 k1 L1 f2 n2 k2 L2 _ _ _ (h))
     first | rw [cpH_00] | rw [cpH_10] | rw [cpH_01] | rw [cpH_11] | skip
     apply w
     all_goals first | assumption | exact trivial | exact mQ_flat _ | exact ⟨_, isl⟩ | (simp; done) | (simp; omega) | omega | rfl
 by_cases a1 : a.1 = 1
 ·have _ := a1
  cases c with
  | true =>
   have w := plays_w1_4 q l.length (aQ l) true e t ll.length true e t 4 f1 n1 k1 f2 n2 k2 (mQ ll).flatten L1 L2 (i : Int)
   simp only [Int.toNat_natCast, g0, g1, g2, toInt, toStr, isInt, isStr, prs_mQ, wo] at w
   have w := w _ (put_err (.inl rfl))
   refine Gets.ends ?_ (nx none none true e t f1 n1 k1 L1 f2 n2 k2 L2 _ _ _ (h))
   first | rw [cpH_00] | rw [cpH_10] | rw [cpH_01] | rw [cpH_11] | skip
   apply w
   all_goals first | assumption | exact trivial | exact mQ_flat _ | exact ⟨_, isl⟩ | (simp; done) | (simp; omega) | omega | rfl
  | false =>
   cases e with
   | true =>
    have w := plays_w1_4 q l.length (aQ l) false true t ll.length false true t 4 f1 n1 k1 f2 n2 k2 (mQ ll).flatten L1 L2 (i : Int)
    simp only [Int.toNat_natCast, g0, g1, g2, toInt, toStr, isInt, isStr, prs_mQ, wo] at w
    have w := w _ (put_err (.inr rfl))
    refine Gets.ends ?_ (nx none none false true t f1 n1 k1 L1 f2 n2 k2 L2 _ _ _ (h))
    first | rw [cpH_00] | rw [cpH_10] | rw [cpH_01] | rw [cpH_11] | skip
    apply w
    all_goals first | assumption | exact trivial | exact mQ_flat _ | exact ⟨_, isl⟩ | (simp; done) | (simp; omega) | omega | rfl
   | false =>
    have w := plays_w1_5 q l.length (aQ l) false false t ll.length false false t 4 f1 n1 k1 f2 n2 k2 (mQ ll).flatten L1 L2 (i : Int)
    simp only [Int.toNat_natCast, g0, g1, g2, toInt, toStr, isInt, isStr, prs_mQ, wo] at w
    have w := w _ (put_2 a.2.2)
    refine Gets.ends ?_ (nx (some a.2.2) none false false t f1 n1 k1 L1 f2 n2 k2 L2 _ _ _ (h.pong a.2.2))
    first | rw [cpH_00] | rw [cpH_10] | rw [cpH_01] | rw [cpH_11] | skip
    apply w
    all_goals first | assumption | exact trivial | exact mQ_flat _ | exact ⟨_, isl⟩ | (simp; done) | (simp; omega) | omega | rfl
 by_cases a2 : a.1 = 2
 ·have _ := a2
  cases c with
  | true =>
   have w := plays_w1_6 q l.length (aQ l) true e t ll.length true e t 4 f1 n1 k1 f2 n2 k2 (mQ ll).flatten L1 L2 (i : Int)
   simp only [Int.toNat_natCast, g0, g1, g2, toInt, toStr, isInt, isStr, prs_mQ, wo] at w
   have w := w _ (put_err (.inl rfl))
   refine Gets.ends ?_ (nx none none true e t f1 n1 k1 L1 f2 n2 k2 L2 _ _ _ (h))
   first | rw [cpH_00] | rw [cpH_10] | rw [cpH_01] | rw [cpH_11] | skip
   apply w
   all_goals first | assumption | exact trivial | exact mQ_flat _ | exact ⟨_, isl⟩ | (simp; done) | (simp; omega) | omega | rfl
  | false =>
   cases e with
   | true =>
    have w := plays_w1_6 q l.length (aQ l) false true t ll.length false true t 4 f1 n1 k1 f2 n2 k2 (mQ ll).flatten L1 L2 (i : Int)
    simp only [Int.toNat_natCast, g0, g1, g2, toInt, toStr, isInt, isStr, prs_mQ, wo] at w
    have w := w _ (put_err (.inr rfl))
    refine Gets.ends ?_ (nx none none false true t f1 n1 k1 L1 f2 n2 k2 L2 _ _ _ (h))
    first | rw [cpH_00] | rw [cpH_10] | rw [cpH_01] | rw [cpH_11] | skip
    apply w
    all_goals first | assumption | exact trivial | exact mQ_flat _ | exact ⟨_, isl⟩ | (simp; done) | (simp; omega) | omega | rfl
   | false =>
    by_cases hn : n2 < q
    ·obtain ⟨f2', n2', k2', L2', m2, m3⟩ := mpush_in h.m (3, a.2.1, a.2.2) hn
     have mf3 := mR_flat m3
     have w := plays_w1_8 q l.length (aQ l) false false t ll.length false false t 4 f1 n1 k1 f2 n2 k2 (mQ ll).flatten L1 L2 (i : Int)
     simp only [Int.toNat_natCast, g0, g1, g2, toInt, toStr, isInt, isStr, prs_mQ, wo] at w
     have w := w _ (put_3 h a.2.1 a.2.2 hn) _ (m2)
     refine Gets.ends ?_ (nx none none false false t f1 n1 k1 L1 f2' n2' k2' L2' _ _ _ (h.msg a.2.1 a.2.2 m3))
     first | rw [cpH_00] | rw [cpH_10] | rw [cpH_01] | rw [cpH_11] | skip
     apply w
     all_goals first | assumption | exact trivial | exact mQ_flat _ | exact ⟨_, isl⟩ | (simp; done) | (simp; omega) | omega | rfl
    ·have m2 := mpush_full (first := f2) (ln := k2) (L := L2) (3, a.2.1, a.2.2) (show q ≤ n2 by omega)
     have w := plays_w1_7 q l.length (aQ l) false false t ll.length false false t 4 f1 n1 k1 f2 n2 k2 (mQ ll).flatten L1 L2 (i : Int)
     simp only [Int.toNat_natCast, g0, g1, g2, toInt, toStr, isInt, isStr, prs_mQ, wo] at w
     have w := w _ (put_3f h a.2.1 a.2.2 (by omega)) _ (m2)
     refine Gets.ends ?_ (nx none none false false t f1 n1 k1 L1 f2 n2 k2 L2 _ _ _ (h))
     first | rw [cpH_00] | rw [cpH_10] | rw [cpH_01] | rw [cpH_11] | skip
     apply w
     all_goals first | assumption | exact trivial | exact mQ_flat _ | exact ⟨_, isl⟩ | (simp; done) | (simp; omega) | omega | rfl
 by_cases a3 : a.1 = 3
 ·have _ := a3
  cases c with
  | true =>
   have w := plays_w1_9 q l.length (aQ l) true e t ll.length true e t 4 f1 n1 k1 f2 n2 k2 (mQ ll).flatten L1 L2 (i : Int)
   simp only [Int.toNat_natCast, g0, g1, g2, toInt, toStr, isInt, isStr, prs_mQ, wo] at w
   have w := w _ (put_err (.inl rfl))
   refine Gets.ends ?_ (nx none none true e t f1 n1 k1 L1 f2 n2 k2 L2 _ _ _ (h))
   first | rw [cpH_00] | rw [cpH_10] | rw [cpH_01] | rw [cpH_11] | skip
   apply w
   all_goals first | assumption | exact trivial | exact mQ_flat _ | exact ⟨_, isl⟩ | (simp; done) | (simp; omega) | omega | rfl
  | false =>
   cases e with
   | true =>
    have w := plays_w1_9 q l.length (aQ l) false true t ll.length false true t 4 f1 n1 k1 f2 n2 k2 (mQ ll).flatten L1 L2 (i : Int)
    simp only [Int.toNat_natCast, g0, g1, g2, toInt, toStr, isInt, isStr, prs_mQ, wo] at w
    have w := w _ (put_err (.inr rfl))
    refine Gets.ends ?_ (nx none none false true t f1 n1 k1 L1 f2 n2 k2 L2 _ _ _ (h))
    first | rw [cpH_00] | rw [cpH_10] | rw [cpH_01] | rw [cpH_11] | skip
    apply w
    all_goals first | assumption | exact trivial | exact mQ_flat _ | exact ⟨_, isl⟩ | (simp; done) | (simp; omega) | omega | rfl
   | false =>
    have w := plays_w1_10 q l.length (aQ l) false false t ll.length false false t 4 f1 n1 k1 f2 n2 k2 (mQ ll).flatten L1 L2 (i : Int)
    simp only [Int.toNat_natCast, g0, g1, g2, toInt, toStr, isInt, isStr, prs_mQ, wo] at w
    have w := w _ (put_4 a.2.2)
    refine Gets.ends ?_ (nx none (some a.2.2) true false t f1 n1 k1 L1 f2 n2 k2 L2 _ _ _ (h.close a.2.2))
    first | rw [cpH_00] | rw [cpH_10] | rw [cpH_01] | rw [cpH_11] | skip
    apply w
    all_goals first | assumption | exact trivial | exact mQ_flat _ | exact ⟨_, isl⟩ | (simp; done) | (simp; omega) | omega | rfl
 by_cases a4 : a.1 = 4
 ·have _ := a4
  have w := plays_w1_11 q l.length (aQ l) c e t ll.length c e t 4 f1 n1 k1 f2 n2 k2 (mQ ll).flatten L1 L2 (i : Int)
  simp only [Int.toNat_natCast, g0, g1, g2, toInt, toStr, isInt, isStr, prs_mQ, wo] at w
  have w := w
  refine Gets.ends ?_ (nx none none c true t f1 n1 k1 L1 f2 n2 k2 L2 _ _ _ (h))
  first | rw [cpH_00] | rw [cpH_10] | rw [cpH_01] | rw [cpH_11] | skip
  apply w
  all_goals first | assumption | exact trivial | exact mQ_flat _ | exact ⟨_, isl⟩ | (simp; done) | (simp; omega) | omega | rfl
 by_cases a5 : a.1 = 5
 ·have _ := a5
  have w := plays_w1_12 q l.length (aQ l) c e t ll.length c e t 4 f1 n1 k1 f2 n2 k2 (mQ ll).flatten L1 L2 (i : Int)
  simp only [Int.toNat_natCast, g0, g1, g2, toInt, toStr, isInt, isStr, prs_mQ, wo] at w
  have w := w
  refine Gets.ends ?_ (clr00 (by omega) c e t ll.length (mQ ll).flatten lf k1 k2 (fun f1 n1 L1 f2 n2 L2 hs hm => nx none none c true true f1 n1 k1 L1 f2 n2 k2 L2 [] [] [] (PI.nil hs hm c)) t lr lm f1 n1 L1 f2 n2 L2 h.s h.m)
  first | rw [cpH_00] | rw [cpH_10] | rw [cpH_01] | rw [cpH_11] | skip
  apply w
  all_goals first | assumption | exact trivial | exact mQ_flat _ | exact ⟨_, isl⟩ | (simp; done) | (simp; omega) | omega | rfl
 cases lr with
 | cons z lr =>
  obtain ⟨s1, f1', n1', L1', s2, s3⟩ := spop_cons h.s
  have sf3 := sR_flat s3
  have w := plays_w1_13 q l.length (aQ l) c e t ll.length c e t 4 f1 n1 k1 f2 n2 k2 (mQ ll).flatten L1 L2 (i : Int)
  simp only [Int.toNat_natCast, g0, g1, g2, toInt, toStr, isInt, isStr, prs_mQ, wo] at w
  have w := w _ (next_r (e := e) (t := t) h) _ (s2)
  refine Gets.ends ?_ (nx none none c e t f1' n1' k1 L1' f2 n2 k2 L2 _ _ _ (h.nreply s3))
  first | rw [cpH_00] | rw [cpH_10] | rw [cpH_01] | rw [cpH_11] | skip
  apply w
  all_goals first | assumption | exact trivial | exact mQ_flat _ | exact ⟨_, isl⟩ | (simp; done) | (simp; omega) | omega | rfl
 | nil =>
  obtain ⟨s1, s2⟩ := spop_nil h.s
  cases lm with
  | cons z lm =>
   obtain ⟨m1, f2', n2', L2', m2, m3⟩ := mpop_cons h.m
   have mf3 := mR_flat m3
   have w := plays_w1_14 q l.length (aQ l) c e t ll.length c e t 4 f1 n1 k1 f2 n2 k2 (mQ ll).flatten L1 L2 (i : Int)
   simp only [Int.toNat_natCast, g0, g1, g2, toInt, toStr, isInt, isStr, prs_mQ, wo] at w
   have w := w _ (next_m (e := e) (t := t) h) _ (s2) _ (m2)
   refine Gets.ends ?_ (nx none none c e t f1 n1 k1 L1 f2' n2' k2 L2' _ _ _ (h.nmsg m3))
   first | rw [cpH_00] | rw [cpH_10] | rw [cpH_01] | rw [cpH_11] | skip
   apply w
   all_goals first | assumption | exact trivial | exact mQ_flat _ | exact ⟨_, isl⟩ | (simp; done) | (simp; omega) | omega | rfl
  | nil =>
   obtain ⟨m1, m2⟩ := mpop_nil h.m
   cases e with
   | true =>
    cases t with
    | false =>
     have w := plays_w1_15 q l.length (aQ l) c true false ll.length c true false 4 f1 n1 k1 f2 n2 k2 (mQ ll).flatten L1 L2 (i : Int)
     simp only [Int.toNat_natCast, g0, g1, g2, toInt, toStr, isInt, isStr, prs_mQ, wo] at w
     have w := w _ (next_0 (e := true) (t := false) h) _ (s2) _ (m2)
     refine Gets.ends ?_ (nx none none c true true f1 n1 k1 L1 f2 n2 k2 L2 _ _ _ (h))
     first | rw [cpH_00] | rw [cpH_10] | rw [cpH_01] | rw [cpH_11] | skip
     apply w
     all_goals first | assumption | exact trivial | exact mQ_flat _ | exact ⟨_, isl⟩ | (simp; done) | (simp; omega) | omega | rfl
    | true =>
     have w := plays_w1_16 q l.length (aQ l) c true true ll.length c true true 4 f1 n1 k1 f2 n2 k2 (mQ ll).flatten L1 L2 (i : Int)
     simp only [Int.toNat_natCast, g0, g1, g2, toInt, toStr, isInt, isStr, prs_mQ, wo] at w
     have w := w _ (next_0 (e := true) (t := true) h) _ (s2) _ (m2)
     refine Gets.ends ?_ (nx none none c true true f1 n1 k1 L1 f2 n2 k2 L2 _ _ _ (h))
     first | rw [cpH_00] | rw [cpH_10] | rw [cpH_01] | rw [cpH_11] | skip
     apply w
     all_goals first | assumption | exact trivial | exact mQ_flat _ | exact ⟨_, isl⟩ | (simp; done) | (simp; omega) | omega | rfl
   | false =>
    have w := plays_w1_17 q l.length (aQ l) c false t ll.length c false t 4 f1 n1 k1 f2 n2 k2 (mQ ll).flatten L1 L2 (i : Int)
    simp only [Int.toNat_natCast, g0, g1, g2, toInt, toStr, isInt, isStr, prs_mQ, wo] at w
    have w := w _ (next_0 (e := false) (t := t) h) _ (s2) _ (m2)
    refine Gets.ends ?_ (nx none none c false t f1 n1 k1 L1 f2 n2 k2 L2 _ _ _ (h))
    first | rw [cpH_00] | rw [cpH_10] | rw [cpH_01] | rw [cpH_11] | skip
    apply w
    all_goals first | assumption | exact trivial | exact mQ_flat _ | exact ⟨_, isl⟩ | (simp; done) | (simp; omega) | omega | rfl
theorem plays_act10 (hq : 1 ≤ q ∧ q ≤ 64) (hl : l.length ≤ 200) (hb : ∀ a ∈ l, (0 ≤ a.1 ∧ a.1 ≤ 255) ∧ (0 ≤ a.2.1 ∧ a.2.1 ≤ 255)) {i : Nat} {a : Act} (ha : l[i]? = some a)
  (nx : ∀ (p k : Option sT) (c e t : Bool) (f1 n1 : Int) (k1 : Nat) (L1 : List Value) (f2 n2 : Int) (k2 : Nat) (L2 : List Value) (lr : List sT) (lm ll : List mT), PI q p k c f1 n1 k1 L1 f2 n2 k2 L2 lr lm ll → AEnds E2 6 0 (cpH q l p k c e t f1 n1 k1 L1 f2 n2 k2 L2 ll i) (.bool true) [])
  (x : sT) (c e t : Bool) (f1 n1 : Int) (k1 : Nat) (L1 : List Value) (f2 n2 : Int) (k2 : Nat) (L2 : List Value) (lr : List sT) (lm ll : List mT) (h : PI q (some x) none c f1 n1 k1 L1 f2 n2 k2 L2 lr lm ll) : AEnds E2 6 0 (lpH q l (some x) none c e t f1 n1 k1 L1 f2 n2 k2 L2 ll i) (.bool true) [] := by
 have hi := (List.getElem?_eq_some_iff.1 ha).1
 obtain ⟨g, g0, g1, g2⟩ := aQ_get ha
 obtain ⟨b1, b2⟩ := hb a (List.mem_of_getElem? ha)
 have hlen := aQ_len l
 have isl := h.isL
 have sf := sR_flat h.s
 have mf := mR_flat h.m
 have lf := mQ_flat ll
 have sc : spushc_pre 4 f1 n1 k1 L1 a.2.2 := ⟨_, h.s⟩
 have mc : mpushc_pre q f2 n2 k2 L2 3 a.2.1 a.2.2 := ⟨_, h.m⟩
 have ss : shut10_S0 4 f1 n1 k1 L1 q f2 n2 k2 L2 c e t x := by unfold shut10_S0; simp [sf, mf]
 have sh : shut10_t0 4 f1 n1 k1 L1 q f2 n2 k2 L2 c e t x = (c || e) := shut_eq c e
 have wo : IntKind.i64.wrap a.2.1 = a.2.1 := wrap64_in (by omega) (by omega)
 show AEnds E2 6 0 (plays_h6 q l.length (aQ l) ((i : Int) - 1) c e t ll.length c e t 4 f1 n1 k1 f2 n2 k2 x (mQ ll).flatten L1 L2) (.bool true) []
 by_cases a0 : a.1 = 0
 ·cases c with
  | true =>
   have w := plays_w6_0 q l.length (aQ l) ((i : Int) - 1) true e t ll.length true e t 4 f1 n1 k1 f2 n2 k2 x (mQ ll).flatten L1 L2
   simp only [wr1 (show i ≤ 1000 by omega), Int.toNat_natCast, g0, g1, g2, toInt, toStr, isInt, isStr, prs_mQ, wo] at w
   have w := w _ (put_err (.inl rfl))
   refine Gets.ends ?_ (nx (some x) none true e t f1 n1 k1 L1 f2 n2 k2 L2 _ _ _ (h))
   first | rw [cpH_00] | rw [cpH_10] | rw [cpH_01] | rw [cpH_11] | skip
   apply w
   all_goals first | assumption | exact trivial | exact mQ_flat _ | exact ⟨_, isl⟩ | (simp; done) | (simp; omega) | omega | rfl
  | false =>
   cases e with
   | true =>
    have w := plays_w6_1 q l.length (aQ l) ((i : Int) - 1) false true t ll.length false true t 4 f1 n1 k1 f2 n2 k2 x (mQ ll).flatten L1 L2
    simp only [wr1 (show i ≤ 1000 by omega), Int.toNat_natCast, g0, g1, g2, toInt, toStr, isInt, isStr, prs_mQ, wo] at w
    have w := w _ (put_err (.inr rfl))
    refine Gets.ends ?_ (nx (some x) none false true t f1 n1 k1 L1 f2 n2 k2 L2 _ _ _ (h))
    first | rw [cpH_00] | rw [cpH_10] | rw [cpH_01] | rw [cpH_11] | skip
    apply w
    all_goals first | assumption | exact trivial | exact mQ_flat _ | exact ⟨_, isl⟩ | (simp; done) | (simp; omega) | omega | rfl
   | false =>
    by_cases hn : n1 < 4
    ·obtain ⟨f1', n1', k1', L1', s2, s3⟩ := spush_in h.s a.2.2 hn
     have sf3 := sR_flat s3
     have w := plays_w6_3 q l.length (aQ l) ((i : Int) - 1) false false t ll.length false false t 4 f1 n1 k1 f2 n2 k2 x (mQ ll).flatten L1 L2
     simp only [wr1 (show i ≤ 1000 by omega), Int.toNat_natCast, g0, g1, g2, toInt, toStr, isInt, isStr, prs_mQ, wo] at w
     have w := w _ (put_1 h a.2.2 hn) _ (s2)
     refine Gets.ends ?_ (nx (some x) none false false t f1' n1' k1' L1' f2 n2 k2 L2 _ _ _ (h.reply a.2.2 s3))
     first | rw [cpH_00] | rw [cpH_10] | rw [cpH_01] | rw [cpH_11] | skip
     apply w
     all_goals first | assumption | exact trivial | exact mQ_flat _ | exact ⟨_, isl⟩ | (simp; done) | (simp; omega) | omega | rfl
    ·have s2 := spush_full (first := f1) (ln := k1) (L := L1) a.2.2 (show (4 : Int) ≤ n1 by omega)
     have w := plays_w6_2 q l.length (aQ l) ((i : Int) - 1) false false t ll.length false false t 4 f1 n1 k1 f2 n2 k2 x (mQ ll).flatten L1 L2
     simp only [wr1 (show i ≤ 1000 by omega), Int.toNat_natCast, g0, g1, g2, toInt, toStr, isInt, isStr, prs_mQ, wo] at w
     have w := w _ (put_1f h a.2.2 (by omega)) _ (s2)
     refine Gets.ends ?_ (nx (some x) none false false t f1 n1 k1 L1 f2 n2 k2 L2 _ _ _ (h))
     first | rw [cpH_00] | rw [cpH_10] | rw [cpH_01] | rw [cpH_11] | skip
     apply w
     all_goals first | assumption | exact trivial | exact mQ_flat _ | exact ⟨_, isl⟩ | (simp; done) | (simp; omega) | omega | rfl
 by_cases a1 : a.1 = 1
 ·have _ := a1
  cases c with
  | true =>
   have w := plays_w6_4 q l.length (aQ l) ((i : Int) - 1) true e t ll.length true e t 4 f1 n1 k1 f2 n2 k2 x (mQ ll).flatten L1 L2
   simp only [wr1 (show i ≤ 1000 by omega), Int.toNat_natCast, g0, g1, g2, toInt, toStr, isInt, isStr, prs_mQ, wo] at w
   have w := w _ (put_err (.inl rfl))
   refine Gets.ends ?_ (nx (some x) none true e t f1 n1 k1 L1 f2 n2 k2 L2 _ _ _ (h))
   first | rw [cpH_00] | rw [cpH_10] | rw [cpH_01] | rw [cpH_11] | skip
   apply w
   all_goals first | assumption | exact trivial | exact mQ_flat _ | exact ⟨_, isl⟩ | (simp; done) | (simp; omega) | omega | rfl
  | false =>
   cases e with
   | true =>
    have w := plays_w6_4 q l.length (aQ l) ((i : Int) - 1) false true t ll.length false true t 4 f1 n1 k1 f2 n2 k2 x (mQ ll).flatten L1 L2
    simp only [wr1 (show i ≤ 1000 by omega), Int.toNat_natCast, g0, g1, g2, toInt, toStr, isInt, isStr, prs_mQ, wo] at w
    have w := w _ (put_err (.inr rfl))
    refine Gets.ends ?_ (nx (some x) none false true t f1 n1 k1 L1 f2 n2 k2 L2 _ _ _ (h))
    first | rw [cpH_00] | rw [cpH_10] | rw [cpH_01] | rw [cpH_11] | skip
    apply w
    all_goals first | assumption | exact trivial | exact mQ_flat _ | exact ⟨_, isl⟩ | (simp; done) | (simp; omega) | omega | rfl
   | false =>
    have w := plays_w6_5 q l.length (aQ l) ((i : Int) - 1) false false t ll.length false false t 4 f1 n1 k1 f2 n2 k2 x (mQ ll).flatten L1 L2
    simp only [wr1 (show i ≤ 1000 by omega), Int.toNat_natCast, g0, g1, g2, toInt, toStr, isInt, isStr, prs_mQ, wo] at w
    have w := w _ (put_2 a.2.2)
    refine Gets.ends ?_ (nx (some a.2.2) none false false t f1 n1 k1 L1 f2 n2 k2 L2 _ _ _ (h.pong a.2.2))
    first | rw [cpH_00] | rw [cpH_10] | rw [cpH_01] | rw [cpH_11] | skip
    apply w
    all_goals first | assumption | exact trivial | exact mQ_flat _ | exact ⟨_, isl⟩ | (simp; done) | (simp; omega) | omega | rfl
 by_cases a2 : a.1 = 2
 ·have _ := a2
  cases c with
  | true =>
   have w := plays_w6_6 q l.length (aQ l) ((i : Int) - 1) true e t ll.length true e t 4 f1 n1 k1 f2 n2 k2 x (mQ ll).flatten L1 L2
   simp only [wr1 (show i ≤ 1000 by omega), Int.toNat_natCast, g0, g1, g2, toInt, toStr, isInt, isStr, prs_mQ, wo] at w
   have w := w _ (put_err (.inl rfl))
   refine Gets.ends ?_ (nx (some x) none true e t f1 n1 k1 L1 f2 n2 k2 L2 _ _ _ (h))
   first | rw [cpH_00] | rw [cpH_10] | rw [cpH_01] | rw [cpH_11] | skip
   apply w
   all_goals first | assumption | exact trivial | exact mQ_flat _ | exact ⟨_, isl⟩ | (simp; done) | (simp; omega) | omega | rfl
  | false =>
   cases e with
   | true =>
    have w := plays_w6_6 q l.length (aQ l) ((i : Int) - 1) false true t ll.length false true t 4 f1 n1 k1 f2 n2 k2 x (mQ ll).flatten L1 L2
    simp only [wr1 (show i ≤ 1000 by omega), Int.toNat_natCast, g0, g1, g2, toInt, toStr, isInt, isStr, prs_mQ, wo] at w
    have w := w _ (put_err (.inr rfl))
    refine Gets.ends ?_ (nx (some x) none false true t f1 n1 k1 L1 f2 n2 k2 L2 _ _ _ (h))
    first | rw [cpH_00] | rw [cpH_10] | rw [cpH_01] | rw [cpH_11] | skip
    apply w
    all_goals first | assumption | exact trivial | exact mQ_flat _ | exact ⟨_, isl⟩ | (simp; done) | (simp; omega) | omega | rfl
   | false =>
    by_cases hn : n2 < q
    ·obtain ⟨f2', n2', k2', L2', m2, m3⟩ := mpush_in h.m (3, a.2.1, a.2.2) hn
     have mf3 := mR_flat m3
     have w := plays_w6_8 q l.length (aQ l) ((i : Int) - 1) false false t ll.length false false t 4 f1 n1 k1 f2 n2 k2 x (mQ ll).flatten L1 L2
     simp only [wr1 (show i ≤ 1000 by omega), Int.toNat_natCast, g0, g1, g2, toInt, toStr, isInt, isStr, prs_mQ, wo] at w
     have w := w _ (put_3 h a.2.1 a.2.2 hn) _ (m2)
     refine Gets.ends ?_ (nx (some x) none false false t f1 n1 k1 L1 f2' n2' k2' L2' _ _ _ (h.msg a.2.1 a.2.2 m3))
     first | rw [cpH_00] | rw [cpH_10] | rw [cpH_01] | rw [cpH_11] | skip
     apply w
     all_goals first | assumption | exact trivial | exact mQ_flat _ | exact ⟨_, isl⟩ | (simp; done) | (simp; omega) | omega | rfl
    ·have m2 := mpush_full (first := f2) (ln := k2) (L := L2) (3, a.2.1, a.2.2) (show q ≤ n2 by omega)
     have w := plays_w6_7 q l.length (aQ l) ((i : Int) - 1) false false t ll.length false false t 4 f1 n1 k1 f2 n2 k2 x (mQ ll).flatten L1 L2
     simp only [wr1 (show i ≤ 1000 by omega), Int.toNat_natCast, g0, g1, g2, toInt, toStr, isInt, isStr, prs_mQ, wo] at w
     have w := w _ (put_3f h a.2.1 a.2.2 (by omega)) _ (m2)
     refine Gets.ends ?_ (nx (some x) none false false t f1 n1 k1 L1 f2 n2 k2 L2 _ _ _ (h))
     first | rw [cpH_00] | rw [cpH_10] | rw [cpH_01] | rw [cpH_11] | skip
     apply w
     all_goals first | assumption | exact trivial | exact mQ_flat _ | exact ⟨_, isl⟩ | (simp; done) | (simp; omega) | omega | rfl
 by_cases a3 : a.1 = 3
 ·have _ := a3
  cases c with
  | true =>
   have w := plays_w6_9 q l.length (aQ l) ((i : Int) - 1) true e t ll.length true e t 4 f1 n1 k1 f2 n2 k2 x (mQ ll).flatten L1 L2
   simp only [wr1 (show i ≤ 1000 by omega), Int.toNat_natCast, g0, g1, g2, toInt, toStr, isInt, isStr, prs_mQ, wo] at w
   have w := w _ (put_err (.inl rfl))
   refine Gets.ends ?_ (nx (some x) none true e t f1 n1 k1 L1 f2 n2 k2 L2 _ _ _ (h))
   first | rw [cpH_00] | rw [cpH_10] | rw [cpH_01] | rw [cpH_11] | skip
   apply w
   all_goals first | assumption | exact trivial | exact mQ_flat _ | exact ⟨_, isl⟩ | (simp; done) | (simp; omega) | omega | rfl
  | false =>
   cases e with
   | true =>
    have w := plays_w6_9 q l.length (aQ l) ((i : Int) - 1) false true t ll.length false true t 4 f1 n1 k1 f2 n2 k2 x (mQ ll).flatten L1 L2
    simp only [wr1 (show i ≤ 1000 by omega), Int.toNat_natCast, g0, g1, g2, toInt, toStr, isInt, isStr, prs_mQ, wo] at w
    have w := w _ (put_err (.inr rfl))
    refine Gets.ends ?_ (nx (some x) none false true t f1 n1 k1 L1 f2 n2 k2 L2 _ _ _ (h))
    first | rw [cpH_00] | rw [cpH_10] | rw [cpH_01] | rw [cpH_11] | skip
    apply w
    all_goals first | assumption | exact trivial | exact mQ_flat _ | exact ⟨_, isl⟩ | (simp; done) | (simp; omega) | omega | rfl
   | false =>
    have w := plays_w6_10 q l.length (aQ l) ((i : Int) - 1) false false t ll.length false false t 4 f1 n1 k1 f2 n2 k2 x (mQ ll).flatten L1 L2
    simp only [wr1 (show i ≤ 1000 by omega), Int.toNat_natCast, g0, g1, g2, toInt, toStr, isInt, isStr, prs_mQ, wo] at w
    have w := w _ (put_4 a.2.2)
    refine Gets.ends ?_ (nx (some x) (some a.2.2) true false t f1 n1 k1 L1 f2 n2 k2 L2 _ _ _ (h.close a.2.2))
    first | rw [cpH_00] | rw [cpH_10] | rw [cpH_01] | rw [cpH_11] | skip
    apply w
    all_goals first | assumption | exact trivial | exact mQ_flat _ | exact ⟨_, isl⟩ | (simp; done) | (simp; omega) | omega | rfl
 by_cases a4 : a.1 = 4
 ·have _ := a4
  have w := plays_w6_11 q l.length (aQ l) ((i : Int) - 1) c e t ll.length c e t 4 f1 n1 k1 f2 n2 k2 x (mQ ll).flatten L1 L2
  simp only [wr1 (show i ≤ 1000 by omega), Int.toNat_natCast, g0, g1, g2, toInt, toStr, isInt, isStr, prs_mQ, wo] at w
  have w := w
  refine Gets.ends ?_ (nx (some x) none c true t f1 n1 k1 L1 f2 n2 k2 L2 _ _ _ (h))
  first | rw [cpH_00] | rw [cpH_10] | rw [cpH_01] | rw [cpH_11] | skip
  apply w
  all_goals first | assumption | exact trivial | exact mQ_flat _ | exact ⟨_, isl⟩ | (simp; done) | (simp; omega) | omega | rfl
 by_cases a5 : a.1 = 5
 ·have _ := a5
  have w := plays_w6_12 q l.length (aQ l) ((i : Int) - 1) c e t ll.length c e t 4 f1 n1 k1 f2 n2 k2 x (mQ ll).flatten L1 L2
  simp only [wr1 (show i ≤ 1000 by omega), Int.toNat_natCast, g0, g1, g2, toInt, toStr, isInt, isStr, prs_mQ, wo] at w
  have w := w
  refine Gets.ends ?_ (clr10 (by omega) c e t ll.length (mQ ll).flatten lf k1 k2 (fun f1 n1 L1 f2 n2 L2 hs hm => nx none none c true true f1 n1 k1 L1 f2 n2 k2 L2 [] [] [] (PI.nil hs hm c)) t x lr lm f1 n1 L1 f2 n2 L2 h.s h.m)
  first | rw [cpH_00] | rw [cpH_10] | rw [cpH_01] | rw [cpH_11] | skip
  apply w
  all_goals first | assumption | exact trivial | exact mQ_flat _ | exact ⟨_, isl⟩ | (simp; done) | (simp; omega) | omega | rfl
 cases lr with
 | cons z lr =>
  obtain ⟨s1, f1', n1', L1', s2, s3⟩ := spop_cons h.s
  have sf3 := sR_flat s3
  have w := plays_w6_13 q l.length (aQ l) ((i : Int) - 1) c e t ll.length c e t 4 f1 n1 k1 f2 n2 k2 x (mQ ll).flatten L1 L2
  simp only [wr1 (show i ≤ 1000 by omega), Int.toNat_natCast, g0, g1, g2, toInt, toStr, isInt, isStr, prs_mQ, wo] at w
  have w := w _ (next_r (e := e) (t := t) h) _ (s2)
  refine Gets.ends ?_ (nx (some x) none c e t f1' n1' k1 L1' f2 n2 k2 L2 _ _ _ (h.nreply s3))
  first | rw [cpH_00] | rw [cpH_10] | rw [cpH_01] | rw [cpH_11] | skip
  apply w
  all_goals first | assumption | exact trivial | exact mQ_flat _ | exact ⟨_, isl⟩ | (simp; done) | (simp; omega) | omega | rfl
 | nil =>
  obtain ⟨s1, s2⟩ := spop_nil h.s
  have w := plays_w6_14 q l.length (aQ l) ((i : Int) - 1) c e t ll.length c e t 4 f1 n1 k1 f2 n2 k2 x (mQ ll).flatten L1 L2
  simp only [wr1 (show i ≤ 1000 by omega), Int.toNat_natCast, g0, g1, g2, toInt, toStr, isInt, isStr, prs_mQ, wo] at w
  have w := w _ (next_p (e := e) (t := t) h) _ (s2)
  refine Gets.ends ?_ (nx none none c e t f1 n1 k1 L1 f2 n2 k2 L2 _ _ _ (h.npong))
  first | rw [cpH_00] | rw [cpH_10] | rw [cpH_01] | rw [cpH_11] | skip
  apply w
  all_goals first | assumption | exact trivial | exact mQ_flat _ | exact ⟨_, isl⟩ | (simp; done) | (simp; omega) | omega | rfl
theorem plays_act01 (hq : 1 ≤ q ∧ q ≤ 64) (hl : l.length ≤ 200) (hb : ∀ a ∈ l, (0 ≤ a.1 ∧ a.1 ≤ 255) ∧ (0 ≤ a.2.1 ∧ a.2.1 ≤ 255)) {i : Nat} {a : Act} (ha : l[i]? = some a)
  (nx : ∀ (p k : Option sT) (c e t : Bool) (f1 n1 : Int) (k1 : Nat) (L1 : List Value) (f2 n2 : Int) (k2 : Nat) (L2 : List Value) (lr : List sT) (lm ll : List mT), PI q p k c f1 n1 k1 L1 f2 n2 k2 L2 lr lm ll → AEnds E2 6 0 (cpH q l p k c e t f1 n1 k1 L1 f2 n2 k2 L2 ll i) (.bool true) [])
  (y : sT) (c e t : Bool) (f1 n1 : Int) (k1 : Nat) (L1 : List Value) (f2 n2 : Int) (k2 : Nat) (L2 : List Value) (lr : List sT) (lm ll : List mT) (h : PI q none (some y) c f1 n1 k1 L1 f2 n2 k2 L2 lr lm ll) : AEnds E2 6 0 (lpH q l none (some y) c e t f1 n1 k1 L1 f2 n2 k2 L2 ll i) (.bool true) [] := by
 have hi := (List.getElem?_eq_some_iff.1 ha).1
 obtain ⟨g, g0, g1, g2⟩ := aQ_get ha
 obtain ⟨b1, b2⟩ := hb a (List.mem_of_getElem? ha)
 have hlen := aQ_len l
 have isl := h.isL
 have sf := sR_flat h.s
 have mf := mR_flat h.m
 have lf := mQ_flat ll
 have sc : spushc_pre 4 f1 n1 k1 L1 a.2.2 := ⟨_, h.s⟩
 have mc : mpushc_pre q f2 n2 k2 L2 3 a.2.1 a.2.2 := ⟨_, h.m⟩
 have ss : shut01_S0 4 f1 n1 k1 L1 q f2 n2 k2 L2 c e t y := by unfold shut01_S0; simp [sf, mf]
 have sh : shut01_t0 4 f1 n1 k1 L1 q f2 n2 k2 L2 c e t y = (c || e) := shut_eq c e
 have wo : IntKind.i64.wrap a.2.1 = a.2.1 := wrap64_in (by omega) (by omega)
 show AEnds E2 6 0 (plays_h7 q l.length (aQ l) ((i : Int) - 1) c e t ll.length c e t 4 f1 n1 k1 f2 n2 k2 y (mQ ll).flatten L1 L2) (.bool true) []
 by_cases a0 : a.1 = 0
 ·cases c with
  | true =>
   have w := plays_w7_0 q l.length (aQ l) ((i : Int) - 1) true e t ll.length true e t 4 f1 n1 k1 f2 n2 k2 y (mQ ll).flatten L1 L2
   simp only [wr1 (show i ≤ 1000 by omega), Int.toNat_natCast, g0, g1, g2, toInt, toStr, isInt, isStr, prs_mQ, wo] at w
   have w := w _ (put_err (.inl rfl))
   refine Gets.ends ?_ (nx none (some y) true e t f1 n1 k1 L1 f2 n2 k2 L2 _ _ _ (h))
   first | rw [cpH_00] | rw [cpH_10] | rw [cpH_01] | rw [cpH_11] | skip
   apply w
   all_goals first | assumption | exact trivial | exact mQ_flat _ | exact ⟨_, isl⟩ | (simp; done) | (simp; omega) | omega | rfl
  | false =>
   cases e with
   | true =>
    have w := plays_w7_1 q l.length (aQ l) ((i : Int) - 1) false true t ll.length false true t 4 f1 n1 k1 f2 n2 k2 y (mQ ll).flatten L1 L2
    simp only [wr1 (show i ≤ 1000 by omega), Int.toNat_natCast, g0, g1, g2, toInt, toStr, isInt, isStr, prs_mQ, wo] at w
    have w := w _ (put_err (.inr rfl))
    refine Gets.ends ?_ (nx none (some y) false true t f1 n1 k1 L1 f2 n2 k2 L2 _ _ _ (h))
    first | rw [cpH_00] | rw [cpH_10] | rw [cpH_01] | rw [cpH_11] | skip
    apply w
    all_goals first | assumption | exact trivial | exact mQ_flat _ | exact ⟨_, isl⟩ | (simp; done) | (simp; omega) | omega | rfl
   | false =>
    by_cases hn : n1 < 4
    ·obtain ⟨f1', n1', k1', L1', s2, s3⟩ := spush_in h.s a.2.2 hn
     have sf3 := sR_flat s3
     have w := plays_w7_3 q l.length (aQ l) ((i : Int) - 1) false false t ll.length false false t 4 f1 n1 k1 f2 n2 k2 y (mQ ll).flatten L1 L2
     simp only [wr1 (show i ≤ 1000 by omega), Int.toNat_natCast, g0, g1, g2, toInt, toStr, isInt, isStr, prs_mQ, wo] at w
     have w := w _ (put_1 h a.2.2 hn) _ (s2)
     refine Gets.ends ?_ (nx none (some y) false false t f1' n1' k1' L1' f2 n2 k2 L2 _ _ _ (h.reply a.2.2 s3))
     first | rw [cpH_00] | rw [cpH_10] | rw [cpH_01] | rw [cpH_11] | skip
     apply w
     all_goals first | assumption | exact trivial | exact mQ_flat _ | exact ⟨_, isl⟩ | (simp; done) | (simp; omega) | omega | rfl
    ·have s2 := spush_full (first := f1) (ln := k1) (L := L1) a.2.2 (show (4 : Int) ≤ n1 by omega)
     have w := plays_w7_2 q l.length (aQ l) ((i : Int) - 1) false false t ll.length false false t 4 f1 n1 k1 f2 n2 k2 y (mQ ll).flatten L1 L2
     simp only [wr1 (show i ≤ 1000 by omega), Int.toNat_natCast, g0, g1, g2, toInt, toStr, isInt, isStr, prs_mQ, wo] at w
     have w := w _ (put_1f h a.2.2 (by omega)) _ (s2)
     refine Gets.ends ?_ (nx none (some y) false false t f1 n1 k1 L1 f2 n2 k2 L2 _ _ _ (h))
     first | rw [cpH_00] | rw [cpH_10] | rw [cpH_01] | rw [cpH_11] | skip
     apply w
     all_goals first | assumption | exact trivial | exact mQ_flat _ | exact ⟨_, isl⟩ | (simp; done) | (simp; omega) | omega | rfl
 by_cases a1 : a.1 = 1
 ·have _ := a1
  cases c with
  | true =>
   have w := plays_w7_4 q l.length (aQ l) ((i : Int) - 1) true e t ll.length true e t 4 f1 n1 k1 f2 n2 k2 y (mQ ll).flatten L1 L2
   simp only [wr1 (show i ≤ 1000 by omega), Int.toNat_natCast, g0, g1, g2, toInt, toStr, isInt, isStr, prs_mQ, wo] at w
   have w := w _ (put_err (.inl rfl))
   refine Gets.ends ?_ (nx none (some y) true e t f1 n1 k1 L1 f2 n2 k2 L2 _ _ _ (h))
   first | rw [cpH_00] | rw [cpH_10] | rw [cpH_01] | rw [cpH_11] | skip
   apply w
   all_goals first | assumption | exact trivial | exact mQ_flat _ | exact ⟨_, isl⟩ | (simp; done) | (simp; omega) | omega | rfl
  | false =>
   cases e with
   | true =>
    have w := plays_w7_4 q l.length (aQ l) ((i : Int) - 1) false true t ll.length false true t 4 f1 n1 k1 f2 n2 k2 y (mQ ll).flatten L1 L2
    simp only [wr1 (show i ≤ 1000 by omega), Int.toNat_natCast, g0, g1, g2, toInt, toStr, isInt, isStr, prs_mQ, wo] at w
    have w := w _ (put_err (.inr rfl))
    refine Gets.ends ?_ (nx none (some y) false true t f1 n1 k1 L1 f2 n2 k2 L2 _ _ _ (h))
    first | rw [cpH_00] | rw [cpH_10] | rw [cpH_01] | rw [cpH_11] | skip
    apply w
    all_goals first | assumption | exact trivial | exact mQ_flat _ | exact ⟨_, isl⟩ | (simp; done) | (simp; omega) | omega | rfl
   | false =>
    have w := plays_w7_5 q l.length (aQ l) ((i : Int) - 1) false false t ll.length false false t 4 f1 n1 k1 f2 n2 k2 y (mQ ll).flatten L1 L2
    simp only [wr1 (show i ≤ 1000 by omega), Int.toNat_natCast, g0, g1, g2, toInt, toStr, isInt, isStr, prs_mQ, wo] at w
    have w := w _ (put_2 a.2.2)
    refine Gets.ends ?_ (nx (some a.2.2) (some y) false false t f1 n1 k1 L1 f2 n2 k2 L2 _ _ _ (h.pong a.2.2))
    first | rw [cpH_00] | rw [cpH_10] | rw [cpH_01] | rw [cpH_11] | skip
    apply w
    all_goals first | assumption | exact trivial | exact mQ_flat _ | exact ⟨_, isl⟩ | (simp; done) | (simp; omega) | omega | rfl
 by_cases a2 : a.1 = 2
 ·have _ := a2
  cases c with
  | true =>
   have w := plays_w7_6 q l.length (aQ l) ((i : Int) - 1) true e t ll.length true e t 4 f1 n1 k1 f2 n2 k2 y (mQ ll).flatten L1 L2
   simp only [wr1 (show i ≤ 1000 by omega), Int.toNat_natCast, g0, g1, g2, toInt, toStr, isInt, isStr, prs_mQ, wo] at w
   have w := w _ (put_err (.inl rfl))
   refine Gets.ends ?_ (nx none (some y) true e t f1 n1 k1 L1 f2 n2 k2 L2 _ _ _ (h))
   first | rw [cpH_00] | rw [cpH_10] | rw [cpH_01] | rw [cpH_11] | skip
   apply w
   all_goals first | assumption | exact trivial | exact mQ_flat _ | exact ⟨_, isl⟩ | (simp; done) | (simp; omega) | omega | rfl
  | false =>
   cases e with
   | true =>
    have w := plays_w7_6 q l.length (aQ l) ((i : Int) - 1) false true t ll.length false true t 4 f1 n1 k1 f2 n2 k2 y (mQ ll).flatten L1 L2
    simp only [wr1 (show i ≤ 1000 by omega), Int.toNat_natCast, g0, g1, g2, toInt, toStr, isInt, isStr, prs_mQ, wo] at w
    have w := w _ (put_err (.inr rfl))
    refine Gets.ends ?_ (nx none (some y) false true t f1 n1 k1 L1 f2 n2 k2 L2 _ _ _ (h))
    first | rw [cpH_00] | rw [cpH_10] | rw [cpH_01] | rw [cpH_11] | skip
    apply w
    all_goals first | assumption | exact trivial | exact mQ_flat _ | exact ⟨_, isl⟩ | (simp; done) | (simp; omega) | omega | rfl
   | false =>
    by_cases hn : n2 < q
    ·obtain ⟨f2', n2', k2', L2', m2, m3⟩ := mpush_in h.m (3, a.2.1, a.2.2) hn
     have mf3 := mR_flat m3
     have w := plays_w7_8 q l.length (aQ l) ((i : Int) - 1) false false t ll.length false false t 4 f1 n1 k1 f2 n2 k2 y (mQ ll).flatten L1 L2
     simp only [wr1 (show i ≤ 1000 by omega), Int.toNat_natCast, g0, g1, g2, toInt, toStr, isInt, isStr, prs_mQ, wo] at w
     have w := w _ (put_3 h a.2.1 a.2.2 hn) _ (m2)
     refine Gets.ends ?_ (nx none (some y) false false t f1 n1 k1 L1 f2' n2' k2' L2' _ _ _ (h.msg a.2.1 a.2.2 m3))
     first | rw [cpH_00] | rw [cpH_10] | rw [cpH_01] | rw [cpH_11] | skip
     apply w
     all_goals first | assumption | exact trivial | exact mQ_flat _ | exact ⟨_, isl⟩ | (simp; done) | (simp; omega) | omega | rfl
    ·have m2 := mpush_full (first := f2) (ln := k2) (L := L2) (3, a.2.1, a.2.2) (show q ≤ n2 by omega)
     have w := plays_w7_7 q l.length (aQ l) ((i : Int) - 1) false false t ll.length false false t 4 f1 n1 k1 f2 n2 k2 y (mQ ll).flatten L1 L2
     simp only [wr1 (show i ≤ 1000 by omega), Int.toNat_natCast, g0, g1, g2, toInt, toStr, isInt, isStr, prs_mQ, wo] at w
     have w := w _ (put_3f h a.2.1 a.2.2 (by omega)) _ (m2)
     refine Gets.ends ?_ (nx none (some y) false false t f1 n1 k1 L1 f2 n2 k2 L2 _ _ _ (h))
     first | rw [cpH_00] | rw [cpH_10] | rw [cpH_01] | rw [cpH_11] | skip
     apply w
     all_goals first | assumption | exact trivial | exact mQ_flat _ | exact ⟨_, isl⟩ | (simp; done) | (simp; omega) | omega | rfl
 by_cases a3 : a.1 = 3
 ·have _ := a3
  cases c with
  | true =>
   have w := plays_w7_9 q l.length (aQ l) ((i : Int) - 1) true e t ll.length true e t 4 f1 n1 k1 f2 n2 k2 y (mQ ll).flatten L1 L2
   simp only [wr1 (show i ≤ 1000 by omega), Int.toNat_natCast, g0, g1, g2, toInt, toStr, isInt, isStr, prs_mQ, wo] at w
   have w := w _ (put_err (.inl rfl))
   refine Gets.ends ?_ (nx none (some y) true e t f1 n1 k1 L1 f2 n2 k2 L2 _ _ _ (h))
   first | rw [cpH_00] | rw [cpH_10] | rw [cpH_01] | rw [cpH_11] | skip
   apply w
   all_goals first | assumption | exact trivial | exact mQ_flat _ | exact ⟨_, isl⟩ | (simp; done) | (simp; omega) | omega | rfl
  | false =>
   cases e with
   | true =>
    have w := plays_w7_9 q l.length (aQ l) ((i : Int) - 1) false true t ll.length false true t 4 f1 n1 k1 f2 n2 k2 y (mQ ll).flatten L1 L2
    simp only [wr1 (show i ≤ 1000 by omega), Int.toNat_natCast, g0, g1, g2, toInt, toStr, isInt, isStr, prs_mQ, wo] at w
    have w := w _ (put_err (.inr rfl))
    refine Gets.ends ?_ (nx none (some y) false true t f1 n1 k1 L1 f2 n2 k2 L2 _ _ _ (h))
    first | rw [cpH_00] | rw [cpH_10] | rw [cpH_01] | rw [cpH_11] | skip
    apply w
    all_goals first | assumption | exact trivial | exact mQ_flat _ | exact ⟨_, isl⟩ | (simp; done) | (simp; omega) | omega | rfl
   | false =>
    exact absurd (h.kc rfl) (by simp)
 by_cases a4 : a.1 = 4
 ·have _ := a4
  have w := plays_w7_11 q l.length (aQ l) ((i : Int) - 1) c e t ll.length c e t 4 f1 n1 k1 f2 n2 k2 y (mQ ll).flatten L1 L2
  simp only [wr1 (show i ≤ 1000 by omega), Int.toNat_natCast, g0, g1, g2, toInt, toStr, isInt, isStr, prs_mQ, wo] at w
  have w := w
  refine Gets.ends ?_ (nx none (some y) c true t f1 n1 k1 L1 f2 n2 k2 L2 _ _ _ (h))
  first | rw [cpH_00] | rw [cpH_10] | rw [cpH_01] | rw [cpH_11] | skip
  apply w
  all_goals first | assumption | exact trivial | exact mQ_flat _ | exact ⟨_, isl⟩ | (simp; done) | (simp; omega) | omega | rfl
 by_cases a5 : a.1 = 5
 ·have _ := a5
  have w := plays_w7_12 q l.length (aQ l) ((i : Int) - 1) c e t ll.length c e t 4 f1 n1 k1 f2 n2 k2 y (mQ ll).flatten L1 L2
  simp only [wr1 (show i ≤ 1000 by omega), Int.toNat_natCast, g0, g1, g2, toInt, toStr, isInt, isStr, prs_mQ, wo] at w
  have w := w
  refine Gets.ends ?_ (clr01 (by omega) c e t ll.length (mQ ll).flatten lf k1 k2 (fun f1 n1 L1 f2 n2 L2 hs hm => nx none none c true true f1 n1 k1 L1 f2 n2 k2 L2 [] [] [] (PI.nil hs hm c)) t y lr lm f1 n1 L1 f2 n2 L2 h.s h.m)
  first | rw [cpH_00] | rw [cpH_10] | rw [cpH_01] | rw [cpH_11] | skip
  apply w
  all_goals first | assumption | exact trivial | exact mQ_flat _ | exact ⟨_, isl⟩ | (simp; done) | (simp; omega) | omega | rfl
 cases lr with
 | cons z lr =>
  obtain ⟨s1, f1', n1', L1', s2, s3⟩ := spop_cons h.s
  have sf3 := sR_flat s3
  have w := plays_w7_13 q l.length (aQ l) ((i : Int) - 1) c e t ll.length c e t 4 f1 n1 k1 f2 n2 k2 y (mQ ll).flatten L1 L2
  simp only [wr1 (show i ≤ 1000 by omega), Int.toNat_natCast, g0, g1, g2, toInt, toStr, isInt, isStr, prs_mQ, wo] at w
  have w := w _ (next_r (e := e) (t := t) h) _ (s2)
  refine Gets.ends ?_ (nx none (some y) c e t f1' n1' k1 L1' f2 n2 k2 L2 _ _ _ (h.nreply s3))
  first | rw [cpH_00] | rw [cpH_10] | rw [cpH_01] | rw [cpH_11] | skip
  apply w
  all_goals first | assumption | exact trivial | exact mQ_flat _ | exact ⟨_, isl⟩ | (simp; done) | (simp; omega) | omega | rfl
 | nil =>
  obtain ⟨s1, s2⟩ := spop_nil h.s
  cases lm with
  | cons z lm =>
   obtain ⟨m1, f2', n2', L2', m2, m3⟩ := mpop_cons h.m
   have mf3 := mR_flat m3
   have w := plays_w7_14 q l.length (aQ l) ((i : Int) - 1) c e t ll.length c e t 4 f1 n1 k1 f2 n2 k2 y (mQ ll).flatten L1 L2
   simp only [wr1 (show i ≤ 1000 by omega), Int.toNat_natCast, g0, g1, g2, toInt, toStr, isInt, isStr, prs_mQ, wo] at w
   have w := w _ (next_m (e := e) (t := t) h) _ (s2) _ (m2)
   refine Gets.ends ?_ (nx none (some y) c e t f1 n1 k1 L1 f2' n2' k2 L2' _ _ _ (h.nmsg m3))
   first | rw [cpH_00] | rw [cpH_10] | rw [cpH_01] | rw [cpH_11] | skip
   apply w
   all_goals first | assumption | exact trivial | exact mQ_flat _ | exact ⟨_, isl⟩ | (simp; done) | (simp; omega) | omega | rfl
  | nil =>
   obtain ⟨m1, m2⟩ := mpop_nil h.m
   have w := plays_w7_15 q l.length (aQ l) ((i : Int) - 1) c e t ll.length c e t 4 f1 n1 k1 f2 n2 k2 y (mQ ll).flatten L1 L2
   simp only [wr1 (show i ≤ 1000 by omega), Int.toNat_natCast, g0, g1, g2, toInt, toStr, isInt, isStr, prs_mQ, wo] at w
   have w := w _ (next_c (e := e) (t := t) h) _ (s2) _ (m2)
   refine Gets.ends ?_ (nx none none c e t f1 n1 k1 L1 f2 n2 k2 L2 _ _ _ (h.nclose))
   first | rw [cpH_00] | rw [cpH_10] | rw [cpH_01] | rw [cpH_11] | skip
   apply w
   all_goals first | assumption | exact trivial | exact mQ_flat _ | exact ⟨_, isl⟩ | (simp; done) | (simp; omega) | omega | rfl
theorem plays_act11 (hq : 1 ≤ q ∧ q ≤ 64) (hl : l.length ≤ 200) (hb : ∀ a ∈ l, (0 ≤ a.1 ∧ a.1 ≤ 255) ∧ (0 ≤ a.2.1 ∧ a.2.1 ≤ 255)) {i : Nat} {a : Act} (ha : l[i]? = some a)
  (nx : ∀ (p k : Option sT) (c e t : Bool) (f1 n1 : Int) (k1 : Nat) (L1 : List Value) (f2 n2 : Int) (k2 : Nat) (L2 : List Value) (lr : List sT) (lm ll : List mT), PI q p k c f1 n1 k1 L1 f2 n2 k2 L2 lr lm ll → AEnds E2 6 0 (cpH q l p k c e t f1 n1 k1 L1 f2 n2 k2 L2 ll i) (.bool true) [])
  (x y : sT) (c e t : Bool) (f1 n1 : Int) (k1 : Nat) (L1 : List Value) (f2 n2 : Int) (k2 : Nat) (L2 : List Value) (lr : List sT) (lm ll : List mT) (h : PI q (some x) (some y) c f1 n1 k1 L1 f2 n2 k2 L2 lr lm ll) : AEnds E2 6 0 (lpH q l (some x) (some y) c e t f1 n1 k1 L1 f2 n2 k2 L2 ll i) (.bool true) [] := by
 have hi := (List.getElem?_eq_some_iff.1 ha).1
 obtain ⟨g, g0, g1, g2⟩ := aQ_get ha
 obtain ⟨b1, b2⟩ := hb a (List.mem_of_getElem? ha)
 have hlen := aQ_len l
 have isl := h.isL
 have sf := sR_flat h.s
 have mf := mR_flat h.m
 have lf := mQ_flat ll
 have sc : spushc_pre 4 f1 n1 k1 L1 a.2.2 := ⟨_, h.s⟩
 have mc : mpushc_pre q f2 n2 k2 L2 3 a.2.1 a.2.2 := ⟨_, h.m⟩
 have ss : shut11_S0 4 f1 n1 k1 L1 q f2 n2 k2 L2 c e t x y := by unfold shut11_S0; simp [sf, mf]
 have sh : shut11_t0 4 f1 n1 k1 L1 q f2 n2 k2 L2 c e t x y = (c || e) := shut_eq c e
 have wo : IntKind.i64.wrap a.2.1 = a.2.1 := wrap64_in (by omega) (by omega)
 show AEnds E2 6 0 (plays_h11 q l.length (aQ l) ((i : Int) - 2) c e t ll.length c e t 4 f1 n1 k1 f2 n2 k2 x y (mQ ll).flatten L1 L2) (.bool true) []
 by_cases a0 : a.1 = 0
 ·cases c with
  | true =>
   have w := plays_w11_0 q l.length (aQ l) ((i : Int) - 2) true e t ll.length true e t 4 f1 n1 k1 f2 n2 k2 x y (mQ ll).flatten L1 L2
   simp only [wr2 (show i ≤ 1000 by omega), wr1 (show i ≤ 1000 by omega), Int.toNat_natCast, g0, g1, g2, toInt, toStr, isInt, isStr, prs_mQ, wo] at w
   have w := w _ (put_err (.inl rfl))
   refine Gets.ends ?_ (nx (some x) (some y) true e t f1 n1 k1 L1 f2 n2 k2 L2 _ _ _ (h))
   first | rw [cpH_00] | rw [cpH_10] | rw [cpH_01] | rw [cpH_11] | skip
   apply w
   all_goals first | assumption | exact trivial | exact mQ_flat _ | exact ⟨_, isl⟩ | (simp; done) | (simp; omega) | omega | rfl
  | false =>
   cases e with
   | true =>
    have w := plays_w11_1 q l.length (aQ l) ((i : Int) - 2) false true t ll.length false true t 4 f1 n1 k1 f2 n2 k2 x y (mQ ll).flatten L1 L2
    simp only [wr2 (show i ≤ 1000 by omega), wr1 (show i ≤ 1000 by omega), Int.toNat_natCast, g0, g1, g2, toInt, toStr, isInt, isStr, prs_mQ, wo] at w
    have w := w _ (put_err (.inr rfl))
    refine Gets.ends ?_ (nx (some x) (some y) false true t f1 n1 k1 L1 f2 n2 k2 L2 _ _ _ (h))
    first | rw [cpH_00] | rw [cpH_10] | rw [cpH_01] | rw [cpH_11] | skip
    apply w
    all_goals first | assumption | exact trivial | exact mQ_flat _ | exact ⟨_, isl⟩ | (simp; done) | (simp; omega) | omega | rfl
   | false =>
    by_cases hn : n1 < 4
    ·obtain ⟨f1', n1', k1', L1', s2, s3⟩ := spush_in h.s a.2.2 hn
     have sf3 := sR_flat s3
     have w := plays_w11_3 q l.length (aQ l) ((i : Int) - 2) false false t ll.length false false t 4 f1 n1 k1 f2 n2 k2 x y (mQ ll).flatten L1 L2
     simp only [wr2 (show i ≤ 1000 by omega), wr1 (show i ≤ 1000 by omega), Int.toNat_natCast, g0, g1, g2, toInt, toStr, isInt, isStr, prs_mQ, wo] at w
     have w := w _ (put_1 h a.2.2 hn) _ (s2)
     refine Gets.ends ?_ (nx (some x) (some y) false false t f1' n1' k1' L1' f2 n2 k2 L2 _ _ _ (h.reply a.2.2 s3))
     first | rw [cpH_00] | rw [cpH_10] | rw [cpH_01] | rw [cpH_11] | skip
     apply w
     all_goals first | assumption | exact trivial | exact mQ_flat _ | exact ⟨_, isl⟩ | (simp; done) | (simp; omega) | omega | rfl
    ·have s2 := spush_full (first := f1) (ln := k1) (L := L1) a.2.2 (show (4 : Int) ≤ n1 by omega)
     have w := plays_w11_2 q l.length (aQ l) ((i : Int) - 2) false false t ll.length false false t 4 f1 n1 k1 f2 n2 k2 x y (mQ ll).flatten L1 L2
     simp only [wr2 (show i ≤ 1000 by omega), wr1 (show i ≤ 1000 by omega), Int.toNat_natCast, g0, g1, g2, toInt, toStr, isInt, isStr, prs_mQ, wo] at w
     have w := w _ (put_1f h a.2.2 (by omega)) _ (s2)
     refine Gets.ends ?_ (nx (some x) (some y) false false t f1 n1 k1 L1 f2 n2 k2 L2 _ _ _ (h))
     first | rw [cpH_00] | rw [cpH_10] | rw [cpH_01] | rw [cpH_11] | skip
     apply w
     all_goals first | assumption | exact trivial | exact mQ_flat _ | exact ⟨_, isl⟩ | (simp; done) | (simp; omega) | omega | rfl
 by_cases a1 : a.1 = 1
 ·have _ := a1
  cases c with
  | true =>
   have w := plays_w11_4 q l.length (aQ l) ((i : Int) - 2) true e t ll.length true e t 4 f1 n1 k1 f2 n2 k2 x y (mQ ll).flatten L1 L2
   simp only [wr2 (show i ≤ 1000 by omega), wr1 (show i ≤ 1000 by omega), Int.toNat_natCast, g0, g1, g2, toInt, toStr, isInt, isStr, prs_mQ, wo] at w
   have w := w _ (put_err (.inl rfl))
   refine Gets.ends ?_ (nx (some x) (some y) true e t f1 n1 k1 L1 f2 n2 k2 L2 _ _ _ (h))
   first | rw [cpH_00] | rw [cpH_10] | rw [cpH_01] | rw [cpH_11] | skip
   apply w
   all_goals first | assumption | exact trivial | exact mQ_flat _ | exact ⟨_, isl⟩ | (simp; done) | (simp; omega) | omega | rfl
  | false =>
   cases e with
   | true =>
    have w := plays_w11_4 q l.length (aQ l) ((i : Int) - 2) false true t ll.length false true t 4 f1 n1 k1 f2 n2 k2 x y (mQ ll).flatten L1 L2
    simp only [wr2 (show i ≤ 1000 by omega), wr1 (show i ≤ 1000 by omega), Int.toNat_natCast, g0, g1, g2, toInt, toStr, isInt, isStr, prs_mQ, wo] at w
    have w := w _ (put_err (.inr rfl))
    refine Gets.ends ?_ (nx (some x) (some y) false true t f1 n1 k1 L1 f2 n2 k2 L2 _ _ _ (h))
    first | rw [cpH_00] | rw [cpH_10] | rw [cpH_01] | rw [cpH_11] | skip
    apply w
    all_goals first | assumption | exact trivial | exact mQ_flat _ | exact ⟨_, isl⟩ | (simp; done) | (simp; omega) | omega | rfl
   | false =>
    have w := plays_w11_5 q l.length (aQ l) ((i : Int) - 2) false false t ll.length false false t 4 f1 n1 k1 f2 n2 k2 x y (mQ ll).flatten L1 L2
    simp only [wr2 (show i ≤ 1000 by omega), wr1 (show i ≤ 1000 by omega), Int.toNat_natCast, g0, g1, g2, toInt, toStr, isInt, isStr, prs_mQ, wo] at w
    have w := w _ (put_2 a.2.2)
    refine Gets.ends ?_ (nx (some a.2.2) (some y) false false t f1 n1 k1 L1 f2 n2 k2 L2 _ _ _ (h.pong a.2.2))
    first | rw [cpH_00] | rw [cpH_10] | rw [cpH_01] | rw [cpH_11] | skip
    apply w
    all_goals first | assumption | exact trivial | exact mQ_flat _ | exact ⟨_, isl⟩ | (simp; done) | (simp; omega) | omega | rfl
 by_cases a2 : a.1 = 2
 ·have _ := a2
  cases c with
  | true =>
   have w := plays_w11_6 q l.length (aQ l) ((i : Int) - 2) true e t ll.length true e t 4 f1 n1 k1 f2 n2 k2 x y (mQ ll).flatten L1 L2
   simp only [wr2 (show i ≤ 1000 by omega), wr1 (show i ≤ 1000 by omega), Int.toNat_natCast, g0, g1, g2, toInt, toStr, isInt, isStr, prs_mQ, wo] at w
   have w := w _ (put_err (.inl rfl))
   refine Gets.ends ?_ (nx (some x) (some y) true e t f1 n1 k1 L1 f2 n2 k2 L2 _ _ _ (h))
   first | rw [cpH_00] | rw [cpH_10] | rw [cpH_01] | rw [cpH_11] | skip
   apply w
   all_goals first | assumption | exact trivial | exact mQ_flat _ | exact ⟨_, isl⟩ | (simp; done) | (simp; omega) | omega | rfl
  | false =>
   cases e with
   | true =>
    have w := plays_w11_6 q l.length (aQ l) ((i : Int) - 2) false true t ll.length false true t 4 f1 n1 k1 f2 n2 k2 x y (mQ ll).flatten L1 L2
    simp only [wr2 (show i ≤ 1000 by omega), wr1 (show i ≤ 1000 by omega), Int.toNat_natCast, g0, g1, g2, toInt, toStr, isInt, isStr, prs_mQ, wo] at w
    have w := w _ (put_err (.inr rfl))
    refine Gets.ends ?_ (nx (some x) (some y) false true t f1 n1 k1 L1 f2 n2 k2 L2 _ _ _ (h))
    first | rw [cpH_00] | rw [cpH_10] | rw [cpH_01] | rw [cpH_11] | skip
    apply w
    all_goals first | assumption | exact trivial | exact mQ_flat _ | exact ⟨_, isl⟩ | (simp; done) | (simp; omega) | omega | rfl
   | false =>
    by_cases hn : n2 < q
    ·obtain ⟨f2', n2', k2', L2', m2, m3⟩ := mpush_in h.m (3, a.2.1, a.2.2) hn
     have mf3 := mR_flat m3
     have w := plays_w11_8 q l.length (aQ l) ((i : Int) - 2) false false t ll.length false false t 4 f1 n1 k1 f2 n2 k2 x y (mQ ll).flatten L1 L2
     simp only [wr2 (show i ≤ 1000 by omega), wr1 (show i ≤ 1000 by omega), Int.toNat_natCast, g0, g1, g2, toInt, toStr, isInt, isStr, prs_mQ, wo] at w
     have w := w _ (put_3 h a.2.1 a.2.2 hn) _ (m2)
     refine Gets.ends ?_ (nx (some x) (some y) false false t f1 n1 k1 L1 f2' n2' k2' L2' _ _ _ (h.msg a.2.1 a.2.2 m3))
     first | rw [cpH_00] | rw [cpH_10] | rw [cpH_01] | rw [cpH_11] | skip
     apply w
     all_goals first | assumption | exact trivial | exact mQ_flat _ | exact ⟨_, isl⟩ | (simp; done) | (simp; omega) | omega | rfl
    ·have m2 := mpush_full (first := f2) (ln := k2) (L := L2) (3, a.2.1, a.2.2) (show q ≤ n2 by omega)
     have w := plays_w11_7 q l.length (aQ l) ((i : Int) - 2) false false t ll.length false false t 4 f1 n1 k1 f2 n2 k2 x y (mQ ll).flatten L1 L2
     simp only [wr2 (show i ≤ 1000 by omega), wr1 (show i ≤ 1000 by omega), Int.toNat_natCast, g0, g1, g2, toInt, toStr, isInt, isStr, prs_mQ, wo] at w
     have w := w _ (put_3f h a.2.1 a.2.2 (by omega)) _ (m2)
     refine Gets.ends ?_ (nx (some x) (some y) false false t f1 n1 k1 L1 f2 n2 k2 L2 _ _ _ (h))
     first | rw [cpH_00] | rw [cpH_10] | rw [cpH_01] | rw [cpH_11] | skip
     apply w
     all_goals first | assumption | exact trivial | exact mQ_flat _ | exact ⟨_, isl⟩ | (simp; done) | (simp; omega) | omega | rfl
 by_cases a3 : a.1 = 3
 ·have _ := a3
  cases c with
  | true =>
   have w := plays_w11_9 q l.length (aQ l) ((i : Int) - 2) true e t ll.length true e t 4 f1 n1 k1 f2 n2 k2 x y (mQ ll).flatten L1 L2
   simp only [wr2 (show i ≤ 1000 by omega), wr1 (show i ≤ 1000 by omega), Int.toNat_natCast, g0, g1, g2, toInt, toStr, isInt, isStr, prs_mQ, wo] at w
   have w := w _ (put_err (.inl rfl))
   refine Gets.ends ?_ (nx (some x) (some y) true e t f1 n1 k1 L1 f2 n2 k2 L2 _ _ _ (h))
   first | rw [cpH_00] | rw [cpH_10] | rw [cpH_01] | rw [cpH_11] | skip
   apply w
   all_goals first | assumption | exact trivial | exact mQ_flat _ | exact ⟨_, isl⟩ | (simp; done) | (simp; omega) | omega | rfl
  | false =>
   cases e with
   | true =>
    have w := plays_w11_9 q l.length (aQ l) ((i : Int) - 2) false true t ll.length false true t 4 f1 n1 k1 f2 n2 k2 x y (mQ ll).flatten L1 L2
    simp only [wr2 (show i ≤ 1000 by omega), wr1 (show i ≤ 1000 by omega), Int.toNat_natCast, g0, g1, g2, toInt, toStr, isInt, isStr, prs_mQ, wo] at w
    have w := w _ (put_err (.inr rfl))
    refine Gets.ends ?_ (nx (some x) (some y) false true t f1 n1 k1 L1 f2 n2 k2 L2 _ _ _ (h))
    first | rw [cpH_00] | rw [cpH_10] | rw [cpH_01] | rw [cpH_11] | skip
    apply w
    all_goals first | assumption | exact trivial | exact mQ_flat _ | exact ⟨_, isl⟩ | (simp; done) | (simp; omega) | omega | rfl
   | false =>
    exact absurd (h.kc rfl) (by simp)
 by_cases a4 : a.1 = 4
 ·have _ := a4
  have w := plays_w11_11 q l.length (aQ l) ((i : Int) - 2) c e t ll.length c e t 4 f1 n1 k1 f2 n2 k2 x y (mQ ll).flatten L1 L2
  simp only [wr2 (show i ≤ 1000 by omega), wr1 (show i ≤ 1000 by omega), Int.toNat_natCast, g0, g1, g2, toInt, toStr, isInt, isStr, prs_mQ, wo] at w
  have w := w
  refine Gets.ends ?_ (nx (some x) (some y) c true t f1 n1 k1 L1 f2 n2 k2 L2 _ _ _ (h))
  first | rw [cpH_00] | rw [cpH_10] | rw [cpH_01] | rw [cpH_11] | skip
  apply w
  all_goals first | assumption | exact trivial | exact mQ_flat _ | exact ⟨_, isl⟩ | (simp; done) | (simp; omega) | omega | rfl
 by_cases a5 : a.1 = 5
 ·have _ := a5
  have w := plays_w11_12 q l.length (aQ l) ((i : Int) - 2) c e t ll.length c e t 4 f1 n1 k1 f2 n2 k2 x y (mQ ll).flatten L1 L2
  simp only [wr2 (show i ≤ 1000 by omega), wr1 (show i ≤ 1000 by omega), Int.toNat_natCast, g0, g1, g2, toInt, toStr, isInt, isStr, prs_mQ, wo] at w
  have w := w
  refine Gets.ends ?_ (clr11 (by omega) c e t ll.length (mQ ll).flatten lf k1 k2 (fun f1 n1 L1 f2 n2 L2 hs hm => nx none none c true true f1 n1 k1 L1 f2 n2 k2 L2 [] [] [] (PI.nil hs hm c)) t x y lr lm f1 n1 L1 f2 n2 L2 h.s h.m)
  first | rw [cpH_00] | rw [cpH_10] | rw [cpH_01] | rw [cpH_11] | skip
  apply w
  all_goals first | assumption | exact trivial | exact mQ_flat _ | exact ⟨_, isl⟩ | (simp; done) | (simp; omega) | omega | rfl
 cases lr with
 | cons z lr =>
  obtain ⟨s1, f1', n1', L1', s2, s3⟩ := spop_cons h.s
  have sf3 := sR_flat s3
  have w := plays_w11_13 q l.length (aQ l) ((i : Int) - 2) c e t ll.length c e t 4 f1 n1 k1 f2 n2 k2 x y (mQ ll).flatten L1 L2
  simp only [wr2 (show i ≤ 1000 by omega), wr1 (show i ≤ 1000 by omega), Int.toNat_natCast, g0, g1, g2, toInt, toStr, isInt, isStr, prs_mQ, wo] at w
  have w := w _ (next_r (e := e) (t := t) h) _ (s2)
  refine Gets.ends ?_ (nx (some x) (some y) c e t f1' n1' k1 L1' f2 n2 k2 L2 _ _ _ (h.nreply s3))
  first | rw [cpH_00] | rw [cpH_10] | rw [cpH_01] | rw [cpH_11] | skip
  apply w
  all_goals first | assumption | exact trivial | exact mQ_flat _ | exact ⟨_, isl⟩ | (simp; done) | (simp; omega) | omega | rfl
 | nil =>
  obtain ⟨s1, s2⟩ := spop_nil h.s
  have w := plays_w11_14 q l.length (aQ l) ((i : Int) - 2) c e t ll.length c e t 4 f1 n1 k1 f2 n2 k2 x y (mQ ll).flatten L1 L2
  simp only [wr2 (show i ≤ 1000 by omega), wr1 (show i ≤ 1000 by omega), Int.toNat_natCast, g0, g1, g2, toInt, toStr, isInt, isStr, prs_mQ, wo] at w
  have w := w _ (next_p (e := e) (t := t) h) _ (s2)
  refine Gets.ends ?_ (nx none (some y) c e t f1 n1 k1 L1 f2 n2 k2 L2 _ _ _ (h.npong))
  first | rw [cpH_00] | rw [cpH_10] | rw [cpH_01] | rw [cpH_11] | skip
  apply w
  all_goals first | assumption | exact trivial | exact mQ_flat _ | exact ⟨_, isl⟩ | (simp; done) | (simp; omega) | omega | rfl
theorem plays_run (hq : 1 ≤ q ∧ q ≤ 64) (hl : l.length ≤ 200) (hb : ∀ a ∈ l, (0 ≤ a.1 ∧ a.1 ≤ 255) ∧ (0 ≤ a.2.1 ∧ a.2.1 ≤ 255)) : ∀ (m i : Nat), i + m = l.length → ∀ (p k : Option sT) (c e t : Bool) (f1 n1 : Int) (k1 : Nat) (L1 : List Value) (f2 n2 : Int) (k2 : Nat) (L2 : List Value) (lr : List sT) (lm ll : List mT), PI q p k c f1 n1 k1 L1 f2 n2 k2 L2 lr lm ll →
  AEnds E2 6 0 (lpH q l p k c e t f1 n1 k1 L1 f2 n2 k2 L2 ll i) (.bool true) []
 | 0, i, hi, none, none, c, e, t, f1, n1, k1, L1, f2, n2, k2, L2, lr, lm, ll, h => by
  have w := plays_w1_18 q l.length (aQ l) c e t ll.length c e t 4 f1 n1 k1 f2 n2 k2 (mQ ll).flatten L1 L2 (i : Int)
  exact w trivial (decide_eq_false (by omega))
 | 0, i, hi, some x, none, c, e, t, f1, n1, k1, L1, f2, n2, k2, L2, lr, lm, ll, h => by
  have w := plays_w6_15 q l.length (aQ l) ((i : Int) - 1) c e t ll.length c e t 4 f1 n1 k1 f2 n2 k2 x (mQ ll).flatten L1 L2
  rw [wr1 (by omega)] at w
  exact w trivial (decide_eq_false (by omega))
 | 0, i, hi, none, some y, c, e, t, f1, n1, k1, L1, f2, n2, k2, L2, lr, lm, ll, h => by
  have w := plays_w7_16 q l.length (aQ l) ((i : Int) - 1) c e t ll.length c e t 4 f1 n1 k1 f2 n2 k2 y (mQ ll).flatten L1 L2
  rw [wr1 (by omega)] at w
  exact w trivial (decide_eq_false (by omega))
 | 0, i, hi, some x, some y, c, e, t, f1, n1, k1, L1, f2, n2, k2, L2, lr, lm, ll, h => by
  have w := plays_w11_15 q l.length (aQ l) ((i : Int) - 2) c e t ll.length c e t 4 f1 n1 k1 f2 n2 k2 x y (mQ ll).flatten L1 L2
  rw [wr2 (by omega), wr1 (by omega)] at w
  exact w trivial (decide_eq_false (by omega))
 | m + 1, i, hi, p, k, c, e, t, f1, n1, k1, L1, f2, n2, k2, L2, lr, lm, ll, h => by
  obtain ⟨a, ha⟩ : ∃ a, l[i]? = some a := ⟨_, List.getElem?_eq_getElem (by omega)⟩
  have nx : ∀ (p k : Option sT) (c e t : Bool) (f1 n1 : Int) (k1 : Nat) (L1 : List Value) (f2 n2 : Int) (k2 : Nat) (L2 : List Value) (lr : List sT) (lm ll : List mT), PI q p k c f1 n1 k1 L1 f2 n2 k2 L2 lr lm ll → AEnds E2 6 0 (cpH q l p k c e t f1 n1 k1 L1 f2 n2 k2 L2 ll i) (.bool true) [] :=
   fun p k c e t f1 n1 k1 L1 f2 n2 k2 L2 lr lm ll h => plays_cmp (by omega) p k c e t f1 n1 k1 L1 f2 n2 k2 L2 lr lm ll h (plays_run hq hl hb m (i + 1) (by omega) p k c e t f1 n1 k1 L1 f2 n2 k2 L2 lr lm ll h)
  cases p with
  | none => cases k with
   | none => exact plays_act00 hq hl hb ha nx c e t f1 n1 k1 L1 f2 n2 k2 L2 lr lm ll h
   | some y => exact plays_act01 hq hl hb ha nx y c e t f1 n1 k1 L1 f2 n2 k2 L2 lr lm ll h
  | some x => cases k with
   | none => exact plays_act10 hq hl hb ha nx x c e t f1 n1 k1 L1 f2 n2 k2 L2 lr lm ll h
   | some y => exact plays_act11 hq hl hb ha nx x y c e t f1 n1 k1 L1 f2 n2 k2 L2 lr lm ll h
theorem plays_all (hb : ∀ a ∈ l, (0 ≤ a.1 ∧ a.1 ≤ 255) ∧ (0 ≤ a.2.1 ∧ a.2.1 ≤ 255)) : AEnds E2 6 0 (startC E2 6 [.int .i64 q, .iface l.length (.agg (aQ l).toArray)] []) (.bool true) [] := by
 have hp : great_pre l.length (aQ l) := ⟨l, rfl, rfl⟩
 cases hg : greatB l.length (aQ l) with
 | true => exact plays_w0_0 q l.length (aQ l) trivial hg hp
 | false =>
  have hl := (greatB_false hg).1
  by_cases h1 : q < 1
  ·exact plays_w0_1 q l.length (aQ l) trivial (decide_eq_true h1) hg hp
  ·by_cases h2 : 64 < q
   ·exact plays_w0_2 q l.length (aQ l) trivial (decide_eq_true h2) (decide_eq_false h1) hg hp
   ·exact (plays_w0_3 q l.length (aQ l) (decide_eq_false h2) (decide_eq_false h1) (decide_eq_false (by omega)) hg hp).ends (plays_run (by omega) hl hb l.length 0 (Nat.zero_add _) none none false false false 0 0 0 [] 0 0 0 [] [] [] [] (PI.nil (sR_nil (by omega) (by omega)) (mR_nil (by omega) (by omega)) false))
end
end Go.Proofs.Yticpjnmoiepafaa
