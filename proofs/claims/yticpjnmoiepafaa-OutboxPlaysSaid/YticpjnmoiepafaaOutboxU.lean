/-
  The reference's box: Next as a contract.
-/
import Derived.Test.YticpjnmoiepafaaOutboxT
import Derived.Test.YticpjnmoiepafaaAmMove
import Derived.Test.YticpjnmoiepafaaAmSlim
set_option linter.unusedVariables false
set_option linter.unusedSimpArgs false
open Go Go.Am
namespace Go.Proofs.Yticpjnmoiepafaa

def kIx (k : Int) (l : List mT) : Option Nat := l.findIdx? (fun y => y.1 == k)
def firstIx (l : List mT) : Option Nat := (kIx 1 l).or ((kIx 2 l).or ((kIx 3 l).or (kIx 4 l)))
def nextF (e t : Bool) (l : List mT) : mT × Bool × List mT × Bool :=
 match firstIx l with
 | some i => (l.getD i (0, 0, ⟨#[]⟩), true, l.eraseIdx i, t)
 | none => bif e && !t then ((5, 0, ⟨#[]⟩), true, l, true) else ((0, 0, ⟨#[]⟩), false, l, t)
def itV (x : mT) (b : Bool) : Value := .tuple #[.agg #[.int .i64 x.1, .int .i64 x.2.1, .string x.2.2], .bool b]
def nxH (mq : Int) (c e t : Bool) (l : List mT) : Heap := [some (.cells [.int .i64 mq, .slice (some ⟨1, 0, none⟩) l.length 0, .bool c, .bool e, .bool t] 45 none), some (.cells (mQ l).flatten 64 (some 3))]

theorem next_fin {args : List Value} {H : Heap} {v : mT} {b : Bool} {mq : Int} {n' : Nat} {c e t : Bool} {L' : List Value} (h : AEnds E2 38 1 (startC E2 38 args H) (.tuple #[.agg #[.int .i64 v.1, .int .i64 v.2.1, .string v.2.2], .bool b]) [some (.cells [.int .i64 mq, .slice (some ⟨1, 0, none⟩) n' 0, .bool c, .bool e, .bool t] 45 none), some (.cells L' 64 (some 3))])
  (hs : canStart E2 38 args = true) (hH : H.length = 2) (hf : L'.all flat = true) : CallOk E2 38 args H (.tuple #[.agg #[.int .i64 v.1, .int .i64 v.2.1, .string v.2.2], .bool b]) [some (.cells [.int .i64 mq, .slice (some ⟨2, 0, none⟩) n' 0, .bool c, .bool e, .bool t] 45 none), none, some (.cells L' 64 (some 3))] :=
 callOk_mov (ok := [L'.all flat]) h (by rw [hH]; kernel_rfl) (by simp [AllT, hf]) hs (by rw [hH]; exact Nat.le_of_ble_eq_true (by kernel_rfl)) (Nat.le_of_ble_eq_true (by kernel_rfl))

section
variable (l : List mT) (hm : l.length ≤ 100000) (mq : Int) (c e t : Bool)
include hm
theorem nx_found (k : Int) (j : Nat) (y : mT) (hj : l[j]? = some y) (hy : y.1 = k) (hb : ∀ i z, i < j → l[i]? = some z → z.1 ≠ k) (a b : Int) (s : ByteArray) : ∀ m i, i + m = j →
  AEnds E2 38 1 (rnext_h2 mq l.length (mQ l).flatten c e t k l.length a b s i) (itV y true) (nxH mq c e t (l.eraseIdx j))
 | 0, i, hi => by
  obtain rfl : i = j := by omega
  have h : IsL l.length (mQ l).flatten l := ⟨rfl, rfl, hm⟩
  have hlen := h.len
  have hlt := (List.getElem?_eq_some_iff.1 hj).1
  obtain ⟨g0, g1, g2⟩ := h.get hj
  have w := rnext_w2_0 mq l.length (mQ l).flatten c e t k l.length a b s i (l.length, (mQ l).flatten, ((i : Nat) : Int)) rfl
  simp only [Int.toNat_natCast, prs_mQ] at w
  rw [g0, g1, g2] at w
  exact w (mQ_flat _) (mQ_flat _) ⟨l, i, h, rfl, hlt⟩ (by omega) rfl rfl rfl (by omega) (by omega) (by simp [toInt, hy]) (by omega) (decide_eq_true (by omega))
 | m + 1, i, hi => by
  have h : IsL l.length (mQ l).flatten l := ⟨rfl, rfl, hm⟩
  have hlen := h.len
  have hlt := (List.getElem?_eq_some_iff.1 hj).1
  obtain ⟨z, hz⟩ : ∃ z, l[i]? = some z := ⟨l[i]'(by omega), List.getElem?_eq_getElem (by omega)⟩
  have hne := hb i z (by omega) hz
  obtain ⟨g0, g1, g2⟩ := h.get hz
  have w := rnext_w2_1 mq l.length (mQ l).flatten c e t k l.length a b s i
  rw [Int.toNat_natCast, g0, show IntKind.i64.wrap ((i : Int) + 1) = ((i + 1 : Nat) : Int) by rw [wrap64_in (by omega) (by omega)]; omega] at w
  exact (w (mQ_flat _) (by simp [toInt, hne]) (by omega) rfl (by omega) (by omega) (decide_eq_true (by omega))).ends (nx_found k j y hj hy hb a b s m (i + 1) (by omega))
theorem nx_none (k : Int) (hk : 1 ≤ k ∧ k ≤ 4) (hb : ∀ z ∈ l, z.1 ≠ k) (a b : Int) (s : ByteArray) {v : Value} {H' : Heap} (hn : AEnds E2 38 1 (rnext_h1 mq l.length (mQ l).flatten c e t l.length a b s (k + 1)) v H') : ∀ m i, i + m = l.length →
  AEnds E2 38 1 (rnext_h2 mq l.length (mQ l).flatten c e t k l.length a b s i) v H'
 | 0, i, hi => by
  have w := rnext_w2_2 mq l.length (mQ l).flatten c e t k l.length a b s i (mQ_flat _) (decide_eq_false (by omega))
  rw [wrap64_in (by omega) (by omega)] at w
  exact w.ends hn
 | m + 1, i, hi => by
  have h : IsL l.length (mQ l).flatten l := ⟨rfl, rfl, hm⟩
  have hlen := h.len
  obtain ⟨z, hz⟩ : ∃ z, l[i]? = some z := ⟨l[i]'(by omega), List.getElem?_eq_getElem (by omega)⟩
  have hne := hb z (List.mem_of_getElem? hz)
  obtain ⟨g0, g1, g2⟩ := h.get hz
  have w := rnext_w2_1 mq l.length (mQ l).flatten c e t k l.length a b s i
  rw [Int.toNat_natCast, g0, show IntKind.i64.wrap ((i : Int) + 1) = ((i + 1 : Nat) : Int) by rw [wrap64_in (by omega) (by omega)]; omega] at w
  exact (w (mQ_flat _) (by simp [toInt, hne]) (by omega) rfl (by omega) (by omega) (decide_eq_true (by omega))).ends (nx_none k hk hb a b s hn m (i + 1) (by omega))
theorem nx_step (k : Int) (hk : 1 ≤ k ∧ k ≤ 4) (a b : Int) (s : ByteArray) {v : Value} {H' : Heap} (hs : ∀ i, kIx k l = some i → v = itV (l.getD i (0, 0, ⟨#[]⟩)) true ∧ H' = nxH mq c e t (l.eraseIdx i))
  (hn : kIx k l = none → AEnds E2 38 1 (rnext_h1 mq l.length (mQ l).flatten c e t l.length a b s (k + 1)) v H') : AEnds E2 38 1 (rnext_h1 mq l.length (mQ l).flatten c e t l.length a b s k) v H' := by
 refine (rnext_w1_0 mq l.length (mQ l).flatten c e t l.length a b s k (mQ_flat _) (decide_eq_true hk.2)).ends ?_
 cases hx : kIx k l with
 | none =>
  have hb := List.findIdx?_eq_none_iff.1 hx
  exact nx_none l hm mq c e t k hk (fun z hz => by simpa using hb z hz) a b s (hn hx) l.length 0 (Nat.zero_add _)
 | some j =>
  obtain ⟨rfl, rfl⟩ := hs j hx
  obtain ⟨hlt, h1, h2⟩ := List.findIdx?_eq_some_iff_getElem.1 hx
  have hj : l[j]? = some l[j] := List.getElem?_eq_getElem hlt
  rw [show l.getD j (0, 0, ⟨#[]⟩) = l[j] by rw [List.getD_eq_getElem?_getD, hj]; rfl]
  refine nx_found l hm mq c e t k j l[j] hj (by simpa using h1) (fun i z hi hz => ?_) a b s j 0 (Nat.zero_add _)
  have := h2 i hi
  have hz' : l[i]'(by omega) = z := by
   have := (List.getElem?_eq_some_iff.1 hz).2
   exact this
  rw [hz'] at this
  simpa using this
end
theorem next_all (l : List mT) (hm : l.length ≤ 100000) (mq : Int) (c e t : Bool) : CallOk E2 38 [.pointer (some ⟨0, 0, none⟩)] [some (.cells [.int .i64 mq, .slice (some ⟨1, 0, none⟩) l.length 0, .bool c, .bool e, .bool t] 45 none), some (.cells (mQ l).flatten 64 (some 3))]
  (itV (nextF e t l).1 (nextF e t l).2.1) [some (.cells [.int .i64 mq, .slice (some ⟨2, 0, none⟩) (nextF e t l).2.2.1.length 0, .bool c, .bool e, .bool (nextF e t l).2.2.2] 45 none), none, some (.cells (mQ (nextF e t l).2.2.1).flatten 64 (some 3))] := by
 refine next_fin ?_ (by kernel_rfl) rfl (mQ_flat _)
 refine (rnext_w0_0 mq l.length (mQ l).flatten c e t (mQ_flat _)).ends ?_
 refine nx_step l hm mq c e t 1 (by omega) 0 0 _ (fun i hi => ?_) fun n1 => nx_step l hm mq c e t 2 (by omega) 0 0 _ (fun i hi => ?_) fun n2 => nx_step l hm mq c e t 3 (by omega) 0 0 _ (fun i hi => ?_) fun n3 => nx_step l hm mq c e t 4 (by omega) 0 0 _ (fun i hi => ?_) fun n4 => ?_
 ·have : firstIx l = some i := by unfold firstIx; rw [hi]; rfl
  unfold nextF; rw [this]; exact ⟨rfl, rfl⟩
 ·have : firstIx l = some i := by unfold firstIx; rw [n1, hi]; rfl
  unfold nextF; rw [this]; exact ⟨rfl, rfl⟩
 ·have : firstIx l = some i := by unfold firstIx; rw [n1, n2, hi]; rfl
  unfold nextF; rw [this]; exact ⟨rfl, rfl⟩
 ·have : firstIx l = some i := by unfold firstIx; rw [n1, n2, n3, hi]; rfl
  unfold nextF; rw [this]; exact ⟨rfl, rfl⟩
 ·have : firstIx l = none := by unfold firstIx; rw [n1, n2, n3, n4]; rfl
  unfold nextF
  rw [this]
  cases e with
  | false => exact rnext_w1_3 mq l.length (mQ l).flatten c false t l.length 0 0 _ (4 + 1) (mQ_flat _) rfl rfl
  | true =>
   cases t with
   | false => exact rnext_w1_1 mq l.length (mQ l).flatten c true false l.length 0 0 _ (4 + 1) (mQ_flat _) rfl rfl rfl
   | true => exact rnext_w1_2 mq l.length (mQ l).flatten c true true l.length 0 0 _ (4 + 1) (mQ_flat _) rfl rfl rfl

def rnextc_pre (mq : Int) (n : Nat) (L : List Value) (c e t : Bool) : Prop := ∃ l, IsL n L l
def rnextc_v (mq : Int) (n : Nat) (L : List Value) (c e t : Bool) : Value := .tuple #[.agg #[.int .i64 (nextF e t (prs n L)).1.1, .int .i64 (nextF e t (prs n L)).1.2.1, .string (nextF e t (prs n L)).1.2.2], .bool (nextF e t (prs n L)).2.1]
def rnextc_h (mq : Int) (n : Nat) (L : List Value) (c e t : Bool) : Heap := [some (.cells [.int .i64 mq, .slice (some ⟨2, 0, none⟩) (nextF e t (prs n L)).2.2.1.length 0, .bool c, .bool e, .bool (nextF e t (prs n L)).2.2.2] 45 none), none, some (.cells (mQ (nextF e t (prs n L)).2.2.1).flatten 64 (some 3))]
theorem rnextc_call (mq : Int) (n : Nat) (L : List Value) (c e t : Bool) (h : rnextc_pre mq n L c e t) :
  CallOk E2 38 [.pointer (some ⟨0, 0, none⟩)] [some (.cells [.int .i64 mq, .slice (some ⟨1, 0, none⟩) n 0, .bool c, .bool e, .bool t] 45 none), some (.cells L 64 (some 3))] (rnextc_v mq n L c e t) (rnextc_h mq n L c e t) := by
 obtain ⟨l, rfl, rfl, hm⟩ := h
 unfold rnextc_v rnextc_h
 rw [prs_mQ]
 exact next_all l hm mq c e t

def rnextc_ex (a : List Value) (h : Heap) : Int × Nat × List Value × Bool × Bool × Bool := ((toInt ((cellsOf h 0).getD 0 undef)), (sliceLen ((cellsOf h 0).getD 1 undef)), (cellsOf h 1), (toBool ((cellsOf h 0).getD 2 undef)), (toBool ((cellsOf h 0).getD 3 undef)), (toBool ((cellsOf h 0).getD 4 undef)))
noncomputable def rnextc_k : Ct := kS rnextc_ex [.ptr 0 0] [.cells [.int .i64, .sl 1 (some 0) (some 0), .bool, .bool, .bool] 45 none, .any 64 (some 3)] (fun x => rnextc_pre (x.1) (x.2.1) (x.2.2.1) (x.2.2.2.1) (x.2.2.2.2.1) (x.2.2.2.2.2)) (fun x => rnextc_v (x.1) (x.2.1) (x.2.2.1) (x.2.2.2.1) (x.2.2.2.2.1) (x.2.2.2.2.2)) (fun x => rnextc_h (x.1) (x.2.1) (x.2.2.1) (x.2.2.2.1) (x.2.2.2.2.1) (x.2.2.2.2.2))
theorem rnextc_k_ok : KFor E2 38 rnextc_k := kS_ok (fun x hx => rnextc_call (x.1) (x.2.1) (x.2.2.1) (x.2.2.2.1) (x.2.2.2.2.1) (x.2.2.2.2.2) hx) (fun _ _ => rfl) (fun _ _ => rfl)


end Go.Proofs.Yticpjnmoiepafaa
