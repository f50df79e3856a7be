/-
  The statement OutboxOnce: what the box and the statement's own rows have in common. Plain.
-/
import Derived.Test.YticpjnmoiepafaaOutboxX
import Derived.Test.YticpjnmoiepafaaOutboxI
import Derived.Test.YticpjnmoiepafaaOutboxU
import Derived.Test.YticpjnmoiepafaaOutboxN
set_option linter.unusedVariables false
set_option linter.unusedSimpArgs false
open Go Go.Am
namespace Go.Proofs.Yticpjnmoiepafaa

def oI (x : sT) : mT := (1, 0, x)
def RowAt (L : List Value) (o n : Nat) (es : List mT) : Prop := ∃ pre : List Value, L = pre ++ (mQ es).flatten ∧ pre.length = o ∧ n = es.length ∧ pre.all flat = true
theorem mQ_flat' (es : List mT) : (mQ es).flatten.all flat = true := all_flat (P := mE) (fun e ⟨x, h⟩ => by rw [h]; rfl) (fun e he => by
 obtain ⟨x, _, rfl⟩ := List.mem_map.1 he
 exact ⟨x, rfl⟩)
theorem mQ_w (es : List mT) : ∀ e ∈ mQ es, e.length = 3 := fun e he => by
 obtain ⟨x, _, rfl⟩ := List.mem_map.1 he
 rfl
theorem mQ_fl3 (es : List mT) : (mQ es).flatten.length = es.length * 3 := by rw [flat_len (mQ_w es)]; simp [mQ]
section
variable {L : List Value} {o n : Nat} {es : List mT}
theorem row_nil : RowAt [] 0 0 [] := ⟨[], rfl, rfl, rfl, rfl⟩
theorem RowAt.flat (h : RowAt L o n es) : L.all Go.Am.flat = true := by
 obtain ⟨pre, rfl, h1, h2, h3⟩ := h
 rw [List.all_append, h3, mQ_flat']; rfl
theorem RowAt.num (h : RowAt L o n es) : n = es.length := h.choose_spec.2.2.1
theorem RowAt.len (h : RowAt L o n es) : L.length = o + n * 3 := by
 obtain ⟨pre, rfl, h1, h2, h3⟩ := h
 rw [List.length_append, mQ_fl3, h1, h2]
theorem RowAt.push (h : RowAt L o n es) (x : mT) : RowAt (List.take (n * 3) (List.drop o L) ++ mC x) 0 (n + 1) (es ++ [x]) := by
 obtain ⟨pre, rfl, h1, h2, h3⟩ := h
 refine ⟨[], ?_, rfl, by rw [List.length_append, ← h2]; rfl, rfl⟩
 rw [← h1, List.drop_left, List.take_of_length_le (by rw [mQ_fl3, h2]; omega), List.nil_append]
 simp [mQ]
theorem RowAt.pop {x : mT} (h : RowAt L o n (x :: es)) : RowAt L (o + 3) (n - 1) es := by
 obtain ⟨pre, rfl, h1, h2, h3⟩ := h
 refine ⟨pre ++ mC x, ?_, by rw [List.length_append, h1]; rfl, by rw [h2]; rfl, by rw [List.all_append, h3]; rfl⟩
 simp [mQ]
theorem RowAt.get {x : mT} (h : RowAt L o n (x :: es)) : L.getD (o + 0 + 0) undef = .int .i64 x.1 ∧ L.getD (o + 0 + 1) undef = .int .i64 x.2.1 ∧ L.getD (o + 0 + 2) undef = .string x.2.2 := by
 obtain ⟨pre, rfl, h1, h2, h3⟩ := h
 have g : ∀ k, (pre ++ (mQ (x :: es)).flatten).getD (o + 0 + k) undef = (mC x ++ (mQ es).flatten).getD k undef := fun k => by
  rw [List.getD_eq_getElem?_getD, List.getElem?_append_right (by omega), show o + 0 + k - pre.length = k by omega, List.getD_eq_getElem?_getD]
  rfl
 exact ⟨g 0, g 1, g 2⟩
end
structure OI (q : Int) (p k : Option sT) (c e t : Bool) (last : Int) (has : Bool) (P : sT) (f1 n1 : Int) (k1 : Nat) (L1 : List Value) (f2 n2 : Int) (k2 : Nat) (L2 : List Value) (R : List Value) (o1 c1 : Nat) (M : List Value) (o2 c2 : Nat) (lr : List sT) (lm : List mT) : Prop where
 s : sR 4 f1 n1 k1 L1 lr
 m : mR q f2 n2 k2 L2 lm
 kc : k.isSome = true → c = true
 hp : has = p.isSome
 hP : ∀ x, p = some x → P = x
 r : RowAt R o1 c1 (lr.map oI)
 w : RowAt M o2 c2 lm
 m3 : ∀ x ∈ lm, x.1 = 3
 l4 : last = 4 → c = true ∧ lr = [] ∧ lm = [] ∧ p = none ∧ k = none
 l5 : last = 5 → (e = true ∧ t = true) ∧ lr = [] ∧ lm = [] ∧ p = none ∧ k = none
def oN (p k : Option sT) (e t : Bool) (lr : List sT) (lm : List mT) : Nat := lr.length + p.toList.length + lm.length + k.toList.length + (bif e && !t then 1 else 0)
section
variable {q : Int} {p k : Option sT} {c e t : Bool} {last : Int} {has : Bool} {P : sT} {f1 n1 : Int} {k1 : Nat} {L1 : List Value} {f2 n2 : Int} {k2 : Nat} {L2 : List Value} {R : List Value} {o1 c1 : Nat} {M : List Value} {o2 c2 : Nat} {lr : List sT} {lm : List mT}
theorem OI.e1 (h : OI q p k c e t last has P f1 n1 k1 L1 f2 n2 k2 L2 R o1 c1 M o2 c2 lr lm) : (c1 : Int) = n1 ∧ n1 ≤ 4 ∧ (c1 : Int) ≤ 4 := by
 obtain ⟨a1, a2, a4, a5, a6, a7⟩ := sR_n h.s
 have := h.r.num
 rw [List.length_map] at this
 omega
theorem OI.e2 (h : OI q p k c e t last has P f1 n1 k1 L1 f2 n2 k2 L2 R o1 c1 M o2 c2 lr lm) : (c2 : Int) = n2 ∧ n2 ≤ q ∧ (c2 : Int) ≤ q ∧ q ≤ 65536 := by
 obtain ⟨a1, a2, a4, a5, a6, a7⟩ := mR_n h.m
 have := h.w.num
 omega
theorem OI.reply (h : OI q p k false false t last has P f1 n1 k1 L1 f2 n2 k2 L2 R o1 c1 M o2 c2 lr lm) (x : sT) {f1' n1' : Int} {k1' : Nat} {L1' : List Value} (hs : sR 4 f1' n1' k1' L1' (lr ++ [x])) : OI q p k false false t last has P f1' n1' k1' L1' f2 n2 k2 L2 (List.take (c1 * 3) (List.drop o1 R) ++ [Value.int .i64 1, .int .i64 0, .string x]) 0 (c1 + 1) M o2 c2 (lr ++ [x]) lm := by
 refine ⟨hs, h.m, h.kc, h.hp, h.hP, ?_, h.w, h.m3, fun hl => ?_, fun hl => ?_⟩
 ·rw [List.map_append]; exact h.r.push (oI x)
 ·have := (h.l4 hl).1; cases this
 ·have := (h.l5 hl).1.1; cases this
theorem OI.msg (h : OI q p k false false t last has P f1 n1 k1 L1 f2 n2 k2 L2 R o1 c1 M o2 c2 lr lm) (o : Int) (x : sT) {f2' n2' : Int} {k2' : Nat} {L2' : List Value} (hs : mR q f2' n2' k2' L2' (lm ++ [(3, o, x)])) : OI q p k false false t last has P f1 n1 k1 L1 f2' n2' k2' L2' R o1 c1 (List.take (c2 * 3) (List.drop o2 M) ++ [Value.int .i64 3, .int .i64 o, .string x]) 0 (c2 + 1) lr (lm ++ [(3, o, x)]) := by
 refine ⟨h.s, hs, h.kc, h.hp, h.hP, h.r, h.w.push (3, o, x), fun y hy => ?_, fun hl => ?_, fun hl => ?_⟩
 ·rcases List.mem_append.1 hy with hy | hy
  ·exact h.m3 y hy
  ·rw [List.mem_singleton.1 hy]
 ·have := (h.l4 hl).1; cases this
 ·have := (h.l5 hl).1.1; cases this
theorem OI.pong (h : OI q p k false false t last has P f1 n1 k1 L1 f2 n2 k2 L2 R o1 c1 M o2 c2 lr lm) (x : sT) : OI q (some x) k false false t last true x f1 n1 k1 L1 f2 n2 k2 L2 R o1 c1 M o2 c2 lr lm := by
 refine ⟨h.s, h.m, h.kc, rfl, fun y hy => by cases hy; rfl, h.r, h.w, h.m3, fun hl => ?_, fun hl => ?_⟩
 ·have := (h.l4 hl).1; cases this
 ·have := (h.l5 hl).1.1; cases this
theorem OI.close (h : OI q p none false false t last has P f1 n1 k1 L1 f2 n2 k2 L2 R o1 c1 M o2 c2 lr lm) (x : sT) : OI q p (some x) true false t last has P f1 n1 k1 L1 f2 n2 k2 L2 R o1 c1 M o2 c2 lr lm := by
 refine ⟨h.s, h.m, fun _ => rfl, h.hp, h.hP, h.r, h.w, h.m3, fun hl => ?_, fun hl => ?_⟩
 ·have := (h.l4 hl).1; cases this
 ·have := (h.l5 hl).1.1; cases this
theorem OI.endd (h : OI q p k c e t last has P f1 n1 k1 L1 f2 n2 k2 L2 R o1 c1 M o2 c2 lr lm) : OI q p k c true t last has P f1 n1 k1 L1 f2 n2 k2 L2 R o1 c1 M o2 c2 lr lm :=
 ⟨h.s, h.m, h.kc, h.hp, h.hP, h.r, h.w, h.m3, h.l4, fun hl => ⟨⟨rfl, (h.l5 hl).1.2⟩, (h.l5 hl).2⟩⟩
theorem OI.nreply {x : sT} (h : OI q p k c e t last has P f1 n1 k1 L1 f2 n2 k2 L2 R o1 c1 M o2 c2 (x :: lr) lm) {f1' n1' : Int} {L1' : List Value} (hs : sR 4 f1' n1' k1 L1' lr) : OI q p k c e t 1 has P f1' n1' k1 L1' f2 n2 k2 L2 R (o1 + 3) (c1 - 1) M o2 c2 lr lm :=
 ⟨hs, h.m, h.kc, h.hp, h.hP, h.r.pop, h.w, h.m3, (fun hl => by omega), (fun hl => by omega)⟩
theorem OI.npong {x : sT} (h : OI q (some x) k c e t last has P f1 n1 k1 L1 f2 n2 k2 L2 R o1 c1 M o2 c2 [] lm) : OI q none k c e t 2 false P f1 n1 k1 L1 f2 n2 k2 L2 R o1 c1 M o2 c2 [] lm :=
 ⟨h.s, h.m, h.kc, rfl, (fun _ hl => by cases hl), h.r, h.w, h.m3, (fun hl => by omega), (fun hl => by omega)⟩
theorem OI.nmsg {x : mT} (h : OI q none k c e t last has P f1 n1 k1 L1 f2 n2 k2 L2 R o1 c1 M o2 c2 [] (x :: lm)) {f2' n2' : Int} {L2' : List Value} (hs : mR q f2' n2' k2 L2' lm) : OI q none k c e t x.1 has P f1 n1 k1 L1 f2' n2' k2 L2' R o1 c1 M (o2 + 3) (c2 - 1) [] lm := by
 have h3 := h.m3 x List.mem_cons_self
 exact ⟨h.s, hs, h.kc, h.hp, h.hP, h.r, h.w.pop, fun y hy => h.m3 y (List.mem_cons_of_mem _ hy), fun hl => by omega, fun hl => by omega⟩
theorem OI.nclose {x : sT} (h : OI q none (some x) c e t last has P f1 n1 k1 L1 f2 n2 k2 L2 R o1 c1 M o2 c2 [] []) : OI q none none c e t 4 has P f1 n1 k1 L1 f2 n2 k2 L2 R o1 c1 M o2 c2 [] [] :=
 ⟨h.s, h.m, (fun hl => by cases hl), h.hp, h.hP, h.r, h.w, h.m3, fun _ => ⟨h.kc rfl, rfl, rfl, rfl, rfl⟩, (fun hl => by omega)⟩
theorem OI.nend (h : OI q none none c true t last has P f1 n1 k1 L1 f2 n2 k2 L2 R o1 c1 M o2 c2 [] []) : OI q none none c true true 5 has P f1 n1 k1 L1 f2 n2 k2 L2 R o1 c1 M o2 c2 [] [] :=
 ⟨h.s, h.m, h.kc, h.hp, h.hP, h.r, h.w, h.m3, (fun hl => by omega), fun _ => ⟨⟨rfl, rfl⟩, rfl, rfl, rfl, rfl⟩⟩
theorem oN_le (h : OI q p k c e t last has P f1 n1 k1 L1 f2 n2 k2 L2 R o1 c1 M o2 c2 lr lm) (hq : q ≤ 64) : oN p k e t lr lm ≤ 71 := by
 obtain ⟨a1, a2, a4, a5, a6, a7⟩ := sR_n h.s
 obtain ⟨b1, b2, b4, b5, b6, b7⟩ := mR_n h.m
 have h1 : p.toList.length ≤ 1 := by cases p <;> simp
 have h2 : k.toList.length ≤ 1 := by cases k <;> simp
 have h3 : (bif e && !t then 1 else 0) ≤ 1 := by cases e <;> cases t <;> decide
 unfold oN
 omega
theorem owaits00 (h : OI q none none c e t last has P f1 n1 k1 L1 f2 n2 k2 L2 R o1 c1 M o2 c2 lr lm) : waits00_t0 4 f1 n1 k1 L1 q f2 n2 k2 L2 c e t = decide (0 < oN none none e t lr lm) := by
 have a1 := (sR_n h.s).1
 have b1 := (mR_n h.m).1
 unfold waits00_t0
 have d1 : decide (0 < n1) = decide (0 < lr.length) := by rw [a1]; simp
 have d2 : decide (0 < n2) = decide (0 < lm.length) := by rw [b1]; simp
 rw [d1, d2]
 unfold oN
 cases lr <;> cases lm <;> cases e <;> cases t <;> simp <;> omega
theorem oshut_eq (c e : Bool) : (bif c then true else e) = (c || e) := by cases c <;> rfl
theorem toL_self (x : sT) : (toL x == toL x) = true := beq_self_eq_true _
end
end Go.Proofs.Yticpjnmoiepafaa

/-
  The statement OutboxOnce hands back true: the walk. (Printed by once.py.)
-/
set_option linter.unusedVariables false
set_option linter.unusedSimpArgs false
open Go Go.Am
namespace Go.Proofs.Yticpjnmoiepafaa

noncomputable def olH (q : Int) (l : List Act) (p k : Option sT) (c e t : Bool) (last : Int) (has : Bool) (P : sT) (f1 n1 : Int) (k1 : Nat) (L1 : List Value) (f2 n2 : Int) (k2 : Nat) (L2 R : List Value) (o1 c1 : Nat) (M : List Value) (o2 c2 i : Nat) : Cfg :=
 match p, k with
 | none, none => once_h1 q l.length (aQ l) (i : Int) P has last c e t R M 4 f1 n1 k1 f2 n2 k2 L1 L2 c1 o1 c2 o2
 | some x, none => once_h6 q l.length (aQ l) o1 o2 (i : Int) c1 c2 P has last c e t R M 4 f1 n1 k1 f2 n2 k2 x L1 L2
 | none, some y => once_h7 q l.length (aQ l) o1 o2 (i : Int) c1 c2 P has last c e t R M 4 f1 n1 k1 f2 n2 k2 y L1 L2
 | some x, some y => once_h12 q l.length (aQ l) o1 o2 (i : Int) c1 c2 P has last c e t R M 4 f1 n1 k1 f2 n2 k2 x y L1 L2
noncomputable def ocH (q : Int) (l : List Act) (p k : Option sT) (c e t : Bool) (last : Int) (has : Bool) (P : sT) (f1 n1 : Int) (k1 : Nat) (L1 : List Value) (f2 n2 : Int) (k2 : Nat) (L2 R : List Value) (o1 c1 : Nat) (M : List Value) (o2 c2 i : Nat) : Cfg :=
 match p, k with
 | none, none => once_h2 q l.length (aQ l) (i : Int) P has last c e t R M 4 f1 n1 k1 f2 n2 k2 L1 L2 c1 o1 c2 o2
 | some x, none => once_h3 q l.length (aQ l) o1 o2 (i : Int) c1 c2 P has last c e t R M 4 f1 n1 k1 f2 n2 k2 x L1 L2
 | none, some y => once_h4 q l.length (aQ l) o1 o2 (i : Int) c1 c2 P has last c e t R M 4 f1 n1 k1 f2 n2 k2 y L1 L2
 | some x, some y => once_h9 q l.length (aQ l) o1 o2 (i : Int) c1 c2 P has last c e t R M 4 f1 n1 k1 f2 n2 k2 x y L1 L2
noncomputable def ofH (q : Int) (l : List Act) (p k : Option sT) (c e t : Bool) (last : Int) (has : Bool) (P : sT) (f1 n1 : Int) (k1 : Nat) (L1 : List Value) (f2 n2 : Int) (k2 : Nat) (L2 R : List Value) (o1 c1 : Nat) (M : List Value) (o2 c2 i : Nat) : Cfg :=
 match p, k with
 | none, none => once_h5 q l.length (aQ l) o1 o2 (i : Int) c1 c2 has last P c e t R M 4 f1 n1 k1 f2 n2 k2 L1 L2
 | some x, none => once_h10 q l.length (aQ l) o1 o2 (i : Int) c1 c2 has last P c e t R M 4 f1 n1 k1 f2 n2 k2 x L1 L2
 | none, some y => once_h11 q l.length (aQ l) o1 o2 (i : Int) c1 c2 has last P c e t R M 4 f1 n1 k1 f2 n2 k2 y L1 L2
 | some x, some y => once_h15 q l.length (aQ l) o1 o2 (i : Int) c1 c2 has last P c e t R M 4 f1 n1 k1 f2 n2 k2 x y L1 L2
section
variable {q : Int} {l : List Act}
theorem olH_00 {c e t : Bool} {last : Int} {has : Bool} {P : sT} {f1 n1 : Int} {k1 : Nat} {L1 : List Value} {f2 n2 : Int} {k2 : Nat} {L2 : List Value} {R : List Value} {o1 c1 : Nat} {M : List Value} {o2 c2 : Nat} {i : Nat} : olH q l none none c e t last has P f1 n1 k1 L1 f2 n2 k2 L2 R o1 c1 M o2 c2 i = once_h1 q l.length (aQ l) (i : Int) P has last c e t R M 4 f1 n1 k1 f2 n2 k2 L1 L2 c1 o1 c2 o2 := rfl
theorem olH_10 {x : sT} {c e t : Bool} {last : Int} {has : Bool} {P : sT} {f1 n1 : Int} {k1 : Nat} {L1 : List Value} {f2 n2 : Int} {k2 : Nat} {L2 : List Value} {R : List Value} {o1 c1 : Nat} {M : List Value} {o2 c2 : Nat} {i : Nat} : olH q l (some x) none c e t last has P f1 n1 k1 L1 f2 n2 k2 L2 R o1 c1 M o2 c2 i = once_h6 q l.length (aQ l) o1 o2 (i : Int) c1 c2 P has last c e t R M 4 f1 n1 k1 f2 n2 k2 x L1 L2 := rfl
theorem olH_01 {y : sT} {c e t : Bool} {last : Int} {has : Bool} {P : sT} {f1 n1 : Int} {k1 : Nat} {L1 : List Value} {f2 n2 : Int} {k2 : Nat} {L2 : List Value} {R : List Value} {o1 c1 : Nat} {M : List Value} {o2 c2 : Nat} {i : Nat} : olH q l none (some y) c e t last has P f1 n1 k1 L1 f2 n2 k2 L2 R o1 c1 M o2 c2 i = once_h7 q l.length (aQ l) o1 o2 (i : Int) c1 c2 P has last c e t R M 4 f1 n1 k1 f2 n2 k2 y L1 L2 := rfl
theorem olH_11 {x y : sT} {c e t : Bool} {last : Int} {has : Bool} {P : sT} {f1 n1 : Int} {k1 : Nat} {L1 : List Value} {f2 n2 : Int} {k2 : Nat} {L2 : List Value} {R : List Value} {o1 c1 : Nat} {M : List Value} {o2 c2 : Nat} {i : Nat} : olH q l (some x) (some y) c e t last has P f1 n1 k1 L1 f2 n2 k2 L2 R o1 c1 M o2 c2 i = once_h12 q l.length (aQ l) o1 o2 (i : Int) c1 c2 P has last c e t R M 4 f1 n1 k1 f2 n2 k2 x y L1 L2 := rfl
theorem ocH_00 {c e t : Bool} {last : Int} {has : Bool} {P : sT} {f1 n1 : Int} {k1 : Nat} {L1 : List Value} {f2 n2 : Int} {k2 : Nat} {L2 : List Value} {R : List Value} {o1 c1 : Nat} {M : List Value} {o2 c2 : Nat} {i : Nat} : ocH q l none none c e t last has P f1 n1 k1 L1 f2 n2 k2 L2 R o1 c1 M o2 c2 i = once_h2 q l.length (aQ l) (i : Int) P has last c e t R M 4 f1 n1 k1 f2 n2 k2 L1 L2 c1 o1 c2 o2 := rfl
theorem ocH_10 {x : sT} {c e t : Bool} {last : Int} {has : Bool} {P : sT} {f1 n1 : Int} {k1 : Nat} {L1 : List Value} {f2 n2 : Int} {k2 : Nat} {L2 : List Value} {R : List Value} {o1 c1 : Nat} {M : List Value} {o2 c2 : Nat} {i : Nat} : ocH q l (some x) none c e t last has P f1 n1 k1 L1 f2 n2 k2 L2 R o1 c1 M o2 c2 i = once_h3 q l.length (aQ l) o1 o2 (i : Int) c1 c2 P has last c e t R M 4 f1 n1 k1 f2 n2 k2 x L1 L2 := rfl
theorem ocH_01 {y : sT} {c e t : Bool} {last : Int} {has : Bool} {P : sT} {f1 n1 : Int} {k1 : Nat} {L1 : List Value} {f2 n2 : Int} {k2 : Nat} {L2 : List Value} {R : List Value} {o1 c1 : Nat} {M : List Value} {o2 c2 : Nat} {i : Nat} : ocH q l none (some y) c e t last has P f1 n1 k1 L1 f2 n2 k2 L2 R o1 c1 M o2 c2 i = once_h4 q l.length (aQ l) o1 o2 (i : Int) c1 c2 P has last c e t R M 4 f1 n1 k1 f2 n2 k2 y L1 L2 := rfl
theorem ocH_11 {x y : sT} {c e t : Bool} {last : Int} {has : Bool} {P : sT} {f1 n1 : Int} {k1 : Nat} {L1 : List Value} {f2 n2 : Int} {k2 : Nat} {L2 : List Value} {R : List Value} {o1 c1 : Nat} {M : List Value} {o2 c2 : Nat} {i : Nat} : ocH q l (some x) (some y) c e t last has P f1 n1 k1 L1 f2 n2 k2 L2 R o1 c1 M o2 c2 i = once_h9 q l.length (aQ l) o1 o2 (i : Int) c1 c2 P has last c e t R M 4 f1 n1 k1 f2 n2 k2 x y L1 L2 := rfl
theorem ofH_00 {c e t : Bool} {last : Int} {has : Bool} {P : sT} {f1 n1 : Int} {k1 : Nat} {L1 : List Value} {f2 n2 : Int} {k2 : Nat} {L2 : List Value} {R : List Value} {o1 c1 : Nat} {M : List Value} {o2 c2 : Nat} {i : Nat} : ofH q l none none c e t last has P f1 n1 k1 L1 f2 n2 k2 L2 R o1 c1 M o2 c2 i = once_h5 q l.length (aQ l) o1 o2 (i : Int) c1 c2 has last P c e t R M 4 f1 n1 k1 f2 n2 k2 L1 L2 := rfl
theorem ofH_10 {x : sT} {c e t : Bool} {last : Int} {has : Bool} {P : sT} {f1 n1 : Int} {k1 : Nat} {L1 : List Value} {f2 n2 : Int} {k2 : Nat} {L2 : List Value} {R : List Value} {o1 c1 : Nat} {M : List Value} {o2 c2 : Nat} {i : Nat} : ofH q l (some x) none c e t last has P f1 n1 k1 L1 f2 n2 k2 L2 R o1 c1 M o2 c2 i = once_h10 q l.length (aQ l) o1 o2 (i : Int) c1 c2 has last P c e t R M 4 f1 n1 k1 f2 n2 k2 x L1 L2 := rfl
theorem ofH_01 {y : sT} {c e t : Bool} {last : Int} {has : Bool} {P : sT} {f1 n1 : Int} {k1 : Nat} {L1 : List Value} {f2 n2 : Int} {k2 : Nat} {L2 : List Value} {R : List Value} {o1 c1 : Nat} {M : List Value} {o2 c2 : Nat} {i : Nat} : ofH q l none (some y) c e t last has P f1 n1 k1 L1 f2 n2 k2 L2 R o1 c1 M o2 c2 i = once_h11 q l.length (aQ l) o1 o2 (i : Int) c1 c2 has last P c e t R M 4 f1 n1 k1 f2 n2 k2 y L1 L2 := rfl
theorem ofH_11 {x y : sT} {c e t : Bool} {last : Int} {has : Bool} {P : sT} {f1 n1 : Int} {k1 : Nat} {L1 : List Value} {f2 n2 : Int} {k2 : Nat} {L2 : List Value} {R : List Value} {o1 c1 : Nat} {M : List Value} {o2 c2 : Nat} {i : Nat} : ofH q l (some x) (some y) c e t last has P f1 n1 k1 L1 f2 n2 k2 L2 R o1 c1 M o2 c2 i = once_h15 q l.length (aQ l) o1 o2 (i : Int) c1 c2 has last P c e t R M 4 f1 n1 k1 f2 n2 k2 x y L1 L2 := rfl
theorem owr {i : Nat} (hi : i ≤ 1000) : IntKind.i64.wrap ((i : Int) + 1) = ((i + 1 : Nat) : Int) := by rw [wrap64_in (by omega) (by omega)]; omega
theorem once_cmp00 {i : Nat} (hi : i ≤ 200) (c e t : Bool) (last : Int) (has : Bool) (P : sT) (f1 n1 : Int) (k1 : Nat) (L1 : List Value) (f2 n2 : Int) (k2 : Nat) (L2 R : List Value) (o1 c1 : Nat) (M : List Value) (o2 c2 : Nat) (lr : List sT) (lm : List mT) (h : OI q none none c e t last has P f1 n1 k1 L1 f2 n2 k2 L2 R o1 c1 M o2 c2 lr lm)
  (nx : AEnds E2 4 0 (olH q l none none c e t last has P f1 n1 k1 L1 f2 n2 k2 L2 R o1 c1 M o2 c2 (i + 1)) (.bool true) []) : AEnds E2 4 0 (once_h2 q l.length (aQ l) (i : Int) P has last c e t R M 4 f1 n1 k1 f2 n2 k2 L1 L2 c1 o1 c2 o2) (.bool true) [] := by
 have hR := h.r.flat
 have hM := h.w.flat
 have lR := h.r.len
 have lM := h.w.len
 obtain ⟨hc1, u1, u2⟩ := h.e1
 obtain ⟨hc2, u3, u4, u5⟩ := h.e2
 have sf := sR_flat h.s
 have mf := mR_flat h.m
 have sl := slen_in h.s
 have ml := mlen_in h.m
 have b1 : ((c1 : Int) != n1) = false := by rw [hc1]; simp
 have b2 : ((c2 : Int) != n2) = false := by rw [hc2]; simp
 have b3 : decide (4 < (c1 : Int)) = false := decide_eq_false (by omega)
 have b4 : decide (q < (c2 : Int)) = false := decide_eq_false (by omega)
 have w := once_w2_0 q l.length (aQ l) (i : Int) P has last c e t R M 4 f1 n1 k1 f2 n2 k2 L1 L2 c1 o1 c2 o2
 rw [owr (by omega)] at w
 refine Gets.ends ?_ nx
 rw [olH_00]
 apply w
 all_goals first | assumption | exact trivial | rfl | omega | (simp; done) | (simp [hc1, hc2]; done) | (simp; omega)
theorem once_cmp10 {i : Nat} (hi : i ≤ 200) (x : sT) (c e t : Bool) (last : Int) (has : Bool) (P : sT) (f1 n1 : Int) (k1 : Nat) (L1 : List Value) (f2 n2 : Int) (k2 : Nat) (L2 R : List Value) (o1 c1 : Nat) (M : List Value) (o2 c2 : Nat) (lr : List sT) (lm : List mT) (h : OI q (some x) none c e t last has P f1 n1 k1 L1 f2 n2 k2 L2 R o1 c1 M o2 c2 lr lm)
  (nx : AEnds E2 4 0 (olH q l (some x) none c e t last has P f1 n1 k1 L1 f2 n2 k2 L2 R o1 c1 M o2 c2 (i + 1)) (.bool true) []) : AEnds E2 4 0 (once_h3 q l.length (aQ l) o1 o2 (i : Int) c1 c2 P has last c e t R M 4 f1 n1 k1 f2 n2 k2 x L1 L2) (.bool true) [] := by
 have hR := h.r.flat
 have hM := h.w.flat
 have lR := h.r.len
 have lM := h.w.len
 obtain ⟨hc1, u1, u2⟩ := h.e1
 obtain ⟨hc2, u3, u4, u5⟩ := h.e2
 have sf := sR_flat h.s
 have mf := mR_flat h.m
 have sl := slen_in h.s
 have ml := mlen_in h.m
 have b1 : ((c1 : Int) != n1) = false := by rw [hc1]; simp
 have b2 : ((c2 : Int) != n2) = false := by rw [hc2]; simp
 have b3 : decide (4 < (c1 : Int)) = false := decide_eq_false (by omega)
 have b4 : decide (q < (c2 : Int)) = false := decide_eq_false (by omega)
 have w := once_w3_0 q l.length (aQ l) o1 o2 (i : Int) c1 c2 P has last c e t R M 4 f1 n1 k1 f2 n2 k2 x L1 L2
 rw [owr (by omega)] at w
 refine Gets.ends ?_ nx
 rw [olH_10]
 apply w
 all_goals first | assumption | exact trivial | rfl | omega | (simp; done) | (simp [hc1, hc2]; done) | (simp; omega)
theorem once_cmp01 {i : Nat} (hi : i ≤ 200) (y : sT) (c e t : Bool) (last : Int) (has : Bool) (P : sT) (f1 n1 : Int) (k1 : Nat) (L1 : List Value) (f2 n2 : Int) (k2 : Nat) (L2 R : List Value) (o1 c1 : Nat) (M : List Value) (o2 c2 : Nat) (lr : List sT) (lm : List mT) (h : OI q none (some y) c e t last has P f1 n1 k1 L1 f2 n2 k2 L2 R o1 c1 M o2 c2 lr lm)
  (nx : AEnds E2 4 0 (olH q l none (some y) c e t last has P f1 n1 k1 L1 f2 n2 k2 L2 R o1 c1 M o2 c2 (i + 1)) (.bool true) []) : AEnds E2 4 0 (once_h4 q l.length (aQ l) o1 o2 (i : Int) c1 c2 P has last c e t R M 4 f1 n1 k1 f2 n2 k2 y L1 L2) (.bool true) [] := by
 have hR := h.r.flat
 have hM := h.w.flat
 have lR := h.r.len
 have lM := h.w.len
 obtain ⟨hc1, u1, u2⟩ := h.e1
 obtain ⟨hc2, u3, u4, u5⟩ := h.e2
 have sf := sR_flat h.s
 have mf := mR_flat h.m
 have sl := slen_in h.s
 have ml := mlen_in h.m
 have b1 : ((c1 : Int) != n1) = false := by rw [hc1]; simp
 have b2 : ((c2 : Int) != n2) = false := by rw [hc2]; simp
 have b3 : decide (4 < (c1 : Int)) = false := decide_eq_false (by omega)
 have b4 : decide (q < (c2 : Int)) = false := decide_eq_false (by omega)
 have w := once_w4_0 q l.length (aQ l) o1 o2 (i : Int) c1 c2 P has last c e t R M 4 f1 n1 k1 f2 n2 k2 y L1 L2
 rw [owr (by omega)] at w
 refine Gets.ends ?_ nx
 rw [olH_01]
 apply w
 all_goals first | assumption | exact trivial | rfl | omega | (simp; done) | (simp [hc1, hc2]; done) | (simp; omega)
theorem once_cmp11 {i : Nat} (hi : i ≤ 200) (x y : sT) (c e t : Bool) (last : Int) (has : Bool) (P : sT) (f1 n1 : Int) (k1 : Nat) (L1 : List Value) (f2 n2 : Int) (k2 : Nat) (L2 R : List Value) (o1 c1 : Nat) (M : List Value) (o2 c2 : Nat) (lr : List sT) (lm : List mT) (h : OI q (some x) (some y) c e t last has P f1 n1 k1 L1 f2 n2 k2 L2 R o1 c1 M o2 c2 lr lm)
  (nx : AEnds E2 4 0 (olH q l (some x) (some y) c e t last has P f1 n1 k1 L1 f2 n2 k2 L2 R o1 c1 M o2 c2 (i + 1)) (.bool true) []) : AEnds E2 4 0 (once_h9 q l.length (aQ l) o1 o2 (i : Int) c1 c2 P has last c e t R M 4 f1 n1 k1 f2 n2 k2 x y L1 L2) (.bool true) [] := by
 have hR := h.r.flat
 have hM := h.w.flat
 have lR := h.r.len
 have lM := h.w.len
 obtain ⟨hc1, u1, u2⟩ := h.e1
 obtain ⟨hc2, u3, u4, u5⟩ := h.e2
 have sf := sR_flat h.s
 have mf := mR_flat h.m
 have sl := slen_in h.s
 have ml := mlen_in h.m
 have b1 : ((c1 : Int) != n1) = false := by rw [hc1]; simp
 have b2 : ((c2 : Int) != n2) = false := by rw [hc2]; simp
 have b3 : decide (4 < (c1 : Int)) = false := decide_eq_false (by omega)
 have b4 : decide (q < (c2 : Int)) = false := decide_eq_false (by omega)
 have w := once_w9_0 q l.length (aQ l) o1 o2 (i : Int) c1 c2 P has last c e t R M 4 f1 n1 k1 f2 n2 k2 x y L1 L2
 rw [owr (by omega)] at w
 refine Gets.ends ?_ nx
 rw [olH_11]
 apply w
 all_goals first | assumption | exact trivial | rfl | omega | (simp; done) | (simp [hc1, hc2]; done) | (simp; omega)
theorem once_cmp {i : Nat} (hi : i ≤ 200) (p k : Option sT) (c e t : Bool) (last : Int) (has : Bool) (P : sT) (f1 n1 : Int) (k1 : Nat) (L1 : List Value) (f2 n2 : Int) (k2 : Nat) (L2 R : List Value) (o1 c1 : Nat) (M : List Value) (o2 c2 : Nat) (lr : List sT) (lm : List mT) (h : OI q p k c e t last has P f1 n1 k1 L1 f2 n2 k2 L2 R o1 c1 M o2 c2 lr lm)
  (nx : AEnds E2 4 0 (olH q l p k c e t last has P f1 n1 k1 L1 f2 n2 k2 L2 R o1 c1 M o2 c2 (i + 1)) (.bool true) []) : AEnds E2 4 0 (ocH q l p k c e t last has P f1 n1 k1 L1 f2 n2 k2 L2 R o1 c1 M o2 c2 i) (.bool true) [] := by
 cases p with
 | none => cases k with
  | none => rw [ocH_00]; exact once_cmp00 hi c e t last has P f1 n1 k1 L1 f2 n2 k2 L2 R o1 c1 M o2 c2 lr lm h nx
  | some y => rw [ocH_01]; exact once_cmp01 hi y c e t last has P f1 n1 k1 L1 f2 n2 k2 L2 R o1 c1 M o2 c2 lr lm h nx
 | some x => cases k with
  | none => rw [ocH_10]; exact once_cmp10 hi x c e t last has P f1 n1 k1 L1 f2 n2 k2 L2 R o1 c1 M o2 c2 lr lm h nx
  | some y => rw [ocH_11]; exact once_cmp11 hi x y c e t last has P f1 n1 k1 L1 f2 n2 k2 L2 R o1 c1 M o2 c2 lr lm h nx
theorem once_act00 (hq : 1 ≤ q ∧ q ≤ 64) (hl : l.length ≤ 200) (hb : ∀ a ∈ l, (0 ≤ a.1 ∧ a.1 ≤ 255) ∧ (0 ≤ a.2.1 ∧ a.2.1 ≤ 255)) {i : Nat} {a : Act} (ha : l[i]? = some a)
  (nx : ∀ (p k : Option sT) (c e t : Bool) (last : Int) (has : Bool) (P : sT) (f1 n1 : Int) (k1 : Nat) (L1 : List Value) (f2 n2 : Int) (k2 : Nat) (L2 : List Value) (R : List Value) (o1 c1 : Nat) (M : List Value) (o2 c2 : Nat) (lr : List sT) (lm : List mT), OI q p k c e t last has P f1 n1 k1 L1 f2 n2 k2 L2 R o1 c1 M o2 c2 lr lm → AEnds E2 4 0 (ocH q l p k c e t last has P f1 n1 k1 L1 f2 n2 k2 L2 R o1 c1 M o2 c2 i) (.bool true) [])
  (c e t : Bool) (last : Int) (has : Bool) (P : sT) (f1 n1 : Int) (k1 : Nat) (L1 : List Value) (f2 n2 : Int) (k2 : Nat) (L2 : List Value) (R : List Value) (o1 c1 : Nat) (M : List Value) (o2 c2 : Nat) (lr : List sT) (lm : List mT) (h : OI q none none c e t last has P f1 n1 k1 L1 f2 n2 k2 L2 R o1 c1 M o2 c2 lr lm) : AEnds E2 4 0 (once_h1 q l.length (aQ l) (i : Int) P has last c e t R M 4 f1 n1 k1 f2 n2 k2 L1 L2 c1 o1 c2 o2) (.bool true) [] := by
 have hi := (List.getElem?_eq_some_iff.1 ha).1
 obtain ⟨g, g0, g1, g2⟩ := aQ_get ha
 obtain ⟨b1, b2⟩ := hb a (List.mem_of_getElem? ha)
 have hlen := aQ_len l
 have hR := h.r.flat
 have hM := h.w.flat
 have lR := h.r.len
 have lM := h.w.len
 obtain ⟨hc1, u1, u2⟩ := h.e1
 obtain ⟨hc2, u3, u4, u5⟩ := h.e2
 have sf := sR_flat h.s
 have mf := mR_flat h.m
 have sl := slen_in h.s
 have ml := mlen_in h.m
 have sc : spushc_pre 4 f1 n1 k1 L1 a.2.2 := ⟨_, h.s⟩
 have mc : mpushc_pre q f2 n2 k2 L2 3 a.2.1 a.2.2 := ⟨_, h.m⟩
 have ss : shut00_S0 4 f1 n1 k1 L1 q f2 n2 k2 L2 c e t := by unfold shut00_S0; simp [sf, mf]
 have sh : shut00_t0 4 f1 n1 k1 L1 q f2 n2 k2 L2 c e t = (c || e) := oshut_eq c e
 have wo : IntKind.i64.wrap a.2.1 = a.2.1 := wrap64_in (by omega) (by omega)
 by_cases a0 : a.1 = 0
 ·cases c with
  | true =>
   have w := once_w1_0 q l.length (aQ l) (i : Int) P has last true e t R M 4 f1 n1 k1 f2 n2 k2 L1 L2 c1 o1 c2 o2
   simp only [Int.toNat_natCast, g0, g1, g2, toInt, toStr, isInt, isStr, wo] at w
   refine Gets.ends ?_ (nx none none true e t last has P f1 n1 k1 L1 f2 n2 k2 L2 R o1 c1 M o2 c2 _ _ (h))
   first | rw [ocH_00] | rw [ocH_10] | rw [ocH_01] | rw [ocH_11] | skip
   apply w
   all_goals first | assumption | exact trivial | rfl | omega | (simp; done) | (simp [hc1, hc2]; done) | (simp; omega)
  | false =>
   cases e with
   | true =>
    have w := once_w1_1 q l.length (aQ l) (i : Int) P has last false true t R M 4 f1 n1 k1 f2 n2 k2 L1 L2 c1 o1 c2 o2
    simp only [Int.toNat_natCast, g0, g1, g2, toInt, toStr, isInt, isStr, wo] at w
    refine Gets.ends ?_ (nx none none false true t last has P f1 n1 k1 L1 f2 n2 k2 L2 R o1 c1 M o2 c2 _ _ (h))
    first | rw [ocH_00] | rw [ocH_10] | rw [ocH_01] | rw [ocH_11] | skip
    apply w
    all_goals first | assumption | exact trivial | rfl | omega | (simp; done) | (simp [hc1, hc2]; done) | (simp; omega)
   | false =>
    by_cases hn : n1 < 4
    ·obtain ⟨f1', n1', k1', L1', s2, s3⟩ := spush_in h.s a.2.2 hn
     have sf3 := sR_flat s3
     have hp1 := (h.reply a.2.2 s3).r.flat
     have w := once_w1_3 q l.length (aQ l) (i : Int) P has last false false t R M 4 f1 n1 k1 f2 n2 k2 L1 L2 c1 o1 c2 o2
     simp only [Int.toNat_natCast, g0, g1, g2, toInt, toStr, isInt, isStr, wo] at w
     have w := w _ (s2)
     refine Gets.ends ?_ (nx none none false false t last has P f1' n1' k1' L1' f2 n2 k2 L2 (List.take (c1 * 3) (List.drop o1 R) ++ [Value.int .i64 1, .int .i64 0, .string a.2.2]) 0 (c1 + 1) M o2 c2 _ _ (h.reply a.2.2 s3))
     first | rw [ocH_00] | rw [ocH_10] | rw [ocH_01] | rw [ocH_11] | skip
     apply w
     all_goals first | assumption | exact trivial | rfl | omega | (simp; done) | (simp [hc1, hc2]; done) | (simp; omega)
    ·have s2 := spush_full (first := f1) (ln := k1) (L := L1) a.2.2 (show (4 : Int) ≤ n1 by omega)
     have w := once_w1_2 q l.length (aQ l) (i : Int) P has last false false t R M 4 f1 n1 k1 f2 n2 k2 L1 L2 c1 o1 c2 o2
     simp only [Int.toNat_natCast, g0, g1, g2, toInt, toStr, isInt, isStr, wo] at w
     have w := w _ (s2)
     refine Gets.ends ?_ (nx none none false false t last has P f1 n1 k1 L1 f2 n2 k2 L2 R o1 c1 M o2 c2 _ _ (h))
     first | rw [ocH_00] | rw [ocH_10] | rw [ocH_01] | rw [ocH_11] | skip
     apply w
     all_goals first | assumption | exact trivial | rfl | omega | (simp; done) | (simp [hc1, hc2]; done) | (simp; omega)
 by_cases a1 : a.1 = 1
 ·have _ := a1
  cases c with
  | true =>
   have w := once_w1_4 q l.length (aQ l) (i : Int) P has last true e t R M 4 f1 n1 k1 f2 n2 k2 L1 L2 c1 o1 c2 o2
   simp only [Int.toNat_natCast, g0, g1, g2, toInt, toStr, isInt, isStr, wo] at w
   refine Gets.ends ?_ (nx none none true e t last has P f1 n1 k1 L1 f2 n2 k2 L2 R o1 c1 M o2 c2 _ _ (h))
   first | rw [ocH_00] | rw [ocH_10] | rw [ocH_01] | rw [ocH_11] | skip
   apply w
   all_goals first | assumption | exact trivial | rfl | omega | (simp; done) | (simp [hc1, hc2]; done) | (simp; omega)
  | false =>
   cases e with
   | true =>
    have w := once_w1_4 q l.length (aQ l) (i : Int) P has last false true t R M 4 f1 n1 k1 f2 n2 k2 L1 L2 c1 o1 c2 o2
    simp only [Int.toNat_natCast, g0, g1, g2, toInt, toStr, isInt, isStr, wo] at w
    refine Gets.ends ?_ (nx none none false true t last has P f1 n1 k1 L1 f2 n2 k2 L2 R o1 c1 M o2 c2 _ _ (h))
    first | rw [ocH_00] | rw [ocH_10] | rw [ocH_01] | rw [ocH_11] | skip
    apply w
    all_goals first | assumption | exact trivial | rfl | omega | (simp; done) | (simp [hc1, hc2]; done) | (simp; omega)
   | false =>
    have w := once_w1_5 q l.length (aQ l) (i : Int) P has last false false t R M 4 f1 n1 k1 f2 n2 k2 L1 L2 c1 o1 c2 o2
    simp only [Int.toNat_natCast, g0, g1, g2, toInt, toStr, isInt, isStr, wo] at w
    refine Gets.ends ?_ (nx (some a.2.2) none false false t last true a.2.2 f1 n1 k1 L1 f2 n2 k2 L2 R o1 c1 M o2 c2 _ _ (h.pong a.2.2))
    first | rw [ocH_00] | rw [ocH_10] | rw [ocH_01] | rw [ocH_11] | skip
    apply w
    all_goals first | assumption | exact trivial | rfl | omega | (simp; done) | (simp [hc1, hc2]; done) | (simp; omega)
 by_cases a2 : a.1 = 2
 ·have _ := a2
  cases c with
  | true =>
   have w := once_w1_6 q l.length (aQ l) (i : Int) P has last true e t R M 4 f1 n1 k1 f2 n2 k2 L1 L2 c1 o1 c2 o2
   simp only [Int.toNat_natCast, g0, g1, g2, toInt, toStr, isInt, isStr, wo] at w
   refine Gets.ends ?_ (nx none none true e t last has P f1 n1 k1 L1 f2 n2 k2 L2 R o1 c1 M o2 c2 _ _ (h))
   first | rw [ocH_00] | rw [ocH_10] | rw [ocH_01] | rw [ocH_11] | skip
   apply w
   all_goals first | assumption | exact trivial | rfl | omega | (simp; done) | (simp [hc1, hc2]; done) | (simp; omega)
  | false =>
   cases e with
   | true =>
    have w := once_w1_6 q l.length (aQ l) (i : Int) P has last false true t R M 4 f1 n1 k1 f2 n2 k2 L1 L2 c1 o1 c2 o2
    simp only [Int.toNat_natCast, g0, g1, g2, toInt, toStr, isInt, isStr, wo] at w
    refine Gets.ends ?_ (nx none none false true t last has P f1 n1 k1 L1 f2 n2 k2 L2 R o1 c1 M o2 c2 _ _ (h))
    first | rw [ocH_00] | rw [ocH_10] | rw [ocH_01] | rw [ocH_11] | skip
    apply w
    all_goals first | assumption | exact trivial | rfl | omega | (simp; done) | (simp [hc1, hc2]; done) | (simp; omega)
   | false =>
    by_cases hn : n2 < q
    ·obtain ⟨f2', n2', k2', L2', m2, m3⟩ := mpush_in h.m (3, a.2.1, a.2.2) hn
     have mf3 := mR_flat m3
     have hp1 := (h.msg a.2.1 a.2.2 m3).w.flat
     have w := once_w1_8 q l.length (aQ l) (i : Int) P has last false false t R M 4 f1 n1 k1 f2 n2 k2 L1 L2 c1 o1 c2 o2
     simp only [Int.toNat_natCast, g0, g1, g2, toInt, toStr, isInt, isStr, wo] at w
     have w := w _ (m2)
     refine Gets.ends ?_ (nx none none false false t last has P f1 n1 k1 L1 f2' n2' k2' L2' R o1 c1 (List.take (c2 * 3) (List.drop o2 M) ++ [Value.int .i64 3, .int .i64 a.2.1, .string a.2.2]) 0 (c2 + 1) _ _ (h.msg a.2.1 a.2.2 m3))
     first | rw [ocH_00] | rw [ocH_10] | rw [ocH_01] | rw [ocH_11] | skip
     apply w
     all_goals first | assumption | exact trivial | rfl | omega | (simp; done) | (simp [hc1, hc2]; done) | (simp; omega)
    ·have m2 := mpush_full (first := f2) (ln := k2) (L := L2) (3, a.2.1, a.2.2) (show q ≤ n2 by omega)
     have w := once_w1_7 q l.length (aQ l) (i : Int) P has last false false t R M 4 f1 n1 k1 f2 n2 k2 L1 L2 c1 o1 c2 o2
     simp only [Int.toNat_natCast, g0, g1, g2, toInt, toStr, isInt, isStr, wo] at w
     have w := w _ (m2)
     refine Gets.ends ?_ (nx none none false false t last has P f1 n1 k1 L1 f2 n2 k2 L2 R o1 c1 M o2 c2 _ _ (h))
     first | rw [ocH_00] | rw [ocH_10] | rw [ocH_01] | rw [ocH_11] | skip
     apply w
     all_goals first | assumption | exact trivial | rfl | omega | (simp; done) | (simp [hc1, hc2]; done) | (simp; omega)
 by_cases a3 : a.1 = 3
 ·have _ := a3
  cases c with
  | true =>
   have w := once_w1_9 q l.length (aQ l) (i : Int) P has last true e t R M 4 f1 n1 k1 f2 n2 k2 L1 L2 c1 o1 c2 o2
   simp only [Int.toNat_natCast, g0, g1, g2, toInt, toStr, isInt, isStr, wo] at w
   refine Gets.ends ?_ (nx none none true e t last has P f1 n1 k1 L1 f2 n2 k2 L2 R o1 c1 M o2 c2 _ _ (h))
   first | rw [ocH_00] | rw [ocH_10] | rw [ocH_01] | rw [ocH_11] | skip
   apply w
   all_goals first | assumption | exact trivial | rfl | omega | (simp; done) | (simp [hc1, hc2]; done) | (simp; omega)
  | false =>
   cases e with
   | true =>
    have w := once_w1_9 q l.length (aQ l) (i : Int) P has last false true t R M 4 f1 n1 k1 f2 n2 k2 L1 L2 c1 o1 c2 o2
    simp only [Int.toNat_natCast, g0, g1, g2, toInt, toStr, isInt, isStr, wo] at w
    refine Gets.ends ?_ (nx none none false true t last has P f1 n1 k1 L1 f2 n2 k2 L2 R o1 c1 M o2 c2 _ _ (h))
    first | rw [ocH_00] | rw [ocH_10] | rw [ocH_01] | rw [ocH_11] | skip
    apply w
    all_goals first | assumption | exact trivial | rfl | omega | (simp; done) | (simp [hc1, hc2]; done) | (simp; omega)
   | false =>
    have w := once_w1_10 q l.length (aQ l) (i : Int) P has last false false t R M 4 f1 n1 k1 f2 n2 k2 L1 L2 c1 o1 c2 o2
    simp only [Int.toNat_natCast, g0, g1, g2, toInt, toStr, isInt, isStr, wo] at w
    refine Gets.ends ?_ (nx none (some a.2.2) true false t last has P f1 n1 k1 L1 f2 n2 k2 L2 R o1 c1 M o2 c2 _ _ (h.close a.2.2))
    first | rw [ocH_00] | rw [ocH_10] | rw [ocH_01] | rw [ocH_11] | skip
    apply w
    all_goals first | assumption | exact trivial | rfl | omega | (simp; done) | (simp [hc1, hc2]; done) | (simp; omega)
 by_cases a4 : a.1 = 4
 ·have _ := a4
  have w := once_w1_11 q l.length (aQ l) (i : Int) P has last c e t R M 4 f1 n1 k1 f2 n2 k2 L1 L2 c1 o1 c2 o2
  simp only [Int.toNat_natCast, g0, g1, g2, toInt, toStr, isInt, isStr, wo] at w
  refine Gets.ends ?_ (nx none none c true t last has P f1 n1 k1 L1 f2 n2 k2 L2 R o1 c1 M o2 c2 _ _ (h.endd))
  first | rw [ocH_00] | rw [ocH_10] | rw [ocH_01] | rw [ocH_11] | skip
  apply w
  all_goals first | assumption | exact trivial | rfl | omega | (simp; done) | (simp [hc1, hc2]; done) | (simp; omega)
 cases lr with
 | cons z lr =>
  have v4 : (last == 4) = false := by rw [beq_eq_false_iff_ne]; intro hl; have := h.l4 hl; simp at this
  have v5 : (last == 5) = false := by rw [beq_eq_false_iff_ne]; intro hl; have := h.l5 hl; simp at this
  obtain ⟨s1, f1', n1', L1', s2, s3⟩ := spop_cons h.s
  have sf3 := sR_flat s3
  have hr := h.r
  rw [List.map_cons] at hr
  obtain ⟨r0, r1, r2⟩ := hr.get
  simp only [oI] at r0 r1 r2
  have hz := h.r.num
  simp only [List.length_map, List.length_cons] at hz
  have w := once_w1_12 q l.length (aQ l) (i : Int) P has last c e t R M 4 f1 n1 k1 f2 n2 k2 L1 L2 c1 o1 c2 o2
  simp only [Int.toNat_natCast, g0, g1, g2, toInt, toStr, isInt, isStr, wo, r0, r1, r2, toInt, toStr, isInt, isStr] at w
  have w := w _ (s2)
  refine Gets.ends ?_ (nx none none c e t 1 has P f1' n1' k1 L1' f2 n2 k2 L2 R (o1 + 3) (c1 - 1) M o2 c2 _ _ (h.nreply s3))
  first | rw [ocH_00] | rw [ocH_10] | rw [ocH_01] | rw [ocH_11] | skip
  apply w
  all_goals first | assumption | exact trivial | rfl | omega | (simp; done) | (simp [hc1, hc2]; done) | (simp; omega)
 | nil =>
  obtain ⟨s1, s2⟩ := spop_nil h.s
  have hz := h.r.num
  simp only [List.map_nil, List.length_nil] at hz
  have hh : has = false := h.hp
  cases lm with
  | cons z lm =>
   have v4 : (last == 4) = false := by rw [beq_eq_false_iff_ne]; intro hl; have := h.l4 hl; simp at this
   have v5 : (last == 5) = false := by rw [beq_eq_false_iff_ne]; intro hl; have := h.l5 hl; simp at this
   obtain ⟨m1, f2', n2', L2', m2, m3⟩ := mpop_cons h.m
   have mf3 := mR_flat m3
   have h3 := h.m3 z List.mem_cons_self
   obtain ⟨zk, zo, zs⟩ := z
   simp only at h3
   subst h3
   obtain ⟨r0, r1, r2⟩ := h.w.get
   simp only at r0 r1 r2
   have hy := h.w.num
   simp only [List.length_cons] at hy
   have w := once_w1_24 q l.length (aQ l) (i : Int) P has last c e t R M 4 f1 n1 k1 f2 n2 k2 L1 L2 c1 o1 c2 o2
   simp only [Int.toNat_natCast, g0, g1, g2, toInt, toStr, isInt, isStr, wo, r0, r1, r2, toInt, toStr, isInt, isStr] at w
   have w := w _ (s2) _ (m2)
   refine Gets.ends ?_ (nx none none c e t 3 has P f1 n1 k1 L1 f2' n2' k2 L2' R o1 c1 M (o2 + 3) (c2 - 1) _ _ (h.nmsg m3))
   first | rw [ocH_00] | rw [ocH_10] | rw [ocH_01] | rw [ocH_11] | skip
   apply w
   all_goals first | assumption | exact trivial | rfl | omega | (simp; done) | (simp [hc1, hc2]; done) | (simp; omega)
  | nil =>
   obtain ⟨m1, m2⟩ := mpop_nil h.m
   have hy := h.w.num
   simp only [List.length_nil] at hy
   cases e with
   | true =>
    cases t with
    | false =>
     have v5 : (last == 5) = false := by rw [beq_eq_false_iff_ne]; intro hl; have := h.l5 hl; simp at this
     by_cases hl : last = 4
     ·have v4 : (last == 4) = true := by rw [hl]; rfl
      have w := once_w1_29 q l.length (aQ l) (i : Int) P has last c true false R M 4 f1 n1 k1 f2 n2 k2 L1 L2 c1 o1 c2 o2
      simp only [Int.toNat_natCast, g0, g1, g2, toInt, toStr, isInt, isStr, wo] at w
      have w := w _ (s2) _ (m2)
      refine Gets.ends ?_ (nx none none c true true 5 has P f1 n1 k1 L1 f2 n2 k2 L2 R o1 c1 M o2 c2 _ _ (h.nend))
      first | rw [ocH_00] | rw [ocH_10] | rw [ocH_01] | rw [ocH_11] | skip
      apply w
      all_goals first | assumption | exact trivial | rfl | omega | (simp; done) | (simp [hc1, hc2]; done) | (simp; omega)
     ·have v4 : (last == 4) = false := by rw [beq_eq_false_iff_ne]; exact hl
      have w := once_w1_30 q l.length (aQ l) (i : Int) P has last c true false R M 4 f1 n1 k1 f2 n2 k2 L1 L2 c1 o1 c2 o2
      simp only [Int.toNat_natCast, g0, g1, g2, toInt, toStr, isInt, isStr, wo] at w
      have w := w _ (s2) _ (m2)
      refine Gets.ends ?_ (nx none none c true true 5 has P f1 n1 k1 L1 f2 n2 k2 L2 R o1 c1 M o2 c2 _ _ (h.nend))
      first | rw [ocH_00] | rw [ocH_10] | rw [ocH_01] | rw [ocH_11] | skip
      apply w
      all_goals first | assumption | exact trivial | rfl | omega | (simp; done) | (simp [hc1, hc2]; done) | (simp; omega)
    | true =>
     have w := once_w1_31 q l.length (aQ l) (i : Int) P has last c true true R M 4 f1 n1 k1 f2 n2 k2 L1 L2 c1 o1 c2 o2
     simp only [Int.toNat_natCast, g0, g1, g2, toInt, toStr, isInt, isStr, wo] at w
     have w := w _ (s2) _ (m2)
     refine Gets.ends ?_ (nx none none c true true last has P f1 n1 k1 L1 f2 n2 k2 L2 R o1 c1 M o2 c2 _ _ (h))
     first | rw [ocH_00] | rw [ocH_10] | rw [ocH_01] | rw [ocH_11] | skip
     apply w
     all_goals first | assumption | exact trivial | rfl | omega | (simp; done) | (simp [hc1, hc2]; done) | (simp; omega)
   | false =>
    have w := once_w1_32 q l.length (aQ l) (i : Int) P has last c false t R M 4 f1 n1 k1 f2 n2 k2 L1 L2 c1 o1 c2 o2
    simp only [Int.toNat_natCast, g0, g1, g2, toInt, toStr, isInt, isStr, wo] at w
    have w := w _ (s2) _ (m2)
    refine Gets.ends ?_ (nx none none c false t last has P f1 n1 k1 L1 f2 n2 k2 L2 R o1 c1 M o2 c2 _ _ (h))
    first | rw [ocH_00] | rw [ocH_10] | rw [ocH_01] | rw [ocH_11] | skip
    apply w
    all_goals first | assumption | exact trivial | rfl | omega | (simp; done) | (simp [hc1, hc2]; done) | (simp; omega)
theorem once_act10 (hq : 1 ≤ q ∧ q ≤ 64) (hl : l.length ≤ 200) (hb : ∀ a ∈ l, (0 ≤ a.1 ∧ a.1 ≤ 255) ∧ (0 ≤ a.2.1 ∧ a.2.1 ≤ 255)) {i : Nat} {a : Act} (ha : l[i]? = some a)
  (nx : ∀ (p k : Option sT) (c e t : Bool) (last : Int) (has : Bool) (P : sT) (f1 n1 : Int) (k1 : Nat) (L1 : List Value) (f2 n2 : Int) (k2 : Nat) (L2 : List Value) (R : List Value) (o1 c1 : Nat) (M : List Value) (o2 c2 : Nat) (lr : List sT) (lm : List mT), OI q p k c e t last has P f1 n1 k1 L1 f2 n2 k2 L2 R o1 c1 M o2 c2 lr lm → AEnds E2 4 0 (ocH q l p k c e t last has P f1 n1 k1 L1 f2 n2 k2 L2 R o1 c1 M o2 c2 i) (.bool true) [])
  (x : sT) (c e t : Bool) (last : Int) (has : Bool) (P : sT) (f1 n1 : Int) (k1 : Nat) (L1 : List Value) (f2 n2 : Int) (k2 : Nat) (L2 : List Value) (R : List Value) (o1 c1 : Nat) (M : List Value) (o2 c2 : Nat) (lr : List sT) (lm : List mT) (h : OI q (some x) none c e t last has P f1 n1 k1 L1 f2 n2 k2 L2 R o1 c1 M o2 c2 lr lm) : AEnds E2 4 0 (once_h6 q l.length (aQ l) o1 o2 (i : Int) c1 c2 P has last c e t R M 4 f1 n1 k1 f2 n2 k2 x L1 L2) (.bool true) [] := by
 have hi := (List.getElem?_eq_some_iff.1 ha).1
 obtain ⟨g, g0, g1, g2⟩ := aQ_get ha
 obtain ⟨b1, b2⟩ := hb a (List.mem_of_getElem? ha)
 have hlen := aQ_len l
 have hR := h.r.flat
 have hM := h.w.flat
 have lR := h.r.len
 have lM := h.w.len
 obtain ⟨hc1, u1, u2⟩ := h.e1
 obtain ⟨hc2, u3, u4, u5⟩ := h.e2
 have sf := sR_flat h.s
 have mf := mR_flat h.m
 have sl := slen_in h.s
 have ml := mlen_in h.m
 have sc : spushc_pre 4 f1 n1 k1 L1 a.2.2 := ⟨_, h.s⟩
 have mc : mpushc_pre q f2 n2 k2 L2 3 a.2.1 a.2.2 := ⟨_, h.m⟩
 have ss : shut10_S0 4 f1 n1 k1 L1 q f2 n2 k2 L2 c e t x := by unfold shut10_S0; simp [sf, mf]
 have sh : shut10_t0 4 f1 n1 k1 L1 q f2 n2 k2 L2 c e t x = (c || e) := oshut_eq c e
 have wo : IntKind.i64.wrap a.2.1 = a.2.1 := wrap64_in (by omega) (by omega)
 by_cases a0 : a.1 = 0
 ·cases c with
  | true =>
   have w := once_w6_0 q l.length (aQ l) o1 o2 (i : Int) c1 c2 P has last true e t R M 4 f1 n1 k1 f2 n2 k2 x L1 L2
   simp only [Int.toNat_natCast, g0, g1, g2, toInt, toStr, isInt, isStr, wo] at w
   refine Gets.ends ?_ (nx (some x) none true e t last has P f1 n1 k1 L1 f2 n2 k2 L2 R o1 c1 M o2 c2 _ _ (h))
   first | rw [ocH_00] | rw [ocH_10] | rw [ocH_01] | rw [ocH_11] | skip
   apply w
   all_goals first | assumption | exact trivial | rfl | omega | (simp; done) | (simp [hc1, hc2]; done) | (simp; omega)
  | false =>
   cases e with
   | true =>
    have w := once_w6_1 q l.length (aQ l) o1 o2 (i : Int) c1 c2 P has last false true t R M 4 f1 n1 k1 f2 n2 k2 x L1 L2
    simp only [Int.toNat_natCast, g0, g1, g2, toInt, toStr, isInt, isStr, wo] at w
    refine Gets.ends ?_ (nx (some x) none false true t last has P f1 n1 k1 L1 f2 n2 k2 L2 R o1 c1 M o2 c2 _ _ (h))
    first | rw [ocH_00] | rw [ocH_10] | rw [ocH_01] | rw [ocH_11] | skip
    apply w
    all_goals first | assumption | exact trivial | rfl | omega | (simp; done) | (simp [hc1, hc2]; done) | (simp; omega)
   | false =>
    by_cases hn : n1 < 4
    ·obtain ⟨f1', n1', k1', L1', s2, s3⟩ := spush_in h.s a.2.2 hn
     have sf3 := sR_flat s3
     have hp1 := (h.reply a.2.2 s3).r.flat
     have w := once_w6_3 q l.length (aQ l) o1 o2 (i : Int) c1 c2 P has last false false t R M 4 f1 n1 k1 f2 n2 k2 x L1 L2
     simp only [Int.toNat_natCast, g0, g1, g2, toInt, toStr, isInt, isStr, wo] at w
     have w := w _ (s2)
     refine Gets.ends ?_ (nx (some x) none false false t last has P f1' n1' k1' L1' f2 n2 k2 L2 (List.take (c1 * 3) (List.drop o1 R) ++ [Value.int .i64 1, .int .i64 0, .string a.2.2]) 0 (c1 + 1) M o2 c2 _ _ (h.reply a.2.2 s3))
     first | rw [ocH_00] | rw [ocH_10] | rw [ocH_01] | rw [ocH_11] | skip
     apply w
     all_goals first | assumption | exact trivial | rfl | omega | (simp; done) | (simp [hc1, hc2]; done) | (simp; omega)
    ·have s2 := spush_full (first := f1) (ln := k1) (L := L1) a.2.2 (show (4 : Int) ≤ n1 by omega)
     have w := once_w6_2 q l.length (aQ l) o1 o2 (i : Int) c1 c2 P has last false false t R M 4 f1 n1 k1 f2 n2 k2 x L1 L2
     simp only [Int.toNat_natCast, g0, g1, g2, toInt, toStr, isInt, isStr, wo] at w
     have w := w _ (s2)
     refine Gets.ends ?_ (nx (some x) none false false t last has P f1 n1 k1 L1 f2 n2 k2 L2 R o1 c1 M o2 c2 _ _ (h))
     first | rw [ocH_00] | rw [ocH_10] | rw [ocH_01] | rw [ocH_11] | skip
     apply w
     all_goals first | assumption | exact trivial | rfl | omega | (simp; done) | (simp [hc1, hc2]; done) | (simp; omega)
 by_cases a1 : a.1 = 1
 ·have _ := a1
  cases c with
  | true =>
   have w := once_w6_4 q l.length (aQ l) o1 o2 (i : Int) c1 c2 P has last true e t R M 4 f1 n1 k1 f2 n2 k2 x L1 L2
   simp only [Int.toNat_natCast, g0, g1, g2, toInt, toStr, isInt, isStr, wo] at w
   refine Gets.ends ?_ (nx (some x) none true e t last has P f1 n1 k1 L1 f2 n2 k2 L2 R o1 c1 M o2 c2 _ _ (h))
   first | rw [ocH_00] | rw [ocH_10] | rw [ocH_01] | rw [ocH_11] | skip
   apply w
   all_goals first | assumption | exact trivial | rfl | omega | (simp; done) | (simp [hc1, hc2]; done) | (simp; omega)
  | false =>
   cases e with
   | true =>
    have w := once_w6_4 q l.length (aQ l) o1 o2 (i : Int) c1 c2 P has last false true t R M 4 f1 n1 k1 f2 n2 k2 x L1 L2
    simp only [Int.toNat_natCast, g0, g1, g2, toInt, toStr, isInt, isStr, wo] at w
    refine Gets.ends ?_ (nx (some x) none false true t last has P f1 n1 k1 L1 f2 n2 k2 L2 R o1 c1 M o2 c2 _ _ (h))
    first | rw [ocH_00] | rw [ocH_10] | rw [ocH_01] | rw [ocH_11] | skip
    apply w
    all_goals first | assumption | exact trivial | rfl | omega | (simp; done) | (simp [hc1, hc2]; done) | (simp; omega)
   | false =>
    have w := once_w6_5 q l.length (aQ l) o1 o2 (i : Int) c1 c2 P has last false false t R M 4 f1 n1 k1 f2 n2 k2 x L1 L2
    simp only [Int.toNat_natCast, g0, g1, g2, toInt, toStr, isInt, isStr, wo] at w
    refine Gets.ends ?_ (nx (some a.2.2) none false false t last true a.2.2 f1 n1 k1 L1 f2 n2 k2 L2 R o1 c1 M o2 c2 _ _ (h.pong a.2.2))
    first | rw [ocH_00] | rw [ocH_10] | rw [ocH_01] | rw [ocH_11] | skip
    apply w
    all_goals first | assumption | exact trivial | rfl | omega | (simp; done) | (simp [hc1, hc2]; done) | (simp; omega)
 by_cases a2 : a.1 = 2
 ·have _ := a2
  cases c with
  | true =>
   have w := once_w6_6 q l.length (aQ l) o1 o2 (i : Int) c1 c2 P has last true e t R M 4 f1 n1 k1 f2 n2 k2 x L1 L2
   simp only [Int.toNat_natCast, g0, g1, g2, toInt, toStr, isInt, isStr, wo] at w
   refine Gets.ends ?_ (nx (some x) none true e t last has P f1 n1 k1 L1 f2 n2 k2 L2 R o1 c1 M o2 c2 _ _ (h))
   first | rw [ocH_00] | rw [ocH_10] | rw [ocH_01] | rw [ocH_11] | skip
   apply w
   all_goals first | assumption | exact trivial | rfl | omega | (simp; done) | (simp [hc1, hc2]; done) | (simp; omega)
  | false =>
   cases e with
   | true =>
    have w := once_w6_6 q l.length (aQ l) o1 o2 (i : Int) c1 c2 P has last false true t R M 4 f1 n1 k1 f2 n2 k2 x L1 L2
    simp only [Int.toNat_natCast, g0, g1, g2, toInt, toStr, isInt, isStr, wo] at w
    refine Gets.ends ?_ (nx (some x) none false true t last has P f1 n1 k1 L1 f2 n2 k2 L2 R o1 c1 M o2 c2 _ _ (h))
    first | rw [ocH_00] | rw [ocH_10] | rw [ocH_01] | rw [ocH_11] | skip
    apply w
    all_goals first | assumption | exact trivial | rfl | omega | (simp; done) | (simp [hc1, hc2]; done) | (simp; omega)
   | false =>
    by_cases hn : n2 < q
    ·obtain ⟨f2', n2', k2', L2', m2, m3⟩ := mpush_in h.m (3, a.2.1, a.2.2) hn
     have mf3 := mR_flat m3
     have hp1 := (h.msg a.2.1 a.2.2 m3).w.flat
     have w := once_w6_8 q l.length (aQ l) o1 o2 (i : Int) c1 c2 P has last false false t R M 4 f1 n1 k1 f2 n2 k2 x L1 L2
     simp only [Int.toNat_natCast, g0, g1, g2, toInt, toStr, isInt, isStr, wo] at w
     have w := w _ (m2)
     refine Gets.ends ?_ (nx (some x) none false false t last has P f1 n1 k1 L1 f2' n2' k2' L2' R o1 c1 (List.take (c2 * 3) (List.drop o2 M) ++ [Value.int .i64 3, .int .i64 a.2.1, .string a.2.2]) 0 (c2 + 1) _ _ (h.msg a.2.1 a.2.2 m3))
     first | rw [ocH_00] | rw [ocH_10] | rw [ocH_01] | rw [ocH_11] | skip
     apply w
     all_goals first | assumption | exact trivial | rfl | omega | (simp; done) | (simp [hc1, hc2]; done) | (simp; omega)
    ·have m2 := mpush_full (first := f2) (ln := k2) (L := L2) (3, a.2.1, a.2.2) (show q ≤ n2 by omega)
     have w := once_w6_7 q l.length (aQ l) o1 o2 (i : Int) c1 c2 P has last false false t R M 4 f1 n1 k1 f2 n2 k2 x L1 L2
     simp only [Int.toNat_natCast, g0, g1, g2, toInt, toStr, isInt, isStr, wo] at w
     have w := w _ (m2)
     refine Gets.ends ?_ (nx (some x) none false false t last has P f1 n1 k1 L1 f2 n2 k2 L2 R o1 c1 M o2 c2 _ _ (h))
     first | rw [ocH_00] | rw [ocH_10] | rw [ocH_01] | rw [ocH_11] | skip
     apply w
     all_goals first | assumption | exact trivial | rfl | omega | (simp; done) | (simp [hc1, hc2]; done) | (simp; omega)
 by_cases a3 : a.1 = 3
 ·have _ := a3
  cases c with
  | true =>
   have w := once_w6_9 q l.length (aQ l) o1 o2 (i : Int) c1 c2 P has last true e t R M 4 f1 n1 k1 f2 n2 k2 x L1 L2
   simp only [Int.toNat_natCast, g0, g1, g2, toInt, toStr, isInt, isStr, wo] at w
   refine Gets.ends ?_ (nx (some x) none true e t last has P f1 n1 k1 L1 f2 n2 k2 L2 R o1 c1 M o2 c2 _ _ (h))
   first | rw [ocH_00] | rw [ocH_10] | rw [ocH_01] | rw [ocH_11] | skip
   apply w
   all_goals first | assumption | exact trivial | rfl | omega | (simp; done) | (simp [hc1, hc2]; done) | (simp; omega)
  | false =>
   cases e with
   | true =>
    have w := once_w6_9 q l.length (aQ l) o1 o2 (i : Int) c1 c2 P has last false true t R M 4 f1 n1 k1 f2 n2 k2 x L1 L2
    simp only [Int.toNat_natCast, g0, g1, g2, toInt, toStr, isInt, isStr, wo] at w
    refine Gets.ends ?_ (nx (some x) none false true t last has P f1 n1 k1 L1 f2 n2 k2 L2 R o1 c1 M o2 c2 _ _ (h))
    first | rw [ocH_00] | rw [ocH_10] | rw [ocH_01] | rw [ocH_11] | skip
    apply w
    all_goals first | assumption | exact trivial | rfl | omega | (simp; done) | (simp [hc1, hc2]; done) | (simp; omega)
   | false =>
    have w := once_w6_10 q l.length (aQ l) o1 o2 (i : Int) c1 c2 P has last false false t R M 4 f1 n1 k1 f2 n2 k2 x L1 L2
    simp only [Int.toNat_natCast, g0, g1, g2, toInt, toStr, isInt, isStr, wo] at w
    refine Gets.ends ?_ (nx (some x) (some a.2.2) true false t last has P f1 n1 k1 L1 f2 n2 k2 L2 R o1 c1 M o2 c2 _ _ (h.close a.2.2))
    first | rw [ocH_00] | rw [ocH_10] | rw [ocH_01] | rw [ocH_11] | skip
    apply w
    all_goals first | assumption | exact trivial | rfl | omega | (simp; done) | (simp [hc1, hc2]; done) | (simp; omega)
 by_cases a4 : a.1 = 4
 ·have _ := a4
  have w := once_w6_11 q l.length (aQ l) o1 o2 (i : Int) c1 c2 P has last c e t R M 4 f1 n1 k1 f2 n2 k2 x L1 L2
  simp only [Int.toNat_natCast, g0, g1, g2, toInt, toStr, isInt, isStr, wo] at w
  refine Gets.ends ?_ (nx (some x) none c true t last has P f1 n1 k1 L1 f2 n2 k2 L2 R o1 c1 M o2 c2 _ _ (h.endd))
  first | rw [ocH_00] | rw [ocH_10] | rw [ocH_01] | rw [ocH_11] | skip
  apply w
  all_goals first | assumption | exact trivial | rfl | omega | (simp; done) | (simp [hc1, hc2]; done) | (simp; omega)
 cases lr with
 | cons z lr =>
  have v4 : (last == 4) = false := by rw [beq_eq_false_iff_ne]; intro hl; have := h.l4 hl; simp at this
  have v5 : (last == 5) = false := by rw [beq_eq_false_iff_ne]; intro hl; have := h.l5 hl; simp at this
  obtain ⟨s1, f1', n1', L1', s2, s3⟩ := spop_cons h.s
  have sf3 := sR_flat s3
  have hr := h.r
  rw [List.map_cons] at hr
  obtain ⟨r0, r1, r2⟩ := hr.get
  simp only [oI] at r0 r1 r2
  have hz := h.r.num
  simp only [List.length_map, List.length_cons] at hz
  have w := once_w6_12 q l.length (aQ l) o1 o2 (i : Int) c1 c2 P has last c e t R M 4 f1 n1 k1 f2 n2 k2 x L1 L2
  simp only [Int.toNat_natCast, g0, g1, g2, toInt, toStr, isInt, isStr, wo, r0, r1, r2, toInt, toStr, isInt, isStr] at w
  have w := w _ (s2)
  refine Gets.ends ?_ (nx (some x) none c e t 1 has P f1' n1' k1 L1' f2 n2 k2 L2 R (o1 + 3) (c1 - 1) M o2 c2 _ _ (h.nreply s3))
  first | rw [ocH_00] | rw [ocH_10] | rw [ocH_01] | rw [ocH_11] | skip
  apply w
  all_goals first | assumption | exact trivial | rfl | omega | (simp; done) | (simp [hc1, hc2]; done) | (simp; omega)
 | nil =>
  obtain ⟨s1, s2⟩ := spop_nil h.s
  have hz := h.r.num
  simp only [List.map_nil, List.length_nil] at hz
  have v4 : (last == 4) = false := by rw [beq_eq_false_iff_ne]; intro hl; have := h.l4 hl; simp at this
  have v5 : (last == 5) = false := by rw [beq_eq_false_iff_ne]; intro hl; have := h.l5 hl; simp at this
  have hx : (toL x == toL P) = true := by rw [h.hP x rfl]; exact toL_self x
  have hh : has = true := h.hp
  have w := once_w6_14 q l.length (aQ l) o1 o2 (i : Int) c1 c2 P has last c e t R M 4 f1 n1 k1 f2 n2 k2 x L1 L2
  simp only [Int.toNat_natCast, g0, g1, g2, toInt, toStr, isInt, isStr, wo] at w
  have w := w _ (s2)
  refine Gets.ends ?_ (nx none none c e t 2 false P f1 n1 k1 L1 f2 n2 k2 L2 R o1 c1 M o2 c2 _ _ (h.npong))
  first | rw [ocH_00] | rw [ocH_10] | rw [ocH_01] | rw [ocH_11] | skip
  apply w
  all_goals first | assumption | exact trivial | rfl | omega | (simp; done) | (simp [hc1, hc2]; done) | (simp; omega)
theorem once_act01 (hq : 1 ≤ q ∧ q ≤ 64) (hl : l.length ≤ 200) (hb : ∀ a ∈ l, (0 ≤ a.1 ∧ a.1 ≤ 255) ∧ (0 ≤ a.2.1 ∧ a.2.1 ≤ 255)) {i : Nat} {a : Act} (ha : l[i]? = some a)
  (nx : ∀ (p k : Option sT) (c e t : Bool) (last : Int) (has : Bool) (P : sT) (f1 n1 : Int) (k1 : Nat) (L1 : List Value) (f2 n2 : Int) (k2 : Nat) (L2 : List Value) (R : List Value) (o1 c1 : Nat) (M : List Value) (o2 c2 : Nat) (lr : List sT) (lm : List mT), OI q p k c e t last has P f1 n1 k1 L1 f2 n2 k2 L2 R o1 c1 M o2 c2 lr lm → AEnds E2 4 0 (ocH q l p k c e t last has P f1 n1 k1 L1 f2 n2 k2 L2 R o1 c1 M o2 c2 i) (.bool true) [])
  (y : sT) (c e t : Bool) (last : Int) (has : Bool) (P : sT) (f1 n1 : Int) (k1 : Nat) (L1 : List Value) (f2 n2 : Int) (k2 : Nat) (L2 : List Value) (R : List Value) (o1 c1 : Nat) (M : List Value) (o2 c2 : Nat) (lr : List sT) (lm : List mT) (h : OI q none (some y) c e t last has P f1 n1 k1 L1 f2 n2 k2 L2 R o1 c1 M o2 c2 lr lm) : AEnds E2 4 0 (once_h7 q l.length (aQ l) o1 o2 (i : Int) c1 c2 P has last c e t R M 4 f1 n1 k1 f2 n2 k2 y L1 L2) (.bool true) [] := by
 have hi := (List.getElem?_eq_some_iff.1 ha).1
 obtain ⟨g, g0, g1, g2⟩ := aQ_get ha
 obtain ⟨b1, b2⟩ := hb a (List.mem_of_getElem? ha)
 have hlen := aQ_len l
 have hR := h.r.flat
 have hM := h.w.flat
 have lR := h.r.len
 have lM := h.w.len
 obtain ⟨hc1, u1, u2⟩ := h.e1
 obtain ⟨hc2, u3, u4, u5⟩ := h.e2
 have sf := sR_flat h.s
 have mf := mR_flat h.m
 have sl := slen_in h.s
 have ml := mlen_in h.m
 have sc : spushc_pre 4 f1 n1 k1 L1 a.2.2 := ⟨_, h.s⟩
 have mc : mpushc_pre q f2 n2 k2 L2 3 a.2.1 a.2.2 := ⟨_, h.m⟩
 have ss : shut01_S0 4 f1 n1 k1 L1 q f2 n2 k2 L2 c e t y := by unfold shut01_S0; simp [sf, mf]
 have sh : shut01_t0 4 f1 n1 k1 L1 q f2 n2 k2 L2 c e t y = (c || e) := oshut_eq c e
 have wo : IntKind.i64.wrap a.2.1 = a.2.1 := wrap64_in (by omega) (by omega)
 by_cases a0 : a.1 = 0
 ·cases c with
  | true =>
   have w := once_w7_0 q l.length (aQ l) o1 o2 (i : Int) c1 c2 P has last true e t R M 4 f1 n1 k1 f2 n2 k2 y L1 L2
   simp only [Int.toNat_natCast, g0, g1, g2, toInt, toStr, isInt, isStr, wo] at w
   refine Gets.ends ?_ (nx none (some y) true e t last has P f1 n1 k1 L1 f2 n2 k2 L2 R o1 c1 M o2 c2 _ _ (h))
   first | rw [ocH_00] | rw [ocH_10] | rw [ocH_01] | rw [ocH_11] | skip
   apply w
   all_goals first | assumption | exact trivial | rfl | omega | (simp; done) | (simp [hc1, hc2]; done) | (simp; omega)
  | false =>
   cases e with
   | true =>
    have w := once_w7_1 q l.length (aQ l) o1 o2 (i : Int) c1 c2 P has last false true t R M 4 f1 n1 k1 f2 n2 k2 y L1 L2
    simp only [Int.toNat_natCast, g0, g1, g2, toInt, toStr, isInt, isStr, wo] at w
    refine Gets.ends ?_ (nx none (some y) false true t last has P f1 n1 k1 L1 f2 n2 k2 L2 R o1 c1 M o2 c2 _ _ (h))
    first | rw [ocH_00] | rw [ocH_10] | rw [ocH_01] | rw [ocH_11] | skip
    apply w
    all_goals first | assumption | exact trivial | rfl | omega | (simp; done) | (simp [hc1, hc2]; done) | (simp; omega)
   | false =>
    by_cases hn : n1 < 4
    ·obtain ⟨f1', n1', k1', L1', s2, s3⟩ := spush_in h.s a.2.2 hn
     have sf3 := sR_flat s3
     have hp1 := (h.reply a.2.2 s3).r.flat
     have w := once_w7_3 q l.length (aQ l) o1 o2 (i : Int) c1 c2 P has last false false t R M 4 f1 n1 k1 f2 n2 k2 y L1 L2
     simp only [Int.toNat_natCast, g0, g1, g2, toInt, toStr, isInt, isStr, wo] at w
     have w := w _ (s2)
     refine Gets.ends ?_ (nx none (some y) false false t last has P f1' n1' k1' L1' f2 n2 k2 L2 (List.take (c1 * 3) (List.drop o1 R) ++ [Value.int .i64 1, .int .i64 0, .string a.2.2]) 0 (c1 + 1) M o2 c2 _ _ (h.reply a.2.2 s3))
     first | rw [ocH_00] | rw [ocH_10] | rw [ocH_01] | rw [ocH_11] | skip
     apply w
     all_goals first | assumption | exact trivial | rfl | omega | (simp; done) | (simp [hc1, hc2]; done) | (simp; omega)
    ·have s2 := spush_full (first := f1) (ln := k1) (L := L1) a.2.2 (show (4 : Int) ≤ n1 by omega)
     have w := once_w7_2 q l.length (aQ l) o1 o2 (i : Int) c1 c2 P has last false false t R M 4 f1 n1 k1 f2 n2 k2 y L1 L2
     simp only [Int.toNat_natCast, g0, g1, g2, toInt, toStr, isInt, isStr, wo] at w
     have w := w _ (s2)
     refine Gets.ends ?_ (nx none (some y) false false t last has P f1 n1 k1 L1 f2 n2 k2 L2 R o1 c1 M o2 c2 _ _ (h))
     first | rw [ocH_00] | rw [ocH_10] | rw [ocH_01] | rw [ocH_11] | skip
     apply w
     all_goals first | assumption | exact trivial | rfl | omega | (simp; done) | (simp [hc1, hc2]; done) | (simp; omega)
 by_cases a1 : a.1 = 1
 ·have _ := a1
  cases c with
  | true =>
   have w := once_w7_4 q l.length (aQ l) o1 o2 (i : Int) c1 c2 P has last true e t R M 4 f1 n1 k1 f2 n2 k2 y L1 L2
   simp only [Int.toNat_natCast, g0, g1, g2, toInt, toStr, isInt, isStr, wo] at w
   refine Gets.ends ?_ (nx none (some y) true e t last has P f1 n1 k1 L1 f2 n2 k2 L2 R o1 c1 M o2 c2 _ _ (h))
   first | rw [ocH_00] | rw [ocH_10] | rw [ocH_01] | rw [ocH_11] | skip
   apply w
   all_goals first | assumption | exact trivial | rfl | omega | (simp; done) | (simp [hc1, hc2]; done) | (simp; omega)
  | false =>
   cases e with
   | true =>
    have w := once_w7_4 q l.length (aQ l) o1 o2 (i : Int) c1 c2 P has last false true t R M 4 f1 n1 k1 f2 n2 k2 y L1 L2
    simp only [Int.toNat_natCast, g0, g1, g2, toInt, toStr, isInt, isStr, wo] at w
    refine Gets.ends ?_ (nx none (some y) false true t last has P f1 n1 k1 L1 f2 n2 k2 L2 R o1 c1 M o2 c2 _ _ (h))
    first | rw [ocH_00] | rw [ocH_10] | rw [ocH_01] | rw [ocH_11] | skip
    apply w
    all_goals first | assumption | exact trivial | rfl | omega | (simp; done) | (simp [hc1, hc2]; done) | (simp; omega)
   | false =>
    have w := once_w7_5 q l.length (aQ l) o1 o2 (i : Int) c1 c2 P has last false false t R M 4 f1 n1 k1 f2 n2 k2 y L1 L2
    simp only [Int.toNat_natCast, g0, g1, g2, toInt, toStr, isInt, isStr, wo] at w
    refine Gets.ends ?_ (nx (some a.2.2) (some y) false false t last true a.2.2 f1 n1 k1 L1 f2 n2 k2 L2 R o1 c1 M o2 c2 _ _ (h.pong a.2.2))
    first | rw [ocH_00] | rw [ocH_10] | rw [ocH_01] | rw [ocH_11] | skip
    apply w
    all_goals first | assumption | exact trivial | rfl | omega | (simp; done) | (simp [hc1, hc2]; done) | (simp; omega)
 by_cases a2 : a.1 = 2
 ·have _ := a2
  cases c with
  | true =>
   have w := once_w7_6 q l.length (aQ l) o1 o2 (i : Int) c1 c2 P has last true e t R M 4 f1 n1 k1 f2 n2 k2 y L1 L2
   simp only [Int.toNat_natCast, g0, g1, g2, toInt, toStr, isInt, isStr, wo] at w
   refine Gets.ends ?_ (nx none (some y) true e t last has P f1 n1 k1 L1 f2 n2 k2 L2 R o1 c1 M o2 c2 _ _ (h))
   first | rw [ocH_00] | rw [ocH_10] | rw [ocH_01] | rw [ocH_11] | skip
   apply w
   all_goals first | assumption | exact trivial | rfl | omega | (simp; done) | (simp [hc1, hc2]; done) | (simp; omega)
  | false =>
   cases e with
   | true =>
    have w := once_w7_6 q l.length (aQ l) o1 o2 (i : Int) c1 c2 P has last false true t R M 4 f1 n1 k1 f2 n2 k2 y L1 L2
    simp only [Int.toNat_natCast, g0, g1, g2, toInt, toStr, isInt, isStr, wo] at w
    refine Gets.ends ?_ (nx none (some y) false true t last has P f1 n1 k1 L1 f2 n2 k2 L2 R o1 c1 M o2 c2 _ _ (h))
    first | rw [ocH_00] | rw [ocH_10] | rw [ocH_01] | rw [ocH_11] | skip
    apply w
    all_goals first | assumption | exact trivial | rfl | omega | (simp; done) | (simp [hc1, hc2]; done) | (simp; omega)
   | false =>
    by_cases hn : n2 < q
    ·obtain ⟨f2', n2', k2', L2', m2, m3⟩ := mpush_in h.m (3, a.2.1, a.2.2) hn
     have mf3 := mR_flat m3
     have hp1 := (h.msg a.2.1 a.2.2 m3).w.flat
     have w := once_w7_8 q l.length (aQ l) o1 o2 (i : Int) c1 c2 P has last false false t R M 4 f1 n1 k1 f2 n2 k2 y L1 L2
     simp only [Int.toNat_natCast, g0, g1, g2, toInt, toStr, isInt, isStr, wo] at w
     have w := w _ (m2)
     refine Gets.ends ?_ (nx none (some y) false false t last has P f1 n1 k1 L1 f2' n2' k2' L2' R o1 c1 (List.take (c2 * 3) (List.drop o2 M) ++ [Value.int .i64 3, .int .i64 a.2.1, .string a.2.2]) 0 (c2 + 1) _ _ (h.msg a.2.1 a.2.2 m3))
     first | rw [ocH_00] | rw [ocH_10] | rw [ocH_01] | rw [ocH_11] | skip
     apply w
     all_goals first | assumption | exact trivial | rfl | omega | (simp; done) | (simp [hc1, hc2]; done) | (simp; omega)
    ·have m2 := mpush_full (first := f2) (ln := k2) (L := L2) (3, a.2.1, a.2.2) (show q ≤ n2 by omega)
     have w := once_w7_7 q l.length (aQ l) o1 o2 (i : Int) c1 c2 P has last false false t R M 4 f1 n1 k1 f2 n2 k2 y L1 L2
     simp only [Int.toNat_natCast, g0, g1, g2, toInt, toStr, isInt, isStr, wo] at w
     have w := w _ (m2)
     refine Gets.ends ?_ (nx none (some y) false false t last has P f1 n1 k1 L1 f2 n2 k2 L2 R o1 c1 M o2 c2 _ _ (h))
     first | rw [ocH_00] | rw [ocH_10] | rw [ocH_01] | rw [ocH_11] | skip
     apply w
     all_goals first | assumption | exact trivial | rfl | omega | (simp; done) | (simp [hc1, hc2]; done) | (simp; omega)
 by_cases a3 : a.1 = 3
 ·have _ := a3
  cases c with
  | true =>
   have w := once_w7_9 q l.length (aQ l) o1 o2 (i : Int) c1 c2 P has last true e t R M 4 f1 n1 k1 f2 n2 k2 y L1 L2
   simp only [Int.toNat_natCast, g0, g1, g2, toInt, toStr, isInt, isStr, wo] at w
   refine Gets.ends ?_ (nx none (some y) true e t last has P f1 n1 k1 L1 f2 n2 k2 L2 R o1 c1 M o2 c2 _ _ (h))
   first | rw [ocH_00] | rw [ocH_10] | rw [ocH_01] | rw [ocH_11] | skip
   apply w
   all_goals first | assumption | exact trivial | rfl | omega | (simp; done) | (simp [hc1, hc2]; done) | (simp; omega)
  | false =>
   cases e with
   | true =>
    have w := once_w7_9 q l.length (aQ l) o1 o2 (i : Int) c1 c2 P has last false true t R M 4 f1 n1 k1 f2 n2 k2 y L1 L2
    simp only [Int.toNat_natCast, g0, g1, g2, toInt, toStr, isInt, isStr, wo] at w
    refine Gets.ends ?_ (nx none (some y) false true t last has P f1 n1 k1 L1 f2 n2 k2 L2 R o1 c1 M o2 c2 _ _ (h))
    first | rw [ocH_00] | rw [ocH_10] | rw [ocH_01] | rw [ocH_11] | skip
    apply w
    all_goals first | assumption | exact trivial | rfl | omega | (simp; done) | (simp [hc1, hc2]; done) | (simp; omega)
   | false =>
    exact absurd (h.kc rfl) (by simp)
 by_cases a4 : a.1 = 4
 ·have _ := a4
  have w := once_w7_11 q l.length (aQ l) o1 o2 (i : Int) c1 c2 P has last c e t R M 4 f1 n1 k1 f2 n2 k2 y L1 L2
  simp only [Int.toNat_natCast, g0, g1, g2, toInt, toStr, isInt, isStr, wo] at w
  refine Gets.ends ?_ (nx none (some y) c true t last has P f1 n1 k1 L1 f2 n2 k2 L2 R o1 c1 M o2 c2 _ _ (h.endd))
  first | rw [ocH_00] | rw [ocH_10] | rw [ocH_01] | rw [ocH_11] | skip
  apply w
  all_goals first | assumption | exact trivial | rfl | omega | (simp; done) | (simp [hc1, hc2]; done) | (simp; omega)
 cases lr with
 | cons z lr =>
  have v4 : (last == 4) = false := by rw [beq_eq_false_iff_ne]; intro hl; have := h.l4 hl; simp at this
  have v5 : (last == 5) = false := by rw [beq_eq_false_iff_ne]; intro hl; have := h.l5 hl; simp at this
  obtain ⟨s1, f1', n1', L1', s2, s3⟩ := spop_cons h.s
  have sf3 := sR_flat s3
  have hr := h.r
  rw [List.map_cons] at hr
  obtain ⟨r0, r1, r2⟩ := hr.get
  simp only [oI] at r0 r1 r2
  have hz := h.r.num
  simp only [List.length_map, List.length_cons] at hz
  have w := once_w7_12 q l.length (aQ l) o1 o2 (i : Int) c1 c2 P has last c e t R M 4 f1 n1 k1 f2 n2 k2 y L1 L2
  simp only [Int.toNat_natCast, g0, g1, g2, toInt, toStr, isInt, isStr, wo, r0, r1, r2, toInt, toStr, isInt, isStr] at w
  have w := w _ (s2)
  refine Gets.ends ?_ (nx none (some y) c e t 1 has P f1' n1' k1 L1' f2 n2 k2 L2 R (o1 + 3) (c1 - 1) M o2 c2 _ _ (h.nreply s3))
  first | rw [ocH_00] | rw [ocH_10] | rw [ocH_01] | rw [ocH_11] | skip
  apply w
  all_goals first | assumption | exact trivial | rfl | omega | (simp; done) | (simp [hc1, hc2]; done) | (simp; omega)
 | nil =>
  obtain ⟨s1, s2⟩ := spop_nil h.s
  have hz := h.r.num
  simp only [List.map_nil, List.length_nil] at hz
  have hh : has = false := h.hp
  cases lm with
  | cons z lm =>
   have v4 : (last == 4) = false := by rw [beq_eq_false_iff_ne]; intro hl; have := h.l4 hl; simp at this
   have v5 : (last == 5) = false := by rw [beq_eq_false_iff_ne]; intro hl; have := h.l5 hl; simp at this
   obtain ⟨m1, f2', n2', L2', m2, m3⟩ := mpop_cons h.m
   have mf3 := mR_flat m3
   have h3 := h.m3 z List.mem_cons_self
   obtain ⟨zk, zo, zs⟩ := z
   simp only at h3
   subst h3
   obtain ⟨r0, r1, r2⟩ := h.w.get
   simp only at r0 r1 r2
   have hy := h.w.num
   simp only [List.length_cons] at hy
   have w := once_w7_24 q l.length (aQ l) o1 o2 (i : Int) c1 c2 P has last c e t R M 4 f1 n1 k1 f2 n2 k2 y L1 L2
   simp only [Int.toNat_natCast, g0, g1, g2, toInt, toStr, isInt, isStr, wo, r0, r1, r2, toInt, toStr, isInt, isStr] at w
   have w := w _ (s2) _ (m2)
   refine Gets.ends ?_ (nx none (some y) c e t 3 has P f1 n1 k1 L1 f2' n2' k2 L2' R o1 c1 M (o2 + 3) (c2 - 1) _ _ (h.nmsg m3))
   first | rw [ocH_00] | rw [ocH_10] | rw [ocH_01] | rw [ocH_11] | skip
   apply w
   all_goals first | assumption | exact trivial | rfl | omega | (simp; done) | (simp [hc1, hc2]; done) | (simp; omega)
  | nil =>
   obtain ⟨m1, m2⟩ := mpop_nil h.m
   have hy := h.w.num
   simp only [List.length_nil] at hy
   have v4 : (last == 4) = false := by rw [beq_eq_false_iff_ne]; intro hl; have := h.l4 hl; simp at this
   have v5 : (last == 5) = false := by rw [beq_eq_false_iff_ne]; intro hl; have := h.l5 hl; simp at this
   have w := once_w7_29 q l.length (aQ l) o1 o2 (i : Int) c1 c2 P has last c e t R M 4 f1 n1 k1 f2 n2 k2 y L1 L2
   simp only [Int.toNat_natCast, g0, g1, g2, toInt, toStr, isInt, isStr, wo] at w
   have w := w _ (s2) _ (m2)
   refine Gets.ends ?_ (nx none none c e t 4 has P f1 n1 k1 L1 f2 n2 k2 L2 R o1 c1 M o2 c2 _ _ (h.nclose))
   first | rw [ocH_00] | rw [ocH_10] | rw [ocH_01] | rw [ocH_11] | skip
   apply w
   all_goals first | assumption | exact trivial | rfl | omega | (simp; done) | (simp [hc1, hc2]; done) | (simp; omega)
theorem once_act11 (hq : 1 ≤ q ∧ q ≤ 64) (hl : l.length ≤ 200) (hb : ∀ a ∈ l, (0 ≤ a.1 ∧ a.1 ≤ 255) ∧ (0 ≤ a.2.1 ∧ a.2.1 ≤ 255)) {i : Nat} {a : Act} (ha : l[i]? = some a)
  (nx : ∀ (p k : Option sT) (c e t : Bool) (last : Int) (has : Bool) (P : sT) (f1 n1 : Int) (k1 : Nat) (L1 : List Value) (f2 n2 : Int) (k2 : Nat) (L2 : List Value) (R : List Value) (o1 c1 : Nat) (M : List Value) (o2 c2 : Nat) (lr : List sT) (lm : List mT), OI q p k c e t last has P f1 n1 k1 L1 f2 n2 k2 L2 R o1 c1 M o2 c2 lr lm → AEnds E2 4 0 (ocH q l p k c e t last has P f1 n1 k1 L1 f2 n2 k2 L2 R o1 c1 M o2 c2 i) (.bool true) [])
  (x y : sT) (c e t : Bool) (last : Int) (has : Bool) (P : sT) (f1 n1 : Int) (k1 : Nat) (L1 : List Value) (f2 n2 : Int) (k2 : Nat) (L2 : List Value) (R : List Value) (o1 c1 : Nat) (M : List Value) (o2 c2 : Nat) (lr : List sT) (lm : List mT) (h : OI q (some x) (some y) c e t last has P f1 n1 k1 L1 f2 n2 k2 L2 R o1 c1 M o2 c2 lr lm) : AEnds E2 4 0 (once_h12 q l.length (aQ l) o1 o2 (i : Int) c1 c2 P has last c e t R M 4 f1 n1 k1 f2 n2 k2 x y L1 L2) (.bool true) [] := by
 have hi := (List.getElem?_eq_some_iff.1 ha).1
 obtain ⟨g, g0, g1, g2⟩ := aQ_get ha
 obtain ⟨b1, b2⟩ := hb a (List.mem_of_getElem? ha)
 have hlen := aQ_len l
 have hR := h.r.flat
 have hM := h.w.flat
 have lR := h.r.len
 have lM := h.w.len
 obtain ⟨hc1, u1, u2⟩ := h.e1
 obtain ⟨hc2, u3, u4, u5⟩ := h.e2
 have sf := sR_flat h.s
 have mf := mR_flat h.m
 have sl := slen_in h.s
 have ml := mlen_in h.m
 have sc : spushc_pre 4 f1 n1 k1 L1 a.2.2 := ⟨_, h.s⟩
 have mc : mpushc_pre q f2 n2 k2 L2 3 a.2.1 a.2.2 := ⟨_, h.m⟩
 have ss : shut11_S0 4 f1 n1 k1 L1 q f2 n2 k2 L2 c e t x y := by unfold shut11_S0; simp [sf, mf]
 have sh : shut11_t0 4 f1 n1 k1 L1 q f2 n2 k2 L2 c e t x y = (c || e) := oshut_eq c e
 have wo : IntKind.i64.wrap a.2.1 = a.2.1 := wrap64_in (by omega) (by omega)
 by_cases a0 : a.1 = 0
 ·cases c with
  | true =>
   have w := once_w12_0 q l.length (aQ l) o1 o2 (i : Int) c1 c2 P has last true e t R M 4 f1 n1 k1 f2 n2 k2 x y L1 L2
   simp only [Int.toNat_natCast, g0, g1, g2, toInt, toStr, isInt, isStr, wo] at w
   refine Gets.ends ?_ (nx (some x) (some y) true e t last has P f1 n1 k1 L1 f2 n2 k2 L2 R o1 c1 M o2 c2 _ _ (h))
   first | rw [ocH_00] | rw [ocH_10] | rw [ocH_01] | rw [ocH_11] | skip
   apply w
   all_goals first | assumption | exact trivial | rfl | omega | (simp; done) | (simp [hc1, hc2]; done) | (simp; omega)
  | false =>
   cases e with
   | true =>
    have w := once_w12_1 q l.length (aQ l) o1 o2 (i : Int) c1 c2 P has last false true t R M 4 f1 n1 k1 f2 n2 k2 x y L1 L2
    simp only [Int.toNat_natCast, g0, g1, g2, toInt, toStr, isInt, isStr, wo] at w
    refine Gets.ends ?_ (nx (some x) (some y) false true t last has P f1 n1 k1 L1 f2 n2 k2 L2 R o1 c1 M o2 c2 _ _ (h))
    first | rw [ocH_00] | rw [ocH_10] | rw [ocH_01] | rw [ocH_11] | skip
    apply w
    all_goals first | assumption | exact trivial | rfl | omega | (simp; done) | (simp [hc1, hc2]; done) | (simp; omega)
   | false =>
    by_cases hn : n1 < 4
    ·obtain ⟨f1', n1', k1', L1', s2, s3⟩ := spush_in h.s a.2.2 hn
     have sf3 := sR_flat s3
     have hp1 := (h.reply a.2.2 s3).r.flat
     have w := once_w12_3 q l.length (aQ l) o1 o2 (i : Int) c1 c2 P has last false false t R M 4 f1 n1 k1 f2 n2 k2 x y L1 L2
     simp only [Int.toNat_natCast, g0, g1, g2, toInt, toStr, isInt, isStr, wo] at w
     have w := w _ (s2)
     refine Gets.ends ?_ (nx (some x) (some y) false false t last has P f1' n1' k1' L1' f2 n2 k2 L2 (List.take (c1 * 3) (List.drop o1 R) ++ [Value.int .i64 1, .int .i64 0, .string a.2.2]) 0 (c1 + 1) M o2 c2 _ _ (h.reply a.2.2 s3))
     first | rw [ocH_00] | rw [ocH_10] | rw [ocH_01] | rw [ocH_11] | skip
     apply w
     all_goals first | assumption | exact trivial | rfl | omega | (simp; done) | (simp [hc1, hc2]; done) | (simp; omega)
    ·have s2 := spush_full (first := f1) (ln := k1) (L := L1) a.2.2 (show (4 : Int) ≤ n1 by omega)
     have w := once_w12_2 q l.length (aQ l) o1 o2 (i : Int) c1 c2 P has last false false t R M 4 f1 n1 k1 f2 n2 k2 x y L1 L2
     simp only [Int.toNat_natCast, g0, g1, g2, toInt, toStr, isInt, isStr, wo] at w
     have w := w _ (s2)
     refine Gets.ends ?_ (nx (some x) (some y) false false t last has P f1 n1 k1 L1 f2 n2 k2 L2 R o1 c1 M o2 c2 _ _ (h))
     first | rw [ocH_00] | rw [ocH_10] | rw [ocH_01] | rw [ocH_11] | skip
     apply w
     all_goals first | assumption | exact trivial | rfl | omega | (simp; done) | (simp [hc1, hc2]; done) | (simp; omega)
 by_cases a1 : a.1 = 1
 ·have _ := a1
  cases c with
  | true =>
   have w := once_w12_4 q l.length (aQ l) o1 o2 (i : Int) c1 c2 P has last true e t R M 4 f1 n1 k1 f2 n2 k2 x y L1 L2
   simp only [Int.toNat_natCast, g0, g1, g2, toInt, toStr, isInt, isStr, wo] at w
   refine Gets.ends ?_ (nx (some x) (some y) true e t last has P f1 n1 k1 L1 f2 n2 k2 L2 R o1 c1 M o2 c2 _ _ (h))
   first | rw [ocH_00] | rw [ocH_10] | rw [ocH_01] | rw [ocH_11] | skip
   apply w
   all_goals first | assumption | exact trivial | rfl | omega | (simp; done) | (simp [hc1, hc2]; done) | (simp; omega)
  | false =>
   cases e with
   | true =>
    have w := once_w12_4 q l.length (aQ l) o1 o2 (i : Int) c1 c2 P has last false true t R M 4 f1 n1 k1 f2 n2 k2 x y L1 L2
    simp only [Int.toNat_natCast, g0, g1, g2, toInt, toStr, isInt, isStr, wo] at w
    refine Gets.ends ?_ (nx (some x) (some y) false true t last has P f1 n1 k1 L1 f2 n2 k2 L2 R o1 c1 M o2 c2 _ _ (h))
    first | rw [ocH_00] | rw [ocH_10] | rw [ocH_01] | rw [ocH_11] | skip
    apply w
    all_goals first | assumption | exact trivial | rfl | omega | (simp; done) | (simp [hc1, hc2]; done) | (simp; omega)
   | false =>
    have w := once_w12_5 q l.length (aQ l) o1 o2 (i : Int) c1 c2 P has last false false t R M 4 f1 n1 k1 f2 n2 k2 x y L1 L2
    simp only [Int.toNat_natCast, g0, g1, g2, toInt, toStr, isInt, isStr, wo] at w
    refine Gets.ends ?_ (nx (some a.2.2) (some y) false false t last true a.2.2 f1 n1 k1 L1 f2 n2 k2 L2 R o1 c1 M o2 c2 _ _ (h.pong a.2.2))
    first | rw [ocH_00] | rw [ocH_10] | rw [ocH_01] | rw [ocH_11] | skip
    apply w
    all_goals first | assumption | exact trivial | rfl | omega | (simp; done) | (simp [hc1, hc2]; done) | (simp; omega)
 by_cases a2 : a.1 = 2
 ·have _ := a2
  cases c with
  | true =>
   have w := once_w12_6 q l.length (aQ l) o1 o2 (i : Int) c1 c2 P has last true e t R M 4 f1 n1 k1 f2 n2 k2 x y L1 L2
   simp only [Int.toNat_natCast, g0, g1, g2, toInt, toStr, isInt, isStr, wo] at w
   refine Gets.ends ?_ (nx (some x) (some y) true e t last has P f1 n1 k1 L1 f2 n2 k2 L2 R o1 c1 M o2 c2 _ _ (h))
   first | rw [ocH_00] | rw [ocH_10] | rw [ocH_01] | rw [ocH_11] | skip
   apply w
   all_goals first | assumption | exact trivial | rfl | omega | (simp; done) | (simp [hc1, hc2]; done) | (simp; omega)
  | false =>
   cases e with
   | true =>
    have w := once_w12_6 q l.length (aQ l) o1 o2 (i : Int) c1 c2 P has last false true t R M 4 f1 n1 k1 f2 n2 k2 x y L1 L2
    simp only [Int.toNat_natCast, g0, g1, g2, toInt, toStr, isInt, isStr, wo] at w
    refine Gets.ends ?_ (nx (some x) (some y) false true t last has P f1 n1 k1 L1 f2 n2 k2 L2 R o1 c1 M o2 c2 _ _ (h))
    first | rw [ocH_00] | rw [ocH_10] | rw [ocH_01] | rw [ocH_11] | skip
    apply w
    all_goals first | assumption | exact trivial | rfl | omega | (simp; done) | (simp [hc1, hc2]; done) | (simp; omega)
   | false =>
    by_cases hn : n2 < q
    ·obtain ⟨f2', n2', k2', L2', m2, m3⟩ := mpush_in h.m (3, a.2.1, a.2.2) hn
     have mf3 := mR_flat m3
     have hp1 := (h.msg a.2.1 a.2.2 m3).w.flat
     have w := once_w12_8 q l.length (aQ l) o1 o2 (i : Int) c1 c2 P has last false false t R M 4 f1 n1 k1 f2 n2 k2 x y L1 L2
     simp only [Int.toNat_natCast, g0, g1, g2, toInt, toStr, isInt, isStr, wo] at w
     have w := w _ (m2)
     refine Gets.ends ?_ (nx (some x) (some y) false false t last has P f1 n1 k1 L1 f2' n2' k2' L2' R o1 c1 (List.take (c2 * 3) (List.drop o2 M) ++ [Value.int .i64 3, .int .i64 a.2.1, .string a.2.2]) 0 (c2 + 1) _ _ (h.msg a.2.1 a.2.2 m3))
     first | rw [ocH_00] | rw [ocH_10] | rw [ocH_01] | rw [ocH_11] | skip
     apply w
     all_goals first | assumption | exact trivial | rfl | omega | (simp; done) | (simp [hc1, hc2]; done) | (simp; omega)
    ·have m2 := mpush_full (first := f2) (ln := k2) (L := L2) (3, a.2.1, a.2.2) (show q ≤ n2 by omega)
     have w := once_w12_7 q l.length (aQ l) o1 o2 (i : Int) c1 c2 P has last false false t R M 4 f1 n1 k1 f2 n2 k2 x y L1 L2
     simp only [Int.toNat_natCast, g0, g1, g2, toInt, toStr, isInt, isStr, wo] at w
     have w := w _ (m2)
     refine Gets.ends ?_ (nx (some x) (some y) false false t last has P f1 n1 k1 L1 f2 n2 k2 L2 R o1 c1 M o2 c2 _ _ (h))
     first | rw [ocH_00] | rw [ocH_10] | rw [ocH_01] | rw [ocH_11] | skip
     apply w
     all_goals first | assumption | exact trivial | rfl | omega | (simp; done) | (simp [hc1, hc2]; done) | (simp; omega)
 by_cases a3 : a.1 = 3
 ·have _ := a3
  cases c with
  | true =>
   have w := once_w12_9 q l.length (aQ l) o1 o2 (i : Int) c1 c2 P has last true e t R M 4 f1 n1 k1 f2 n2 k2 x y L1 L2
   simp only [Int.toNat_natCast, g0, g1, g2, toInt, toStr, isInt, isStr, wo] at w
   refine Gets.ends ?_ (nx (some x) (some y) true e t last has P f1 n1 k1 L1 f2 n2 k2 L2 R o1 c1 M o2 c2 _ _ (h))
   first | rw [ocH_00] | rw [ocH_10] | rw [ocH_01] | rw [ocH_11] | skip
   apply w
   all_goals first | assumption | exact trivial | rfl | omega | (simp; done) | (simp [hc1, hc2]; done) | (simp; omega)
  | false =>
   cases e with
   | true =>
    have w := once_w12_9 q l.length (aQ l) o1 o2 (i : Int) c1 c2 P has last false true t R M 4 f1 n1 k1 f2 n2 k2 x y L1 L2
    simp only [Int.toNat_natCast, g0, g1, g2, toInt, toStr, isInt, isStr, wo] at w
    refine Gets.ends ?_ (nx (some x) (some y) false true t last has P f1 n1 k1 L1 f2 n2 k2 L2 R o1 c1 M o2 c2 _ _ (h))
    first | rw [ocH_00] | rw [ocH_10] | rw [ocH_01] | rw [ocH_11] | skip
    apply w
    all_goals first | assumption | exact trivial | rfl | omega | (simp; done) | (simp [hc1, hc2]; done) | (simp; omega)
   | false =>
    exact absurd (h.kc rfl) (by simp)
 by_cases a4 : a.1 = 4
 ·have _ := a4
  have w := once_w12_11 q l.length (aQ l) o1 o2 (i : Int) c1 c2 P has last c e t R M 4 f1 n1 k1 f2 n2 k2 x y L1 L2
  simp only [Int.toNat_natCast, g0, g1, g2, toInt, toStr, isInt, isStr, wo] at w
  refine Gets.ends ?_ (nx (some x) (some y) c true t last has P f1 n1 k1 L1 f2 n2 k2 L2 R o1 c1 M o2 c2 _ _ (h.endd))
  first | rw [ocH_00] | rw [ocH_10] | rw [ocH_01] | rw [ocH_11] | skip
  apply w
  all_goals first | assumption | exact trivial | rfl | omega | (simp; done) | (simp [hc1, hc2]; done) | (simp; omega)
 cases lr with
 | cons z lr =>
  have v4 : (last == 4) = false := by rw [beq_eq_false_iff_ne]; intro hl; have := h.l4 hl; simp at this
  have v5 : (last == 5) = false := by rw [beq_eq_false_iff_ne]; intro hl; have := h.l5 hl; simp at this
  obtain ⟨s1, f1', n1', L1', s2, s3⟩ := spop_cons h.s
  have sf3 := sR_flat s3
  have hr := h.r
  rw [List.map_cons] at hr
  obtain ⟨r0, r1, r2⟩ := hr.get
  simp only [oI] at r0 r1 r2
  have hz := h.r.num
  simp only [List.length_map, List.length_cons] at hz
  have w := once_w12_12 q l.length (aQ l) o1 o2 (i : Int) c1 c2 P has last c e t R M 4 f1 n1 k1 f2 n2 k2 x y L1 L2
  simp only [Int.toNat_natCast, g0, g1, g2, toInt, toStr, isInt, isStr, wo, r0, r1, r2, toInt, toStr, isInt, isStr] at w
  have w := w _ (s2)
  refine Gets.ends ?_ (nx (some x) (some y) c e t 1 has P f1' n1' k1 L1' f2 n2 k2 L2 R (o1 + 3) (c1 - 1) M o2 c2 _ _ (h.nreply s3))
  first | rw [ocH_00] | rw [ocH_10] | rw [ocH_01] | rw [ocH_11] | skip
  apply w
  all_goals first | assumption | exact trivial | rfl | omega | (simp; done) | (simp [hc1, hc2]; done) | (simp; omega)
 | nil =>
  obtain ⟨s1, s2⟩ := spop_nil h.s
  have hz := h.r.num
  simp only [List.map_nil, List.length_nil] at hz
  have v4 : (last == 4) = false := by rw [beq_eq_false_iff_ne]; intro hl; have := h.l4 hl; simp at this
  have v5 : (last == 5) = false := by rw [beq_eq_false_iff_ne]; intro hl; have := h.l5 hl; simp at this
  have hx : (toL x == toL P) = true := by rw [h.hP x rfl]; exact toL_self x
  have hh : has = true := h.hp
  have w := once_w12_14 q l.length (aQ l) o1 o2 (i : Int) c1 c2 P has last c e t R M 4 f1 n1 k1 f2 n2 k2 x y L1 L2
  simp only [Int.toNat_natCast, g0, g1, g2, toInt, toStr, isInt, isStr, wo] at w
  have w := w _ (s2)
  refine Gets.ends ?_ (nx none (some y) c e t 2 false P f1 n1 k1 L1 f2 n2 k2 L2 R o1 c1 M o2 c2 _ _ (h.npong))
  first | rw [ocH_00] | rw [ocH_10] | rw [ocH_01] | rw [ocH_11] | skip
  apply w
  all_goals first | assumption | exact trivial | rfl | omega | (simp; done) | (simp [hc1, hc2]; done) | (simp; omega)
theorem once_fin00 {i : Nat} (hi : i < 80) (c e t : Bool) (last : Int) (has : Bool) (P : sT) (f1 n1 : Int) (k1 : Nat) (L1 : List Value) (f2 n2 : Int) (k2 : Nat) (L2 R : List Value) (o1 c1 : Nat) (M : List Value) (o2 c2 : Nat) (lr : List sT) (lm : List mT) (h : OI q none none c e t last has P f1 n1 k1 L1 f2 n2 k2 L2 R o1 c1 M o2 c2 lr lm) (hm : 0 < oN none none e t lr lm)
  (nx : ∀ (p' k' : Option sT) (c' e' t' : Bool) (last' : Int) (has' : Bool) (P' : sT) (f1' n1' : Int) (k1' : Nat) (L1' : List Value) (f2' n2' : Int) (k2' : Nat) (L2' : List Value) (R' : List Value) (o1' c1' : Nat) (M' : List Value) (o2' c2' : Nat) (lr' : List sT) (lm' : List mT), OI q p' k' c' e' t' last' has' P' f1' n1' k1' L1' f2' n2' k2' L2' R' o1' c1' M' o2' c2' lr' lm' → oN p' k' e' t' lr' lm' + 1 = oN none none e t lr lm → AEnds E2 4 0 (ofH q l p' k' c' e' t' last' has' P' f1' n1' k1' L1' f2' n2' k2' L2' R' o1' c1' M' o2' c2' (i + 1)) (.bool true) []) : AEnds E2 4 0 (once_h5 q l.length (aQ l) o1 o2 (i : Int) c1 c2 has last P c e t R M 4 f1 n1 k1 f2 n2 k2 L1 L2) (.bool true) [] := by
 have hR := h.r.flat
 have hM := h.w.flat
 have lR := h.r.len
 have lM := h.w.len
 obtain ⟨hc1, u1, u2⟩ := h.e1
 obtain ⟨hc2, u3, u4, u5⟩ := h.e2
 have sf := sR_flat h.s
 have mf := mR_flat h.m
 have sl := slen_in h.s
 have ml := mlen_in h.m
 have ws : waits00_S0 4 f1 n1 k1 L1 q f2 n2 k2 L2 c e t := by unfold waits00_S0; simp [sf, mf, sl, ml]
 have wt := owaits00 h
 rw [decide_eq_true hm] at wt
 have hi8 : decide ((i : Int) < 80) = true := decide_eq_true (by omega)
 have w := once_w5_0 q l.length (aQ l) o1 o2 (i : Int) c1 c2 has last P c e t R M 4 f1 n1 k1 f2 n2 k2 L1 L2
 refine Gets.ends (by apply w; all_goals first | assumption | exact trivial | rfl | omega | (simp; done) | (simp [hc1, hc2]; done) | (simp; omega)) ?_
 clear w
 cases lr with
 | cons z lr =>
  have v4 : (last == 4) = false := by rw [beq_eq_false_iff_ne]; intro hl; have := h.l4 hl; simp at this
  have v5 : (last == 5) = false := by rw [beq_eq_false_iff_ne]; intro hl; have := h.l5 hl; simp at this
  obtain ⟨s1, f1', n1', L1', s2, s3⟩ := spop_cons h.s
  have sf3 := sR_flat s3
  have hr := h.r
  rw [List.map_cons] at hr
  obtain ⟨r0, r1, r2⟩ := hr.get
  simp only [oI] at r0 r1 r2
  have hz := h.r.num
  simp only [List.length_map, List.length_cons] at hz
  have w := once_w8_0 q l.length (aQ l) o1 o2 (i : Int) c1 c2 has last P c e t R M 4 f1 n1 k1 f2 n2 k2 L1 L2
  simp only [owr (show i ≤ 1000 by omega), r0, r1, r2, toInt, toStr, isInt, isStr] at w
  have w := w _ (s2)
  refine Gets.ends ?_ (nx none none c e t 1 has P f1' n1' k1 L1' f2 n2 k2 L2 R (o1 + 3) (c1 - 1) M o2 c2 _ _ (h.nreply s3) (by unfold oN; simp [Bool.cond_eq_ite]; try omega))
  first | rw [ofH_00] | rw [ofH_10] | rw [ofH_01] | rw [ofH_11] | skip
  apply w
  all_goals first | assumption | exact trivial | rfl | omega | (simp; done) | (simp [hc1, hc2]; done) | (simp; omega)
 | nil =>
  obtain ⟨s1, s2⟩ := spop_nil h.s
  have hz := h.r.num
  simp only [List.map_nil, List.length_nil] at hz
  have hh : has = false := h.hp
  cases lm with
  | cons z lm =>
   have v4 : (last == 4) = false := by rw [beq_eq_false_iff_ne]; intro hl; have := h.l4 hl; simp at this
   have v5 : (last == 5) = false := by rw [beq_eq_false_iff_ne]; intro hl; have := h.l5 hl; simp at this
   obtain ⟨m1, f2', n2', L2', m2, m3⟩ := mpop_cons h.m
   have mf3 := mR_flat m3
   have h3 := h.m3 z List.mem_cons_self
   obtain ⟨zk, zo, zs⟩ := z
   simp only at h3
   subst h3
   obtain ⟨r0, r1, r2⟩ := h.w.get
   simp only at r0 r1 r2
   have hy := h.w.num
   simp only [List.length_cons] at hy
   have w := once_w8_12 q l.length (aQ l) o1 o2 (i : Int) c1 c2 has last P c e t R M 4 f1 n1 k1 f2 n2 k2 L1 L2
   simp only [owr (show i ≤ 1000 by omega), r0, r1, r2, toInt, toStr, isInt, isStr] at w
   have w := w _ (s2) _ (m2)
   refine Gets.ends ?_ (nx none none c e t 3 has P f1 n1 k1 L1 f2' n2' k2 L2' R o1 c1 M (o2 + 3) (c2 - 1) _ _ (h.nmsg m3) (by unfold oN; simp [Bool.cond_eq_ite]; try omega))
   first | rw [ofH_00] | rw [ofH_10] | rw [ofH_01] | rw [ofH_11] | skip
   apply w
   all_goals first | assumption | exact trivial | rfl | omega | (simp; done) | (simp [hc1, hc2]; done) | (simp; omega)
  | nil =>
   obtain ⟨m1, m2⟩ := mpop_nil h.m
   have hy := h.w.num
   simp only [List.length_nil] at hy
   cases e with
   | true =>
    cases t with
    | false =>
     have v5 : (last == 5) = false := by rw [beq_eq_false_iff_ne]; intro hl; have := h.l5 hl; simp at this
     by_cases hl : last = 4
     ·have v4 : (last == 4) = true := by rw [hl]; rfl
      have w := once_w8_17 q l.length (aQ l) o1 o2 (i : Int) c1 c2 has last P c true false R M 4 f1 n1 k1 f2 n2 k2 L1 L2
      simp only [owr (show i ≤ 1000 by omega)] at w
      have w := w _ (s2) _ (m2)
      refine Gets.ends ?_ (nx none none c true true 5 has P f1 n1 k1 L1 f2 n2 k2 L2 R o1 c1 M o2 c2 _ _ (h.nend) (by unfold oN; simp [Bool.cond_eq_ite]; try omega))
      first | rw [ofH_00] | rw [ofH_10] | rw [ofH_01] | rw [ofH_11] | skip
      apply w
      all_goals first | assumption | exact trivial | rfl | omega | (simp; done) | (simp [hc1, hc2]; done) | (simp; omega)
     ·have v4 : (last == 4) = false := by rw [beq_eq_false_iff_ne]; exact hl
      have w := once_w8_18 q l.length (aQ l) o1 o2 (i : Int) c1 c2 has last P c true false R M 4 f1 n1 k1 f2 n2 k2 L1 L2
      simp only [owr (show i ≤ 1000 by omega)] at w
      have w := w _ (s2) _ (m2)
      refine Gets.ends ?_ (nx none none c true true 5 has P f1 n1 k1 L1 f2 n2 k2 L2 R o1 c1 M o2 c2 _ _ (h.nend) (by unfold oN; simp [Bool.cond_eq_ite]; try omega))
      first | rw [ofH_00] | rw [ofH_10] | rw [ofH_01] | rw [ofH_11] | skip
      apply w
      all_goals first | assumption | exact trivial | rfl | omega | (simp; done) | (simp [hc1, hc2]; done) | (simp; omega)
    | true =>
     exact absurd hm (by unfold oN; simp)
   | false =>
    exact absurd hm (by unfold oN; simp)
theorem once_fin10 {i : Nat} (hi : i < 80) (x : sT) (c e t : Bool) (last : Int) (has : Bool) (P : sT) (f1 n1 : Int) (k1 : Nat) (L1 : List Value) (f2 n2 : Int) (k2 : Nat) (L2 R : List Value) (o1 c1 : Nat) (M : List Value) (o2 c2 : Nat) (lr : List sT) (lm : List mT) (h : OI q (some x) none c e t last has P f1 n1 k1 L1 f2 n2 k2 L2 R o1 c1 M o2 c2 lr lm) (hm : 0 < oN (some x) none e t lr lm)
  (nx : ∀ (p' k' : Option sT) (c' e' t' : Bool) (last' : Int) (has' : Bool) (P' : sT) (f1' n1' : Int) (k1' : Nat) (L1' : List Value) (f2' n2' : Int) (k2' : Nat) (L2' : List Value) (R' : List Value) (o1' c1' : Nat) (M' : List Value) (o2' c2' : Nat) (lr' : List sT) (lm' : List mT), OI q p' k' c' e' t' last' has' P' f1' n1' k1' L1' f2' n2' k2' L2' R' o1' c1' M' o2' c2' lr' lm' → oN p' k' e' t' lr' lm' + 1 = oN (some x) none e t lr lm → AEnds E2 4 0 (ofH q l p' k' c' e' t' last' has' P' f1' n1' k1' L1' f2' n2' k2' L2' R' o1' c1' M' o2' c2' (i + 1)) (.bool true) []) : AEnds E2 4 0 (once_h10 q l.length (aQ l) o1 o2 (i : Int) c1 c2 has last P c e t R M 4 f1 n1 k1 f2 n2 k2 x L1 L2) (.bool true) [] := by
 have hR := h.r.flat
 have hM := h.w.flat
 have lR := h.r.len
 have lM := h.w.len
 obtain ⟨hc1, u1, u2⟩ := h.e1
 obtain ⟨hc2, u3, u4, u5⟩ := h.e2
 have sf := sR_flat h.s
 have mf := mR_flat h.m
 have sl := slen_in h.s
 have ml := mlen_in h.m
 have ws : waits10_S0 4 f1 n1 k1 L1 q f2 n2 k2 L2 c e t x := by unfold waits10_S0; simp [sf, mf, sl, ml]
 have hi8 : decide ((i : Int) < 80) = true := decide_eq_true (by omega)
 have w := once_w10_0 q l.length (aQ l) o1 o2 (i : Int) c1 c2 has last P c e t R M 4 f1 n1 k1 f2 n2 k2 x L1 L2
 refine Gets.ends (by apply w; all_goals first | assumption | exact trivial | rfl | omega | (simp; done) | (simp [hc1, hc2]; done) | (simp; omega)) ?_
 clear w
 cases lr with
 | cons z lr =>
  have v4 : (last == 4) = false := by rw [beq_eq_false_iff_ne]; intro hl; have := h.l4 hl; simp at this
  have v5 : (last == 5) = false := by rw [beq_eq_false_iff_ne]; intro hl; have := h.l5 hl; simp at this
  obtain ⟨s1, f1', n1', L1', s2, s3⟩ := spop_cons h.s
  have sf3 := sR_flat s3
  have hr := h.r
  rw [List.map_cons] at hr
  obtain ⟨r0, r1, r2⟩ := hr.get
  simp only [oI] at r0 r1 r2
  have hz := h.r.num
  simp only [List.length_map, List.length_cons] at hz
  have w := once_w13_0 q l.length (aQ l) o1 o2 (i : Int) c1 c2 has last P c e t R M 4 f1 n1 k1 f2 n2 k2 x L1 L2
  simp only [owr (show i ≤ 1000 by omega), r0, r1, r2, toInt, toStr, isInt, isStr] at w
  have w := w _ (s2)
  refine Gets.ends ?_ (nx (some x) none c e t 1 has P f1' n1' k1 L1' f2 n2 k2 L2 R (o1 + 3) (c1 - 1) M o2 c2 _ _ (h.nreply s3) (by unfold oN; simp [Bool.cond_eq_ite]; try omega))
  first | rw [ofH_00] | rw [ofH_10] | rw [ofH_01] | rw [ofH_11] | skip
  apply w
  all_goals first | assumption | exact trivial | rfl | omega | (simp; done) | (simp [hc1, hc2]; done) | (simp; omega)
 | nil =>
  obtain ⟨s1, s2⟩ := spop_nil h.s
  have hz := h.r.num
  simp only [List.map_nil, List.length_nil] at hz
  have v4 : (last == 4) = false := by rw [beq_eq_false_iff_ne]; intro hl; have := h.l4 hl; simp at this
  have v5 : (last == 5) = false := by rw [beq_eq_false_iff_ne]; intro hl; have := h.l5 hl; simp at this
  have hx : (toL x == toL P) = true := by rw [h.hP x rfl]; exact toL_self x
  have hh : has = true := h.hp
  have w := once_w13_2 q l.length (aQ l) o1 o2 (i : Int) c1 c2 has last P c e t R M 4 f1 n1 k1 f2 n2 k2 x L1 L2
  simp only [owr (show i ≤ 1000 by omega)] at w
  have w := w _ (s2)
  refine Gets.ends ?_ (nx none none c e t 2 false P f1 n1 k1 L1 f2 n2 k2 L2 R o1 c1 M o2 c2 _ _ (h.npong) (by unfold oN; simp [Bool.cond_eq_ite]; try omega))
  first | rw [ofH_00] | rw [ofH_10] | rw [ofH_01] | rw [ofH_11] | skip
  apply w
  all_goals first | assumption | exact trivial | rfl | omega | (simp; done) | (simp [hc1, hc2]; done) | (simp; omega)
theorem once_fin01 {i : Nat} (hi : i < 80) (y : sT) (c e t : Bool) (last : Int) (has : Bool) (P : sT) (f1 n1 : Int) (k1 : Nat) (L1 : List Value) (f2 n2 : Int) (k2 : Nat) (L2 R : List Value) (o1 c1 : Nat) (M : List Value) (o2 c2 : Nat) (lr : List sT) (lm : List mT) (h : OI q none (some y) c e t last has P f1 n1 k1 L1 f2 n2 k2 L2 R o1 c1 M o2 c2 lr lm) (hm : 0 < oN none (some y) e t lr lm)
  (nx : ∀ (p' k' : Option sT) (c' e' t' : Bool) (last' : Int) (has' : Bool) (P' : sT) (f1' n1' : Int) (k1' : Nat) (L1' : List Value) (f2' n2' : Int) (k2' : Nat) (L2' : List Value) (R' : List Value) (o1' c1' : Nat) (M' : List Value) (o2' c2' : Nat) (lr' : List sT) (lm' : List mT), OI q p' k' c' e' t' last' has' P' f1' n1' k1' L1' f2' n2' k2' L2' R' o1' c1' M' o2' c2' lr' lm' → oN p' k' e' t' lr' lm' + 1 = oN none (some y) e t lr lm → AEnds E2 4 0 (ofH q l p' k' c' e' t' last' has' P' f1' n1' k1' L1' f2' n2' k2' L2' R' o1' c1' M' o2' c2' (i + 1)) (.bool true) []) : AEnds E2 4 0 (once_h11 q l.length (aQ l) o1 o2 (i : Int) c1 c2 has last P c e t R M 4 f1 n1 k1 f2 n2 k2 y L1 L2) (.bool true) [] := by
 have hR := h.r.flat
 have hM := h.w.flat
 have lR := h.r.len
 have lM := h.w.len
 obtain ⟨hc1, u1, u2⟩ := h.e1
 obtain ⟨hc2, u3, u4, u5⟩ := h.e2
 have sf := sR_flat h.s
 have mf := mR_flat h.m
 have sl := slen_in h.s
 have ml := mlen_in h.m
 have ws : waits01_S0 4 f1 n1 k1 L1 q f2 n2 k2 L2 c e t y := by unfold waits01_S0; simp [sf, mf, sl, ml]
 have hi8 : decide ((i : Int) < 80) = true := decide_eq_true (by omega)
 have w := once_w11_0 q l.length (aQ l) o1 o2 (i : Int) c1 c2 has last P c e t R M 4 f1 n1 k1 f2 n2 k2 y L1 L2
 refine Gets.ends (by apply w; all_goals first | assumption | exact trivial | rfl | omega | (simp; done) | (simp [hc1, hc2]; done) | (simp; omega)) ?_
 clear w
 cases lr with
 | cons z lr =>
  have v4 : (last == 4) = false := by rw [beq_eq_false_iff_ne]; intro hl; have := h.l4 hl; simp at this
  have v5 : (last == 5) = false := by rw [beq_eq_false_iff_ne]; intro hl; have := h.l5 hl; simp at this
  obtain ⟨s1, f1', n1', L1', s2, s3⟩ := spop_cons h.s
  have sf3 := sR_flat s3
  have hr := h.r
  rw [List.map_cons] at hr
  obtain ⟨r0, r1, r2⟩ := hr.get
  simp only [oI] at r0 r1 r2
  have hz := h.r.num
  simp only [List.length_map, List.length_cons] at hz
  have w := once_w14_0 q l.length (aQ l) o1 o2 (i : Int) c1 c2 has last P c e t R M 4 f1 n1 k1 f2 n2 k2 y L1 L2
  simp only [owr (show i ≤ 1000 by omega), r0, r1, r2, toInt, toStr, isInt, isStr] at w
  have w := w _ (s2)
  refine Gets.ends ?_ (nx none (some y) c e t 1 has P f1' n1' k1 L1' f2 n2 k2 L2 R (o1 + 3) (c1 - 1) M o2 c2 _ _ (h.nreply s3) (by unfold oN; simp [Bool.cond_eq_ite]; try omega))
  first | rw [ofH_00] | rw [ofH_10] | rw [ofH_01] | rw [ofH_11] | skip
  apply w
  all_goals first | assumption | exact trivial | rfl | omega | (simp; done) | (simp [hc1, hc2]; done) | (simp; omega)
 | nil =>
  obtain ⟨s1, s2⟩ := spop_nil h.s
  have hz := h.r.num
  simp only [List.map_nil, List.length_nil] at hz
  have hh : has = false := h.hp
  cases lm with
  | cons z lm =>
   have v4 : (last == 4) = false := by rw [beq_eq_false_iff_ne]; intro hl; have := h.l4 hl; simp at this
   have v5 : (last == 5) = false := by rw [beq_eq_false_iff_ne]; intro hl; have := h.l5 hl; simp at this
   obtain ⟨m1, f2', n2', L2', m2, m3⟩ := mpop_cons h.m
   have mf3 := mR_flat m3
   have h3 := h.m3 z List.mem_cons_self
   obtain ⟨zk, zo, zs⟩ := z
   simp only at h3
   subst h3
   obtain ⟨r0, r1, r2⟩ := h.w.get
   simp only at r0 r1 r2
   have hy := h.w.num
   simp only [List.length_cons] at hy
   have w := once_w14_12 q l.length (aQ l) o1 o2 (i : Int) c1 c2 has last P c e t R M 4 f1 n1 k1 f2 n2 k2 y L1 L2
   simp only [owr (show i ≤ 1000 by omega), r0, r1, r2, toInt, toStr, isInt, isStr] at w
   have w := w _ (s2) _ (m2)
   refine Gets.ends ?_ (nx none (some y) c e t 3 has P f1 n1 k1 L1 f2' n2' k2 L2' R o1 c1 M (o2 + 3) (c2 - 1) _ _ (h.nmsg m3) (by unfold oN; simp [Bool.cond_eq_ite]; try omega))
   first | rw [ofH_00] | rw [ofH_10] | rw [ofH_01] | rw [ofH_11] | skip
   apply w
   all_goals first | assumption | exact trivial | rfl | omega | (simp; done) | (simp [hc1, hc2]; done) | (simp; omega)
  | nil =>
   obtain ⟨m1, m2⟩ := mpop_nil h.m
   have hy := h.w.num
   simp only [List.length_nil] at hy
   have v4 : (last == 4) = false := by rw [beq_eq_false_iff_ne]; intro hl; have := h.l4 hl; simp at this
   have v5 : (last == 5) = false := by rw [beq_eq_false_iff_ne]; intro hl; have := h.l5 hl; simp at this
   have w := once_w14_17 q l.length (aQ l) o1 o2 (i : Int) c1 c2 has last P c e t R M 4 f1 n1 k1 f2 n2 k2 y L1 L2
   simp only [owr (show i ≤ 1000 by omega)] at w
   have w := w _ (s2) _ (m2)
   refine Gets.ends ?_ (nx none none c e t 4 has P f1 n1 k1 L1 f2 n2 k2 L2 R o1 c1 M o2 c2 _ _ (h.nclose) (by unfold oN; simp [Bool.cond_eq_ite]; try omega))
   first | rw [ofH_00] | rw [ofH_10] | rw [ofH_01] | rw [ofH_11] | skip
   apply w
   all_goals first | assumption | exact trivial | rfl | omega | (simp; done) | (simp [hc1, hc2]; done) | (simp; omega)
theorem once_fin11 {i : Nat} (hi : i < 80) (x y : sT) (c e t : Bool) (last : Int) (has : Bool) (P : sT) (f1 n1 : Int) (k1 : Nat) (L1 : List Value) (f2 n2 : Int) (k2 : Nat) (L2 R : List Value) (o1 c1 : Nat) (M : List Value) (o2 c2 : Nat) (lr : List sT) (lm : List mT) (h : OI q (some x) (some y) c e t last has P f1 n1 k1 L1 f2 n2 k2 L2 R o1 c1 M o2 c2 lr lm) (hm : 0 < oN (some x) (some y) e t lr lm)
  (nx : ∀ (p' k' : Option sT) (c' e' t' : Bool) (last' : Int) (has' : Bool) (P' : sT) (f1' n1' : Int) (k1' : Nat) (L1' : List Value) (f2' n2' : Int) (k2' : Nat) (L2' : List Value) (R' : List Value) (o1' c1' : Nat) (M' : List Value) (o2' c2' : Nat) (lr' : List sT) (lm' : List mT), OI q p' k' c' e' t' last' has' P' f1' n1' k1' L1' f2' n2' k2' L2' R' o1' c1' M' o2' c2' lr' lm' → oN p' k' e' t' lr' lm' + 1 = oN (some x) (some y) e t lr lm → AEnds E2 4 0 (ofH q l p' k' c' e' t' last' has' P' f1' n1' k1' L1' f2' n2' k2' L2' R' o1' c1' M' o2' c2' (i + 1)) (.bool true) []) : AEnds E2 4 0 (once_h15 q l.length (aQ l) o1 o2 (i : Int) c1 c2 has last P c e t R M 4 f1 n1 k1 f2 n2 k2 x y L1 L2) (.bool true) [] := by
 have hR := h.r.flat
 have hM := h.w.flat
 have lR := h.r.len
 have lM := h.w.len
 obtain ⟨hc1, u1, u2⟩ := h.e1
 obtain ⟨hc2, u3, u4, u5⟩ := h.e2
 have sf := sR_flat h.s
 have mf := mR_flat h.m
 have sl := slen_in h.s
 have ml := mlen_in h.m
 have ws : waits11_S0 4 f1 n1 k1 L1 q f2 n2 k2 L2 c e t x y := by unfold waits11_S0; simp [sf, mf, sl, ml]
 have hi8 : decide ((i : Int) < 80) = true := decide_eq_true (by omega)
 have w := once_w15_0 q l.length (aQ l) o1 o2 (i : Int) c1 c2 has last P c e t R M 4 f1 n1 k1 f2 n2 k2 x y L1 L2
 refine Gets.ends (by apply w; all_goals first | assumption | exact trivial | rfl | omega | (simp; done) | (simp [hc1, hc2]; done) | (simp; omega)) ?_
 clear w
 cases lr with
 | cons z lr =>
  have v4 : (last == 4) = false := by rw [beq_eq_false_iff_ne]; intro hl; have := h.l4 hl; simp at this
  have v5 : (last == 5) = false := by rw [beq_eq_false_iff_ne]; intro hl; have := h.l5 hl; simp at this
  obtain ⟨s1, f1', n1', L1', s2, s3⟩ := spop_cons h.s
  have sf3 := sR_flat s3
  have hr := h.r
  rw [List.map_cons] at hr
  obtain ⟨r0, r1, r2⟩ := hr.get
  simp only [oI] at r0 r1 r2
  have hz := h.r.num
  simp only [List.length_map, List.length_cons] at hz
  have w := once_w16_0 q l.length (aQ l) o1 o2 (i : Int) c1 c2 has last P c e t R M 4 f1 n1 k1 f2 n2 k2 x y L1 L2
  simp only [owr (show i ≤ 1000 by omega), r0, r1, r2, toInt, toStr, isInt, isStr] at w
  have w := w _ (s2)
  refine Gets.ends ?_ (nx (some x) (some y) c e t 1 has P f1' n1' k1 L1' f2 n2 k2 L2 R (o1 + 3) (c1 - 1) M o2 c2 _ _ (h.nreply s3) (by unfold oN; simp [Bool.cond_eq_ite]; try omega))
  first | rw [ofH_00] | rw [ofH_10] | rw [ofH_01] | rw [ofH_11] | skip
  apply w
  all_goals first | assumption | exact trivial | rfl | omega | (simp; done) | (simp [hc1, hc2]; done) | (simp; omega)
 | nil =>
  obtain ⟨s1, s2⟩ := spop_nil h.s
  have hz := h.r.num
  simp only [List.map_nil, List.length_nil] at hz
  have v4 : (last == 4) = false := by rw [beq_eq_false_iff_ne]; intro hl; have := h.l4 hl; simp at this
  have v5 : (last == 5) = false := by rw [beq_eq_false_iff_ne]; intro hl; have := h.l5 hl; simp at this
  have hx : (toL x == toL P) = true := by rw [h.hP x rfl]; exact toL_self x
  have hh : has = true := h.hp
  have w := once_w16_2 q l.length (aQ l) o1 o2 (i : Int) c1 c2 has last P c e t R M 4 f1 n1 k1 f2 n2 k2 x y L1 L2
  simp only [owr (show i ≤ 1000 by omega)] at w
  have w := w _ (s2)
  refine Gets.ends ?_ (nx none (some y) c e t 2 false P f1 n1 k1 L1 f2 n2 k2 L2 R o1 c1 M o2 c2 _ _ (h.npong) (by unfold oN; simp [Bool.cond_eq_ite]; try omega))
  first | rw [ofH_00] | rw [ofH_10] | rw [ofH_01] | rw [ofH_11] | skip
  apply w
  all_goals first | assumption | exact trivial | rfl | omega | (simp; done) | (simp [hc1, hc2]; done) | (simp; omega)
theorem once_end {i : Nat} (c e t : Bool) (last : Int) (has : Bool) (P : sT) (f1 n1 : Int) (k1 : Nat) (L1 : List Value) (f2 n2 : Int) (k2 : Nat) (L2 R : List Value) (o1 c1 : Nat) (M : List Value) (o2 c2 : Nat) (lr : List sT) (lm : List mT) (h : OI q none none c e t last has P f1 n1 k1 L1 f2 n2 k2 L2 R o1 c1 M o2 c2 lr lm) (hm : oN none none e t lr lm = 0) : AEnds E2 4 0 (once_h5 q l.length (aQ l) o1 o2 (i : Int) c1 c2 has last P c e t R M 4 f1 n1 k1 f2 n2 k2 L1 L2) (.bool true) [] := by
 have wt := owaits00 h
 rw [decide_eq_false (by omega)] at wt
 have hR := h.r.flat
 have hM := h.w.flat
 have lR := h.r.len
 have lM := h.w.len
 obtain ⟨hc1, u1, u2⟩ := h.e1
 obtain ⟨hc2, u3, u4, u5⟩ := h.e2
 have sf := sR_flat h.s
 have mf := mR_flat h.m
 have sl := slen_in h.s
 have ml := mlen_in h.m
 have ws : waits00_S0 4 f1 n1 k1 L1 q f2 n2 k2 L2 c e t := by unfold waits00_S0; simp [sf, mf, sl, ml]
 unfold oN at hm
 have hr := h.r.num
 rw [List.length_map] at hr
 have hw := h.w.num
 have h1 : ((c1 : Int) == 0) = true := by simp; omega
 have h2 : ((c2 : Int) == 0) = true := by simp; omega
 have hh : (!has) = true := by rw [h.hp]; rfl
 have wn : (!waits00_t0 4 f1 n1 k1 L1 q f2 n2 k2 L2 c e t) = true := by rw [wt]; rfl
 by_cases hi : (i : Int) < 80
 ·have w := once_w5_1 q l.length (aQ l) o1 o2 (i : Int) c1 c2 has last P c e t R M 4 f1 n1 k1 f2 n2 k2 L1 L2
  apply w
  all_goals first | assumption | exact trivial | exact decide_eq_true hi
 ·have w := once_w5_2 q l.length (aQ l) o1 o2 (i : Int) c1 c2 has last P c e t R M 4 f1 n1 k1 f2 n2 k2 L1 L2
  apply w
  all_goals first | assumption | exact trivial | exact decide_eq_false hi
theorem once_fins : ∀ (m i : Nat), i + m ≤ 71 → ∀ (p k : Option sT) (c e t : Bool) (last : Int) (has : Bool) (P : sT) (f1 n1 : Int) (k1 : Nat) (L1 : List Value) (f2 n2 : Int) (k2 : Nat) (L2 R : List Value) (o1 c1 : Nat) (M : List Value) (o2 c2 : Nat) (lr : List sT) (lm : List mT), OI q p k c e t last has P f1 n1 k1 L1 f2 n2 k2 L2 R o1 c1 M o2 c2 lr lm → oN p k e t lr lm = m → AEnds E2 4 0 (ofH q l p k c e t last has P f1 n1 k1 L1 f2 n2 k2 L2 R o1 c1 M o2 c2 i) (.bool true) []
 | 0, i, hi, p, k, c, e, t, last, has, P, f1, n1, k1, L1, f2, n2, k2, L2, R, o1, c1, M, o2, c2, lr, lm, h, hm => by
  cases p with
  | some x => unfold oN at hm; simp at hm
  | none => cases k with
   | some x => unfold oN at hm; simp at hm
   | none => rw [ofH_00]; exact once_end c e t last has P f1 n1 k1 L1 f2 n2 k2 L2 R o1 c1 M o2 c2 lr lm h hm
 | m + 1, i, hi, p, k, c, e, t, last, has, P, f1, n1, k1, L1, f2, n2, k2, L2, R, o1, c1, M, o2, c2, lr, lm, h, hm => by
  cases p with
  | none => cases k with
   | none => rw [ofH_00]; exact once_fin00 (by omega) c e t last has P f1 n1 k1 L1 f2 n2 k2 L2 R o1 c1 M o2 c2 lr lm h (by omega) (fun p k c e t last has P f1 n1 k1 L1 f2 n2 k2 L2 R o1 c1 M o2 c2 lr lm h h' => once_fins m (i + 1) (by omega) p k c e t last has P f1 n1 k1 L1 f2 n2 k2 L2 R o1 c1 M o2 c2 lr lm h (by omega))
   | some y => rw [ofH_01]; exact once_fin01 (by omega) y c e t last has P f1 n1 k1 L1 f2 n2 k2 L2 R o1 c1 M o2 c2 lr lm h (by omega) (fun p k c e t last has P f1 n1 k1 L1 f2 n2 k2 L2 R o1 c1 M o2 c2 lr lm h h' => once_fins m (i + 1) (by omega) p k c e t last has P f1 n1 k1 L1 f2 n2 k2 L2 R o1 c1 M o2 c2 lr lm h (by omega))
  | some x => cases k with
   | none => rw [ofH_10]; exact once_fin10 (by omega) x c e t last has P f1 n1 k1 L1 f2 n2 k2 L2 R o1 c1 M o2 c2 lr lm h (by omega) (fun p k c e t last has P f1 n1 k1 L1 f2 n2 k2 L2 R o1 c1 M o2 c2 lr lm h h' => once_fins m (i + 1) (by omega) p k c e t last has P f1 n1 k1 L1 f2 n2 k2 L2 R o1 c1 M o2 c2 lr lm h (by omega))
   | some y => rw [ofH_11]; exact once_fin11 (by omega) x y c e t last has P f1 n1 k1 L1 f2 n2 k2 L2 R o1 c1 M o2 c2 lr lm h (by omega) (fun p k c e t last has P f1 n1 k1 L1 f2 n2 k2 L2 R o1 c1 M o2 c2 lr lm h h' => once_fins m (i + 1) (by omega) p k c e t last has P f1 n1 k1 L1 f2 n2 k2 L2 R o1 c1 M o2 c2 lr lm h (by omega))
theorem once_run (hq : 1 ≤ q ∧ q ≤ 64) (hl : l.length ≤ 200) (hb : ∀ a ∈ l, (0 ≤ a.1 ∧ a.1 ≤ 255) ∧ (0 ≤ a.2.1 ∧ a.2.1 ≤ 255)) : ∀ (m i : Nat), i + m = l.length → ∀ (p k : Option sT) (c e t : Bool) (last : Int) (has : Bool) (P : sT) (f1 n1 : Int) (k1 : Nat) (L1 : List Value) (f2 n2 : Int) (k2 : Nat) (L2 R : List Value) (o1 c1 : Nat) (M : List Value) (o2 c2 : Nat) (lr : List sT) (lm : List mT), OI q p k c e t last has P f1 n1 k1 L1 f2 n2 k2 L2 R o1 c1 M o2 c2 lr lm → AEnds E2 4 0 (olH q l p k c e t last has P f1 n1 k1 L1 f2 n2 k2 L2 R o1 c1 M o2 c2 i) (.bool true) []
 | 0, i, hi, p, k, c, e, t, last, has, P, f1, n1, k1, L1, f2, n2, k2, L2, R, o1, c1, M, o2, c2, lr, lm, h => by
  have hR := h.r.flat
  have hM := h.w.flat
  have sf := sR_flat h.s
  have mf := mR_flat h.m
  have f := once_fins (l := l) (oN p k e t lr lm) 0 (by have := oN_le h hq.2; omega) p k c e t last has P f1 n1 k1 L1 f2 n2 k2 L2 R o1 c1 M o2 c2 lr lm h rfl
  have hd : decide ((i : Int) < (l.length : Int)) = false := decide_eq_false (by omega)
  refine Gets.ends ?_ f
  cases p with
  | none => cases k with
   | none =>
    rw [olH_00, ofH_00]
    have w := once_w1_33 q l.length (aQ l) (i : Int) P has last c e t R M 4 f1 n1 k1 f2 n2 k2 L1 L2 c1 o1 c2 o2
    apply w
    all_goals first | assumption | exact trivial | rfl
   | some y =>
    rw [olH_01, ofH_01]
    have w := once_w7_30 q l.length (aQ l) o1 o2 (i : Int) c1 c2 P has last c e t R M 4 f1 n1 k1 f2 n2 k2 y L1 L2
    apply w
    all_goals first | assumption | exact trivial | rfl
  | some x => cases k with
   | none =>
    rw [olH_10, ofH_10]
    have w := once_w6_15 q l.length (aQ l) o1 o2 (i : Int) c1 c2 P has last c e t R M 4 f1 n1 k1 f2 n2 k2 x L1 L2
    apply w
    all_goals first | assumption | exact trivial | rfl
   | some y =>
    rw [olH_11, ofH_11]
    have w := once_w12_15 q l.length (aQ l) o1 o2 (i : Int) c1 c2 P has last c e t R M 4 f1 n1 k1 f2 n2 k2 x y L1 L2
    apply w
    all_goals first | assumption | exact trivial | rfl
 | m + 1, i, hi, p, k, c, e, t, last, has, P, f1, n1, k1, L1, f2, n2, k2, L2, R, o1, c1, M, o2, c2, lr, lm, h => by
  obtain ⟨a, ha⟩ : ∃ a, l[i]? = some a := ⟨_, List.getElem?_eq_getElem (by omega)⟩
  have nx : ∀ (p k : Option sT) (c e t : Bool) (last : Int) (has : Bool) (P : sT) (f1 n1 : Int) (k1 : Nat) (L1 : List Value) (f2 n2 : Int) (k2 : Nat) (L2 : List Value) (R : List Value) (o1 c1 : Nat) (M : List Value) (o2 c2 : Nat) (lr : List sT) (lm : List mT), OI q p k c e t last has P f1 n1 k1 L1 f2 n2 k2 L2 R o1 c1 M o2 c2 lr lm → AEnds E2 4 0 (ocH q l p k c e t last has P f1 n1 k1 L1 f2 n2 k2 L2 R o1 c1 M o2 c2 i) (.bool true) [] :=
   fun p k c e t last has P f1 n1 k1 L1 f2 n2 k2 L2 R o1 c1 M o2 c2 lr lm h => once_cmp (by omega) p k c e t last has P f1 n1 k1 L1 f2 n2 k2 L2 R o1 c1 M o2 c2 lr lm h (once_run hq hl hb m (i + 1) (by omega) p k c e t last has P f1 n1 k1 L1 f2 n2 k2 L2 R o1 c1 M o2 c2 lr lm h)
  cases p with
  | none => cases k with
   | none => rw [olH_00]; exact once_act00 hq hl hb ha nx c e t last has P f1 n1 k1 L1 f2 n2 k2 L2 R o1 c1 M o2 c2 lr lm h
   | some y => rw [olH_01]; exact once_act01 hq hl hb ha nx y c e t last has P f1 n1 k1 L1 f2 n2 k2 L2 R o1 c1 M o2 c2 lr lm h
  | some x => cases k with
   | none => rw [olH_10]; exact once_act10 hq hl hb ha nx x c e t last has P f1 n1 k1 L1 f2 n2 k2 L2 R o1 c1 M o2 c2 lr lm h
   | some y => rw [olH_11]; exact once_act11 hq hl hb ha nx x y c e t last has P f1 n1 k1 L1 f2 n2 k2 L2 R o1 c1 M o2 c2 lr lm h
theorem once_all (hb : ∀ a ∈ l, (0 ≤ a.1 ∧ a.1 ≤ 255) ∧ (0 ≤ a.2.1 ∧ a.2.1 ≤ 255)) : AEnds E2 4 0 (startC E2 4 [.int .i64 q, .iface l.length (.agg (aQ l).toArray)] []) (.bool true) [] := by
 have hp : great_pre l.length (aQ l) := ⟨l, rfl, rfl⟩
 cases hg : greatB l.length (aQ l) with
 | true => exact once_w0_0 q l.length (aQ l) trivial hg hp
 | false =>
  have hl := (greatB_false hg).1
  by_cases h1 : q < 1
  ·exact once_w0_1 q l.length (aQ l) trivial (decide_eq_true h1) hg hp
  ·by_cases h2 : 64 < q
   ·exact once_w0_2 q l.length (aQ l) trivial (decide_eq_true h2) (decide_eq_false h1) hg hp
   ·exact (once_w0_3 q l.length (aQ l) (decide_eq_false (by omega)) (decide_eq_false h1) (decide_eq_false h2) hg hp).ends (once_run (by omega) hl hb l.length 0 (Nat.zero_add _) none none false false false 0 false ⟨#[]⟩ 0 0 0 [] 0 0 0 [] [] 0 0 [] 0 0 [] [] ⟨sR_nil (by omega) (by omega), mR_nil (by omega) (by omega), (fun h => by cases h), rfl, (fun _ h => by cases h), row_nil, row_nil, (fun x hx => by cases hx), (fun h => by omega), (fun h => by omega)⟩)
end
end Go.Proofs.Yticpjnmoiepafaa
