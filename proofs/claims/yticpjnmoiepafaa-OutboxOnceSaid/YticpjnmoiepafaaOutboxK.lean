/-
  Rings that hold nothing yet: Push as contracts.
-/
import Derived.Test.YticpjnmoiepafaaAmSlim
import Derived.Test.YticpjnmoiepafaaOutboxC
import Derived.Test.YticpjnmoiepafaaOutboxD
set_option linter.unusedVariables false
set_option linter.unusedSimpArgs false
open Go Go.Am
namespace Go.Proofs.Yticpjnmoiepafaa

abbrev spush0_R : Type := Unit
def spush0_V (mx : Int) (x : ByteArray) (r : Unit) : Value := .bool true
def spush0_H (mx : Int) (x : ByteArray) (r : Unit) : Heap := [some (.cells [.int .i64 mx, .int .i64 0, .int .i64 1, .slice (some ⟨1, 0, none⟩) (bif decide (mx < 8) then mx else 8).toNat (bif decide (mx < 8) then mx else 8).toNat] 68 none), some (.cells (setN (rep [.string { data := #[] }] (bif decide (mx < 8) then mx else 8).toNat) (0 + (Int.tmod 0 (↑(bif decide (mx < 8) then mx else 8).toNat : Int)).toNat * 1) [.string x]) 9 none)]
noncomputable def spush0_Q (mx : Int) (x : ByteArray) (C : Cfg) (r : spush0_R) : Prop :=
 let p := r
 AEnds E 35 1 C (spush0_V mx x p) (spush0_H mx x p)
noncomputable def spush0_t0 (mx : Int) (x : ByteArray) : spush0_R :=
 ()
def spush0_S0 (mx : Int) (x : ByteArray) : Prop :=
 (((setN (rep [.string { data := #[] }] (bif decide (mx < 8) then mx else 8).toNat) (0 + (Int.tmod 0 (↑(bif decide (mx < 8) then mx else 8).toNat : Int)).toNat * 1) [.string x]).all flat) = true) ∧ (((bif decide (mx < 8) then mx else 8).toNat == (bif decide (mx < 8) then mx else 8).toNat) = true) ∧ ((toL x == toL x) = true) ∧ (0 + (Int.tmod 0 (↑(bif decide (mx < 8) then mx else 8).toNat : Int)).toNat * 1 + 1 ≤ (rep [.string { data := #[] }] (bif decide (mx < 8) then mx else 8).toNat).length) ∧ (Int.tmod 0 (↑(bif decide (mx < 8) then mx else 8).toNat : Int) < (↑(bif decide (mx < 8) then mx else 8).toNat : Int)) ∧ (((↑(bif decide (mx < 8) then mx else 8).toNat : Int) != 0) = true) ∧ (0 ≤ bif decide (mx < 8) then mx else 8) ∧ ((bif decide (mx < 8) then mx else 8) * 16 ≤ 140737488355328) ∧ ((bif decide (mx < 8) then mx else 8) ≤ 9223372036854775807) ∧ ((decide (mx ≤ 0)) = false)
theorem spush0_ok0 (mx : Int) (x : ByteArray) (hS : spush0_S0 mx x) : spush0_Q mx x (startC E 35 ([.pointer (some ⟨0, 0, none⟩), .string x]) ([some (.cells [.int .i64 mx, .int .i64 0, .int .i64 0, .slice none 0 0] 68 none)])) (spush0_t0 mx x) := by
 unfold spush0_S0 at hS
 unfold spush0_t0
 exact ends_q (ok := and ((setN (rep [.string { data := #[] }] (bif decide (mx < 8) then mx else 8).toNat) (0 + (Int.tmod 0 (↑(bif decide (mx < 8) then mx else 8).toNat : Int)).toNat * 1) [.string x]).all flat) (and ((setN (rep [.string { data := #[] }] (bif decide (mx < 8) then mx else 8).toNat) (0 + (Int.tmod 0 (↑(bif decide (mx < 8) then mx else 8).toNat : Int)).toNat * 1) [.string x]).all flat) (and ((bif decide (mx < 8) then mx else 8).toNat == (bif decide (mx < 8) then mx else 8).toNat) (and ((bif decide (mx < 8) then mx else 8).toNat == (bif decide (mx < 8) then mx else 8).toNat) (and (toL x == toL x) (and (decide (0 + (Int.tmod 0 (↑(bif decide (mx < 8) then mx else 8).toNat : Int)).toNat * 1 + 1 ≤ (rep [.string { data := #[] }] (bif decide (mx < 8) then mx else 8).toNat).length)) (and (decide (Int.tmod 0 (↑(bif decide (mx < 8) then mx else 8).toNat : Int) < (↑(bif decide (mx < 8) then mx else 8).toNat : Int))) (and ((↑(bif decide (mx < 8) then mx else 8).toNat : Int) != 0) (and ((bif decide (mx < 8) then mx else 8) == bif decide (mx < 8) then mx else 8) (and (decide (0 ≤ bif decide (mx < 8) then mx else 8)) (and (decide ((bif decide (mx < 8) then mx else 8) * 16 ≤ 140737488355328)) (and (decide ((bif decide (mx < 8) then mx else 8) ≤ 9223372036854775807)) (and ((decide (mx ≤ 0)) == false) (true)))))))))))))) noK_ok 2000 126 (bs 6 4) [0, 1] [4] [0, 1] (and8 (hS.1) (hS.1) (hS.2.1) (hS.2.1) (hS.2.2.1) (decide_eq_true hS.2.2.2.1) (decide_eq_true hS.2.2.2.2.1) (hS.2.2.2.2.2.1) (andI (beq_self_eq_true _) (and4 (decide_eq_true hS.2.2.2.2.2.2.1) (decide_eq_true hS.2.2.2.2.2.2.2.1) (decide_eq_true hS.2.2.2.2.2.2.2.2.1) (dF hS.2.2.2.2.2.2.2.2.2) rfl)))
theorem spush0_call (mx : Int) (x : ByteArray) (hS : spush0_S0 mx x) : CallOk E 35 ([.pointer (some ⟨0, 0, none⟩), .string x]) ([some (.cells [.int .i64 mx, .int .i64 0, .int .i64 0, .slice none 0 0] 68 none)]) (spush0_V mx x (spush0_t0 mx x)) (spush0_H mx x (spush0_t0 mx x)) := callOk_of_ends (spush0_ok0 mx x hS) (by kernel_rfl) (Nat.le_of_ble_eq_true (by kernel_rfl))
abbrev mpush0_R : Type := Unit
def mpush0_V (mx k o : Int) (x : ByteArray) (r : Unit) : Value := .bool true
def mpush0_H (mx k o : Int) (x : ByteArray) (r : Unit) : Heap := [some (.cells [.int .i64 mx, .int .i64 0, .int .i64 1, .slice (some ⟨1, 0, none⟩) (bif decide (mx < 8) then mx else 8).toNat (bif decide (mx < 8) then mx else 8).toNat] 70 none), some (.cells (setN (rep [.int .i64 0, .int .i64 0, .string { data := #[] }] (bif decide (mx < 8) then mx else 8).toNat) (0 + (Int.tmod 0 (↑(bif decide (mx < 8) then mx else 8).toNat : Int)).toNat * 3) [.int .i64 k, .int .i64 o, .string x]) 30 none)]
noncomputable def mpush0_Q (mx k o : Int) (x : ByteArray) (C : Cfg) (r : mpush0_R) : Prop :=
 let p := r
 AEnds E 31 1 C (mpush0_V mx k o x p) (mpush0_H mx k o x p)
noncomputable def mpush0_t0 (mx k o : Int) (x : ByteArray) : mpush0_R :=
 ()
def mpush0_S0 (mx k o : Int) (x : ByteArray) : Prop :=
 (((setN (rep [.int .i64 0, .int .i64 0, .string { data := #[] }] (bif decide (mx < 8) then mx else 8).toNat) (0 + (Int.tmod 0 (↑(bif decide (mx < 8) then mx else 8).toNat : Int)).toNat * 3) [.int .i64 k, .int .i64 o, .string x]).all flat) = true) ∧ (((bif decide (mx < 8) then mx else 8).toNat == (bif decide (mx < 8) then mx else 8).toNat) = true) ∧ ((toL x == toL x) = true) ∧ (0 + (Int.tmod 0 (↑(bif decide (mx < 8) then mx else 8).toNat : Int)).toNat * 3 + 3 ≤ (rep [.int .i64 0, .int .i64 0, .string { data := #[] }] (bif decide (mx < 8) then mx else 8).toNat).length) ∧ (Int.tmod 0 (↑(bif decide (mx < 8) then mx else 8).toNat : Int) < (↑(bif decide (mx < 8) then mx else 8).toNat : Int)) ∧ (((↑(bif decide (mx < 8) then mx else 8).toNat : Int) != 0) = true) ∧ (0 ≤ bif decide (mx < 8) then mx else 8) ∧ ((bif decide (mx < 8) then mx else 8) * 32 ≤ 140737488355328) ∧ ((bif decide (mx < 8) then mx else 8) ≤ 9223372036854775807) ∧ ((decide (mx ≤ 0)) = false)
theorem mpush0_ok0 (mx k o : Int) (x : ByteArray) (hS : mpush0_S0 mx k o x) : mpush0_Q mx k o x (startC E 31 ([.pointer (some ⟨0, 0, none⟩), .agg #[.int .i64 k, .int .i64 o, .string x]]) ([some (.cells [.int .i64 mx, .int .i64 0, .int .i64 0, .slice none 0 0] 70 none)])) (mpush0_t0 mx k o x) := by
 unfold mpush0_S0 at hS
 unfold mpush0_t0
 exact ends_q (ok := and ((setN (rep [.int .i64 0, .int .i64 0, .string { data := #[] }] (bif decide (mx < 8) then mx else 8).toNat) (0 + (Int.tmod 0 (↑(bif decide (mx < 8) then mx else 8).toNat : Int)).toNat * 3) [.int .i64 k, .int .i64 o, .string x]).all flat) (and ((setN (rep [.int .i64 0, .int .i64 0, .string { data := #[] }] (bif decide (mx < 8) then mx else 8).toNat) (0 + (Int.tmod 0 (↑(bif decide (mx < 8) then mx else 8).toNat : Int)).toNat * 3) [.int .i64 k, .int .i64 o, .string x]).all flat) (and ((bif decide (mx < 8) then mx else 8).toNat == (bif decide (mx < 8) then mx else 8).toNat) (and ((bif decide (mx < 8) then mx else 8).toNat == (bif decide (mx < 8) then mx else 8).toNat) (and (k == k) (and (o == o) (and (toL x == toL x) (and (decide (0 + (Int.tmod 0 (↑(bif decide (mx < 8) then mx else 8).toNat : Int)).toNat * 3 + 3 ≤ (rep [.int .i64 0, .int .i64 0, .string { data := #[] }] (bif decide (mx < 8) then mx else 8).toNat).length)) (and (decide (Int.tmod 0 (↑(bif decide (mx < 8) then mx else 8).toNat : Int) < (↑(bif decide (mx < 8) then mx else 8).toNat : Int))) (and ((↑(bif decide (mx < 8) then mx else 8).toNat : Int) != 0) (and ((bif decide (mx < 8) then mx else 8) == bif decide (mx < 8) then mx else 8) (and (decide (0 ≤ bif decide (mx < 8) then mx else 8)) (and (decide ((bif decide (mx < 8) then mx else 8) * 32 ≤ 140737488355328)) (and (decide ((bif decide (mx < 8) then mx else 8) ≤ 9223372036854775807)) (and ((decide (mx ≤ 0)) == false) (true)))))))))))))))) noK_ok 2000 127 (bs 6 4) [0, 2] [4] [0, 1] (and8 (hS.1) (hS.1) (hS.2.1) (hS.2.1) (beq_self_eq_true (k)) (beq_self_eq_true (o)) (hS.2.2.1) (decide_eq_true hS.2.2.2.1) (andI (decide_eq_true hS.2.2.2.2.1) (andI (hS.2.2.2.2.2.1) (andI (beq_self_eq_true _) (and4 (decide_eq_true hS.2.2.2.2.2.2.1) (decide_eq_true hS.2.2.2.2.2.2.2.1) (decide_eq_true hS.2.2.2.2.2.2.2.2.1) (dF hS.2.2.2.2.2.2.2.2.2) rfl)))))
theorem mpush0_call (mx k o : Int) (x : ByteArray) (hS : mpush0_S0 mx k o x) : CallOk E 31 ([.pointer (some ⟨0, 0, none⟩), .agg #[.int .i64 k, .int .i64 o, .string x]]) ([some (.cells [.int .i64 mx, .int .i64 0, .int .i64 0, .slice none 0 0] 70 none)]) (mpush0_V mx k o x (mpush0_t0 mx k o x)) (mpush0_H mx k o x (mpush0_t0 mx k o x)) := callOk_of_ends (mpush0_ok0 mx k o x hS) (by kernel_rfl) (Nat.le_of_ble_eq_true (by kernel_rfl))
/-! ### texts -/
theorem spush0_eq {mx : Int} (h0 : 0 < mx) (h1 : mx ≤ 65536) (x : sT) : spushR mx 0 0 0 [] x = (true, 0, 1, (bif decide (mx < 8) then mx else 8).toNat, setN (rep sZ (bif decide (mx < 8) then mx else 8).toNat) (0 + (Int.tmod 0 (((bif decide (mx < 8) then mx else 8).toNat : Nat) : Int)).toNat * 1) (sC x)) ∧ spush0_S0 mx x := by
 have hg : growN mx 0 = (bif decide (mx < 8) then mx else 8).toNat := by
  unfold growN
  rw [show IntKind.i64.wrap (2 * ((0 : Nat) : Int)) = 0 from wrap64_in (by omega) (by omega)]
  rfl
 obtain ⟨k, k1, k2, k3⟩ : ∃ k : Nat, (bif decide (mx < 8) then mx else 8) = ((k + 1 : Nat) : Int) ∧ ((k + 1 : Nat) : Int) ≤ mx ∧ k < 8 := by
  by_cases c : mx < 8
  ·exact ⟨mx.toNat - 1, by rw [decide_eq_true c, cond_true]; omega, by omega, by omega⟩
  ·exact ⟨7, by rw [decide_eq_false c, cond_false]; rfl, by omega, by omega⟩
 rw [k1, Int.toNat_natCast] at hg
 have hs : setN (rep sZ (k + 1)) (0 + (Int.tmod 0 ((k + 1 : Nat) : Int)).toNat * 1) (sC x) = sC x ++ (List.replicate k sZ).flatten := by
  rw [Int.zero_tmod, rep_flat, List.replicate_succ]
  rfl
 have hR := sR_nil (mx := mx) (by omega) h1
 have hfl := spushR_flat hR x
 have he : spushR mx 0 0 0 [] x = (true, 0, 1, k + 1, sC x ++ (List.replicate k sZ).flatten) := by
  unfold spushR pushF
  rw [decide_eq_false (by omega : ¬ mx ≤ 0), cond_false, decide_eq_true (by rfl : (0 : Int) = ((0 : Nat) : Int)), cond_true, hg]
  rfl
 rw [he] at hfl
 constructor
 ·rw [k1, Int.toNat_natCast, hs]
  exact he
 ·unfold spush0_S0
  rw [k1, Int.toNat_natCast]
  have hs' := hs
  unfold sC sZ at hs'
  rw [hs']
  have hl : (rep sZ (k + 1)).length = (k + 1) * 1 := by rw [rep_flat, flat_len (w := 1) (fun e he => by rw [(List.mem_replicate.1 he).2]; rfl), List.length_replicate]
  have ht : Int.tmod 0 ((k + 1 : Nat) : Int) = 0 := Int.zero_tmod _
  rw [ht]
  refine ⟨hfl, beq_self_eq_true _, beq_self_eq_true _, ?_, ?_, ?_, ?_, ?_, ?_, ?_⟩
  ·show 0 + 0 * 1 + 1 ≤ (rep sZ (k + 1)).length
   rw [hl]; omega
  ·omega
  ·simp; omega
  ·omega
  ·omega
  ·omega
  ·simp; omega
def spush0c_pre (mx : Int) (x : ByteArray) : Prop := 0 < mx ∧ mx ≤ 65536
noncomputable def spush0c_v (mx : Int) (x : ByteArray) : Value := .bool (spushR mx 0 0 0 [] x).1
noncomputable def spush0c_h (mx : Int) (x : ByteArray) : Heap := [some (.cells [.int .i64 mx, .int .i64 (spushR mx 0 0 0 [] x).2.1, .int .i64 (spushR mx 0 0 0 [] x).2.2.1, .slice (some ⟨1, 0, none⟩) (spushR mx 0 0 0 [] x).2.2.2.1 0] 68 none), some (.cells (spushR mx 0 0 0 [] x).2.2.2.2 9 (some 1))]
theorem spush0c_call (mx : Int) (x : ByteArray) (h : spush0c_pre mx x) : CallOk E 35 [.pointer (some ⟨0, 0, none⟩), .string x] [some (.cells [.int .i64 mx, .int .i64 0, .int .i64 0, .slice none 0 0] 68 none)] (spush0c_v mx x) (spush0c_h mx x) := by
 obtain ⟨h0, h1⟩ := h
 obtain ⟨he, hS⟩ := spush0_eq h0 h1 x
 have hR := sR_nil (mx := mx) (by omega) h1
 have hfl := spushR_flat hR x
 obtain ⟨f', n', ln', L', hp, hR'⟩ := spush_in hR x h0
 have hlen := sR_len hR'
 have hln := (sR_n hR').2.2.2.2.1
 have hc := spush0_call mx x hS
 unfold spush0c_v spush0c_h
 rw [he] at hfl hp ⊢
 simp only [Prod.mk.injEq] at hp
 obtain ⟨_, e1, e2, e3, e4⟩ := hp
 rw [← e3, ← e4] at hlen
 rw [← e3] at hln
 refine callOk_flex (b := 1) (z := 1) (ok := [decide (0 + (bif decide (mx < 8) then mx else 8).toNat * 1 ≤ (setN (rep sZ (bif decide (mx < 8) then mx else 8).toNat) (0 + (Int.tmod 0 (((bif decide (mx < 8) then mx else 8).toNat : Nat) : Int)).toNat * 1) (sC x)).length), decide ((bif decide (mx < 8) then mx else 8).toNat ≤ maxLen), (setN (rep sZ (bif decide (mx < 8) then mx else 8).toNat) (0 + (Int.tmod 0 (((bif decide (mx < 8) then mx else 8).toNat : Nat) : Int)).toNat * 1) (sC x)).all flat]) hc (by kernel_rfl) ?_ (Nat.le_refl _)
 simp only [AllT.cons]
 refine ⟨decide_eq_true (by omega), decide_eq_true ?_, hfl, AllT.nil⟩
 show _ ≤ 9223372036854775807
 omega

def spush0c_ex (a : List Value) (h : Heap) : Int × ByteArray := ((toInt ((cellsOf h 0).getD 0 undef)), (toStr (a.getD 1 undef)))
noncomputable def spush0c_k : Ct := kS spush0c_ex [.ptr 0 0, .str] [.cells [.int .i64, .intC .i64 (0), .intC .i64 (0), .nilS] 68 none] (fun (a0, a1) => spush0c_pre a0 a1) (fun (a0, a1) => spush0c_v a0 a1) (fun (a0, a1) => spush0c_h a0 a1)
theorem spush0c_k_ok : KFor E 35 spush0c_k := kS_ok (fun x hx => spush0c_call (x.1) (x.2) hx) (fun _ _ => rfl) (fun _ _ => rfl)


/-! ### items -/
theorem mpush0_eq {mx : Int} (h0 : 0 < mx) (h1 : mx ≤ 65536) (x : mT) : mpushR mx 0 0 0 [] x = (true, 0, 1, (bif decide (mx < 8) then mx else 8).toNat, setN (rep mZ (bif decide (mx < 8) then mx else 8).toNat) (0 + (Int.tmod 0 (((bif decide (mx < 8) then mx else 8).toNat : Nat) : Int)).toNat * 3) (mC x)) ∧ mpush0_S0 mx x.1 x.2.1 x.2.2 := by
 have hg : growN mx 0 = (bif decide (mx < 8) then mx else 8).toNat := by
  unfold growN
  rw [show IntKind.i64.wrap (2 * ((0 : Nat) : Int)) = 0 from wrap64_in (by omega) (by omega)]
  rfl
 obtain ⟨k, k1, k2, k3⟩ : ∃ k : Nat, (bif decide (mx < 8) then mx else 8) = ((k + 1 : Nat) : Int) ∧ ((k + 1 : Nat) : Int) ≤ mx ∧ k < 8 := by
  by_cases c : mx < 8
  ·exact ⟨mx.toNat - 1, by rw [decide_eq_true c, cond_true]; omega, by omega, by omega⟩
  ·exact ⟨7, by rw [decide_eq_false c, cond_false]; rfl, by omega, by omega⟩
 rw [k1, Int.toNat_natCast] at hg
 have hs : setN (rep mZ (k + 1)) (0 + (Int.tmod 0 ((k + 1 : Nat) : Int)).toNat * 3) (mC x) = mC x ++ (List.replicate k mZ).flatten := by
  rw [Int.zero_tmod, rep_flat, List.replicate_succ]
  rfl
 have hR := mR_nil (mx := mx) (by omega) h1
 have hfl := mpushR_flat hR x
 have he : mpushR mx 0 0 0 [] x = (true, 0, 1, k + 1, mC x ++ (List.replicate k mZ).flatten) := by
  unfold mpushR pushF
  rw [decide_eq_false (by omega : ¬ mx ≤ 0), cond_false, decide_eq_true (by rfl : (0 : Int) = ((0 : Nat) : Int)), cond_true, hg]
  rfl
 rw [he] at hfl
 constructor
 ·rw [k1, Int.toNat_natCast, hs]
  exact he
 ·unfold mpush0_S0
  rw [k1, Int.toNat_natCast]
  have hs' := hs
  unfold mC mZ at hs'
  rw [hs']
  have hl : (rep mZ (k + 1)).length = (k + 1) * 3 := by rw [rep_flat, flat_len (w := 3) (fun e he => by rw [(List.mem_replicate.1 he).2]; rfl), List.length_replicate]
  have ht : Int.tmod 0 ((k + 1 : Nat) : Int) = 0 := Int.zero_tmod _
  rw [ht]
  refine ⟨hfl, beq_self_eq_true _, beq_self_eq_true _, ?_, ?_, ?_, ?_, ?_, ?_, ?_⟩
  ·show 0 + 0 * 3 + 3 ≤ (rep mZ (k + 1)).length
   rw [hl]; omega
  ·omega
  ·simp; omega
  ·omega
  ·omega
  ·omega
  ·simp; omega
def mpush0c_pre (mx : Int) (k o : Int) (x : ByteArray) : Prop := 0 < mx ∧ mx ≤ 65536
noncomputable def mpush0c_v (mx : Int) (k o : Int) (x : ByteArray) : Value := .bool (mpushR mx 0 0 0 [] (k, o, x)).1
noncomputable def mpush0c_h (mx : Int) (k o : Int) (x : ByteArray) : Heap := [some (.cells [.int .i64 mx, .int .i64 (mpushR mx 0 0 0 [] (k, o, x)).2.1, .int .i64 (mpushR mx 0 0 0 [] (k, o, x)).2.2.1, .slice (some ⟨1, 0, none⟩) (mpushR mx 0 0 0 [] (k, o, x)).2.2.2.1 0] 70 none), some (.cells (mpushR mx 0 0 0 [] (k, o, x)).2.2.2.2 30 (some 3))]
theorem mpush0c_call (mx : Int) (k o : Int) (x : ByteArray) (h : mpush0c_pre mx k o x) : CallOk E 31 [.pointer (some ⟨0, 0, none⟩), .agg #[.int .i64 k, .int .i64 o, .string x]] [some (.cells [.int .i64 mx, .int .i64 0, .int .i64 0, .slice none 0 0] 70 none)] (mpush0c_v mx k o x) (mpush0c_h mx k o x) := by
 obtain ⟨h0, h1⟩ := h
 obtain ⟨he, hS⟩ := mpush0_eq h0 h1 (k, o, x)
 have hR := mR_nil (mx := mx) (by omega) h1
 have hfl := mpushR_flat hR (k, o, x)
 obtain ⟨f', n', ln', L', hp, hR'⟩ := mpush_in hR (k, o, x) h0
 have hlen := mR_len hR'
 have hln := (mR_n hR').2.2.2.2.1
 have hc := mpush0_call mx k o x hS
 unfold mpush0c_v mpush0c_h
 rw [he] at hfl hp ⊢
 simp only [Prod.mk.injEq] at hp
 obtain ⟨_, e1, e2, e3, e4⟩ := hp
 rw [← e3, ← e4] at hlen
 rw [← e3] at hln
 refine callOk_flex (b := 1) (z := 3) (ok := [decide (0 + (bif decide (mx < 8) then mx else 8).toNat * 3 ≤ (setN (rep mZ (bif decide (mx < 8) then mx else 8).toNat) (0 + (Int.tmod 0 (((bif decide (mx < 8) then mx else 8).toNat : Nat) : Int)).toNat * 3) (mC (k, o, x))).length), decide ((bif decide (mx < 8) then mx else 8).toNat ≤ maxLen), (setN (rep mZ (bif decide (mx < 8) then mx else 8).toNat) (0 + (Int.tmod 0 (((bif decide (mx < 8) then mx else 8).toNat : Nat) : Int)).toNat * 3) (mC (k, o, x))).all flat]) hc (by kernel_rfl) ?_ (Nat.le_refl _)
 simp only [AllT.cons]
 refine ⟨decide_eq_true (by omega), decide_eq_true ?_, hfl, AllT.nil⟩
 show _ ≤ 9223372036854775807
 omega

def mpush0c_ex (a : List Value) (h : Heap) : Int × Int × Int × ByteArray := ((toInt ((cellsOf h 0).getD 0 undef)), (toInt ((aggOf (a.getD 1 undef)).getD 0 undef)), (toInt ((aggOf (a.getD 1 undef)).getD 1 undef)), (toStr ((aggOf (a.getD 1 undef)).getD 2 undef)))
noncomputable def mpush0c_k : Ct := kS mpush0c_ex [.ptr 0 0, .agg [.int .i64, .int .i64, .str]] [.cells [.int .i64, .intC .i64 (0), .intC .i64 (0), .nilS] 70 none] (fun (a0, a1, a2, a3) => mpush0c_pre a0 a1 a2 a3) (fun (a0, a1, a2, a3) => mpush0c_v a0 a1 a2 a3) (fun (a0, a1, a2, a3) => mpush0c_h a0 a1 a2 a3)
theorem mpush0c_k_ok : KFor E 31 mpush0c_k := kS_ok (fun x hx => mpush0c_call (x.1) (x.2.1) (x.2.2.1) (x.2.2.2) hx) (fun _ _ => rfl) (fun _ _ => rfl)


end Go.Proofs.Yticpjnmoiepafaa
