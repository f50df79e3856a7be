/-
  The document's own answer: one character at a place, as a contract.
-/
import Derived.Test.YtfpnjpbdaniomaaUtfBb20
import Derived.Test.YtfpnjpbdaniomaaUtfE20
import Derived.Test.YtfpnjpbdaniomaaAmSlim
set_option linter.unusedVariables false
set_option linter.unusedSimpArgs false
open Go Go.Am
namespace Go.Proofs.Ytfpnjpbdaniomaa
noncomputable def oneV (l : List UInt8) : Int :=
 if (runC (0, 0, 0, 0) l).2.1 = 0 then (runC (0, 0, 0, 0) l).1 else if (runC (0, 0, 0, 0) l).2.1 = 1 then 0 else -1 - (runC (0, 0, 0, 0) l).1
noncomputable def one_pre (s : ByteArray) (at' : Int) : Prop := 0 ≤ at' ∧ at' < slen s ∧ slen s ≤ 1000000
noncomputable def one_v (s : ByteArray) (at' : Int) : Value := .int .i64 (oneV ((toL s).drop at'.toNat))
noncomputable def one_h (s : ByteArray) (at' : Int) : Heap := []

theorem safe1 (s : ByteArray) (at' : Int) (hp : one_pre s at') : one_S1 s at' := by
 obtain ⟨h0, h1, h2⟩ := hp
 unfold one_S1
 simp only [show IntKind.i64.wrap (at' + 0) = at' + 0 from wrap64_in (by omega) (by omega), show IntKind.i64.wrap (at' + 1) = at' + 1 from wrap64_in (by omega) (by omega)]
 simp only [decide_eq_true_eq, decide_eq_false_iff_not, beq_iff_eq, beq_eq_false_iff_ne, ne_eq]
 repeat' first | apply And.intro | intro
 all_goals first | trivial | omega
theorem skip1 (s : ByteArray) (at' : Int) (hp : one_pre s at') (h : 127 < chr s (at' + 0).toNat) : Gets E 0 (one_h1 s at') (one_h2 s at') := by
 have hk := one_ok1 s at' (safe1 s at' hp)
 obtain ⟨h0, h1, h2⟩ := hp
 unfold one_t1 at hk
 simp only [show IntKind.i64.wrap (at' + 0) = at' + 0 from wrap64_in (by omega) (by omega), show IntKind.i64.wrap (at' + 1) = at' + 1 from wrap64_in (by omega) (by omega), show decide (at' + 0 < (slen s : Int)) = true from decide_eq_true (by omega), cond_true] at hk
 rw [show decide (chr s (at' + 0).toNat ≤ (127 : Int)) = false from decide_eq_false (by omega)] at hk
 exact one_go2 hk
theorem safe2 (s : ByteArray) (at' : Int) (hp : one_pre s at') : one_S2 s at' := by
 obtain ⟨h0, h1, h2⟩ := hp
 unfold one_S2
 simp only [show IntKind.i64.wrap (at' + 0) = at' + 0 from wrap64_in (by omega) (by omega), show IntKind.i64.wrap (at' + 1) = at' + 1 from wrap64_in (by omega) (by omega), show IntKind.i64.wrap (at' + 2) = at' + 2 from wrap64_in (by omega) (by omega)]
 simp only [decide_eq_true_eq, decide_eq_false_iff_not, beq_iff_eq, beq_eq_false_iff_ne, ne_eq]
 repeat' first | apply And.intro | intro
 all_goals first | trivial | omega
theorem skip2 (s : ByteArray) (at' : Int) (hp : one_pre s at') (h : chr s (at' + 0).toNat < 194 ∨ 223 < chr s (at' + 0).toNat) : Gets E 0 (one_h2 s at') (one_h3 s at' 0) := by
 have hk := one_ok2 s at' (safe2 s at' hp)
 obtain ⟨h0, h1, h2⟩ := hp
 unfold one_t2 at hk
 simp only [show IntKind.i64.wrap (at' + 0) = at' + 0 from wrap64_in (by omega) (by omega), show IntKind.i64.wrap (at' + 1) = at' + 1 from wrap64_in (by omega) (by omega), show IntKind.i64.wrap (at' + 2) = at' + 2 from wrap64_in (by omega) (by omega), show decide (at' + 0 < (slen s : Int)) = true from decide_eq_true (by omega), cond_true] at hk
 rcases h with h | h
 ·rw [show decide ((194 : Int) ≤ chr s (at' + 0).toNat) = false from decide_eq_false (by omega)] at hk
  exact one_go3 hk
 ·rw [show decide (chr s (at' + 0).toNat ≤ (223 : Int)) = false from decide_eq_false (by omega)] at hk
  simp only [cond_false, Bool.cond_self] at hk
  exact one_go3 hk
theorem safe3 (s : ByteArray) (at' m : Int) (hm : 0 ≤ m) (hp : one_pre s at') : one_S3 s at' m := by
 obtain ⟨h0, h1, h2⟩ := hp
 unfold one_S3
 simp only [show IntKind.i64.wrap (at' + 0) = at' + 0 from wrap64_in (by omega) (by omega), show IntKind.i64.wrap (at' + 1) = at' + 1 from wrap64_in (by omega) (by omega), show IntKind.i64.wrap (at' + 2) = at' + 2 from wrap64_in (by omega) (by omega), show IntKind.i64.wrap (at' + 3) = at' + 3 from wrap64_in (by omega) (by omega)]
 simp only [decide_eq_true_eq, decide_eq_false_iff_not, beq_iff_eq, beq_eq_false_iff_ne, ne_eq]
 repeat' first | apply And.intro | intro
 all_goals first | trivial | omega
theorem skip3 (s : ByteArray) (at' m : Int) (hm : 0 ≤ m) (hp : one_pre s at') (h : chr s (at' + 0).toNat < 224 ∨ 224 < chr s (at' + 0).toNat) : Gets E 0 (one_h3 s at' m) (one_h4 s at' m) := by
 have hk := one_ok3 s at' m (safe3 s at' m hm hp)
 obtain ⟨h0, h1, h2⟩ := hp
 unfold one_t3 at hk
 simp only [show IntKind.i64.wrap (at' + 0) = at' + 0 from wrap64_in (by omega) (by omega), show IntKind.i64.wrap (at' + 1) = at' + 1 from wrap64_in (by omega) (by omega), show IntKind.i64.wrap (at' + 2) = at' + 2 from wrap64_in (by omega) (by omega), show IntKind.i64.wrap (at' + 3) = at' + 3 from wrap64_in (by omega) (by omega), show decide (at' + 0 < (slen s : Int)) = true from decide_eq_true (by omega), cond_true, show decide (m < 0) = false from decide_eq_false (by omega)] at hk
 rcases h with h | h
 ·rw [show decide ((224 : Int) ≤ chr s (at' + 0).toNat) = false from decide_eq_false (by omega)] at hk
  exact one_go4 hk
 ·rw [show decide (chr s (at' + 0).toNat ≤ (224 : Int)) = false from decide_eq_false (by omega)] at hk
  simp only [cond_false, Bool.cond_self] at hk
  exact one_go4 hk
theorem safe4 (s : ByteArray) (at' m : Int) (hm : 0 ≤ m) (hp : one_pre s at') : one_S4 s at' m := by
 obtain ⟨h0, h1, h2⟩ := hp
 unfold one_S4
 simp only [show IntKind.i64.wrap (at' + 0) = at' + 0 from wrap64_in (by omega) (by omega), show IntKind.i64.wrap (at' + 1) = at' + 1 from wrap64_in (by omega) (by omega), show IntKind.i64.wrap (at' + 2) = at' + 2 from wrap64_in (by omega) (by omega), show IntKind.i64.wrap (at' + 3) = at' + 3 from wrap64_in (by omega) (by omega)]
 simp only [decide_eq_true_eq, decide_eq_false_iff_not, beq_iff_eq, beq_eq_false_iff_ne, ne_eq]
 repeat' first | apply And.intro | intro
 all_goals first | trivial | omega
theorem skip4 (s : ByteArray) (at' m : Int) (hm : 0 ≤ m) (hp : one_pre s at') (h : chr s (at' + 0).toNat < 225 ∨ 236 < chr s (at' + 0).toNat) : Gets E 0 (one_h4 s at' m) (one_h5 s at' m) := by
 have hk := one_ok4 s at' m (safe4 s at' m hm hp)
 obtain ⟨h0, h1, h2⟩ := hp
 unfold one_t4 at hk
 simp only [show IntKind.i64.wrap (at' + 0) = at' + 0 from wrap64_in (by omega) (by omega), show IntKind.i64.wrap (at' + 1) = at' + 1 from wrap64_in (by omega) (by omega), show IntKind.i64.wrap (at' + 2) = at' + 2 from wrap64_in (by omega) (by omega), show IntKind.i64.wrap (at' + 3) = at' + 3 from wrap64_in (by omega) (by omega), show decide (at' + 0 < (slen s : Int)) = true from decide_eq_true (by omega), cond_true, show decide (m < 0) = false from decide_eq_false (by omega)] at hk
 rcases h with h | h
 ·rw [show decide ((225 : Int) ≤ chr s (at' + 0).toNat) = false from decide_eq_false (by omega)] at hk
  exact one_go5 hk
 ·rw [show decide (chr s (at' + 0).toNat ≤ (236 : Int)) = false from decide_eq_false (by omega)] at hk
  simp only [cond_false, Bool.cond_self] at hk
  exact one_go5 hk
theorem safe5 (s : ByteArray) (at' m : Int) (hm : 0 ≤ m) (hp : one_pre s at') : one_S5 s at' m := by
 obtain ⟨h0, h1, h2⟩ := hp
 unfold one_S5
 simp only [show IntKind.i64.wrap (at' + 0) = at' + 0 from wrap64_in (by omega) (by omega), show IntKind.i64.wrap (at' + 1) = at' + 1 from wrap64_in (by omega) (by omega), show IntKind.i64.wrap (at' + 2) = at' + 2 from wrap64_in (by omega) (by omega), show IntKind.i64.wrap (at' + 3) = at' + 3 from wrap64_in (by omega) (by omega)]
 simp only [decide_eq_true_eq, decide_eq_false_iff_not, beq_iff_eq, beq_eq_false_iff_ne, ne_eq]
 repeat' first | apply And.intro | intro
 all_goals first | trivial | omega
theorem skip5 (s : ByteArray) (at' m : Int) (hm : 0 ≤ m) (hp : one_pre s at') (h : chr s (at' + 0).toNat < 237 ∨ 237 < chr s (at' + 0).toNat) : Gets E 0 (one_h5 s at' m) (one_h6 s at' m) := by
 have hk := one_ok5 s at' m (safe5 s at' m hm hp)
 obtain ⟨h0, h1, h2⟩ := hp
 unfold one_t5 at hk
 simp only [show IntKind.i64.wrap (at' + 0) = at' + 0 from wrap64_in (by omega) (by omega), show IntKind.i64.wrap (at' + 1) = at' + 1 from wrap64_in (by omega) (by omega), show IntKind.i64.wrap (at' + 2) = at' + 2 from wrap64_in (by omega) (by omega), show IntKind.i64.wrap (at' + 3) = at' + 3 from wrap64_in (by omega) (by omega), show decide (at' + 0 < (slen s : Int)) = true from decide_eq_true (by omega), cond_true, show decide (m < 0) = false from decide_eq_false (by omega)] at hk
 rcases h with h | h
 ·rw [show decide ((237 : Int) ≤ chr s (at' + 0).toNat) = false from decide_eq_false (by omega)] at hk
  exact one_go6 hk
 ·rw [show decide (chr s (at' + 0).toNat ≤ (237 : Int)) = false from decide_eq_false (by omega)] at hk
  simp only [cond_false, Bool.cond_self] at hk
  exact one_go6 hk
theorem safe6 (s : ByteArray) (at' m : Int) (hm : 0 ≤ m) (hp : one_pre s at') : one_S6 s at' m := by
 obtain ⟨h0, h1, h2⟩ := hp
 unfold one_S6
 simp only [show IntKind.i64.wrap (at' + 0) = at' + 0 from wrap64_in (by omega) (by omega), show IntKind.i64.wrap (at' + 1) = at' + 1 from wrap64_in (by omega) (by omega), show IntKind.i64.wrap (at' + 2) = at' + 2 from wrap64_in (by omega) (by omega), show IntKind.i64.wrap (at' + 3) = at' + 3 from wrap64_in (by omega) (by omega)]
 simp only [decide_eq_true_eq, decide_eq_false_iff_not, beq_iff_eq, beq_eq_false_iff_ne, ne_eq]
 repeat' first | apply And.intro | intro
 all_goals first | trivial | omega
theorem skip6 (s : ByteArray) (at' m : Int) (hm : 0 ≤ m) (hp : one_pre s at') (h : chr s (at' + 0).toNat < 238 ∨ 239 < chr s (at' + 0).toNat) : Gets E 0 (one_h6 s at' m) (one_h7 s at' m) := by
 have hk := one_ok6 s at' m (safe6 s at' m hm hp)
 obtain ⟨h0, h1, h2⟩ := hp
 unfold one_t6 at hk
 simp only [show IntKind.i64.wrap (at' + 0) = at' + 0 from wrap64_in (by omega) (by omega), show IntKind.i64.wrap (at' + 1) = at' + 1 from wrap64_in (by omega) (by omega), show IntKind.i64.wrap (at' + 2) = at' + 2 from wrap64_in (by omega) (by omega), show IntKind.i64.wrap (at' + 3) = at' + 3 from wrap64_in (by omega) (by omega), show decide (at' + 0 < (slen s : Int)) = true from decide_eq_true (by omega), cond_true, show decide (m < 0) = false from decide_eq_false (by omega)] at hk
 rcases h with h | h
 ·rw [show decide ((238 : Int) ≤ chr s (at' + 0).toNat) = false from decide_eq_false (by omega)] at hk
  exact one_go7 hk
 ·rw [show decide (chr s (at' + 0).toNat ≤ (239 : Int)) = false from decide_eq_false (by omega)] at hk
  simp only [cond_false, Bool.cond_self] at hk
  exact one_go7 hk
theorem safe7 (s : ByteArray) (at' m : Int) (hm : 0 ≤ m) (hp : one_pre s at') : one_S7 s at' m := by
 obtain ⟨h0, h1, h2⟩ := hp
 unfold one_S7
 simp only [show IntKind.i64.wrap (at' + 0) = at' + 0 from wrap64_in (by omega) (by omega), show IntKind.i64.wrap (at' + 1) = at' + 1 from wrap64_in (by omega) (by omega), show IntKind.i64.wrap (at' + 2) = at' + 2 from wrap64_in (by omega) (by omega), show IntKind.i64.wrap (at' + 3) = at' + 3 from wrap64_in (by omega) (by omega), show IntKind.i64.wrap (at' + 4) = at' + 4 from wrap64_in (by omega) (by omega)]
 simp only [decide_eq_true_eq, decide_eq_false_iff_not, beq_iff_eq, beq_eq_false_iff_ne, ne_eq]
 repeat' first | apply And.intro | intro
 all_goals first | trivial | omega
theorem skip7 (s : ByteArray) (at' m : Int) (hm : 0 ≤ m) (hp : one_pre s at') (h : chr s (at' + 0).toNat < 240 ∨ 240 < chr s (at' + 0).toNat) : Gets E 0 (one_h7 s at' m) (one_h8 s at' m) := by
 have hk := one_ok7 s at' m (safe7 s at' m hm hp)
 obtain ⟨h0, h1, h2⟩ := hp
 unfold one_t7 at hk
 simp only [show IntKind.i64.wrap (at' + 0) = at' + 0 from wrap64_in (by omega) (by omega), show IntKind.i64.wrap (at' + 1) = at' + 1 from wrap64_in (by omega) (by omega), show IntKind.i64.wrap (at' + 2) = at' + 2 from wrap64_in (by omega) (by omega), show IntKind.i64.wrap (at' + 3) = at' + 3 from wrap64_in (by omega) (by omega), show IntKind.i64.wrap (at' + 4) = at' + 4 from wrap64_in (by omega) (by omega), show decide (at' + 0 < (slen s : Int)) = true from decide_eq_true (by omega), cond_true, show decide (m < 0) = false from decide_eq_false (by omega)] at hk
 rcases h with h | h
 ·rw [show decide ((240 : Int) ≤ chr s (at' + 0).toNat) = false from decide_eq_false (by omega)] at hk
  exact one_go8 hk
 ·rw [show decide (chr s (at' + 0).toNat ≤ (240 : Int)) = false from decide_eq_false (by omega)] at hk
  simp only [cond_false, Bool.cond_self] at hk
  exact one_go8 hk
theorem safe8 (s : ByteArray) (at' m : Int) (hm : 0 ≤ m) (hp : one_pre s at') : one_S8 s at' m := by
 obtain ⟨h0, h1, h2⟩ := hp
 unfold one_S8
 simp only [show IntKind.i64.wrap (at' + 0) = at' + 0 from wrap64_in (by omega) (by omega), show IntKind.i64.wrap (at' + 1) = at' + 1 from wrap64_in (by omega) (by omega), show IntKind.i64.wrap (at' + 2) = at' + 2 from wrap64_in (by omega) (by omega), show IntKind.i64.wrap (at' + 3) = at' + 3 from wrap64_in (by omega) (by omega), show IntKind.i64.wrap (at' + 4) = at' + 4 from wrap64_in (by omega) (by omega)]
 simp only [decide_eq_true_eq, decide_eq_false_iff_not, beq_iff_eq, beq_eq_false_iff_ne, ne_eq]
 repeat' first | apply And.intro | intro
 all_goals first | trivial | omega
theorem skip8 (s : ByteArray) (at' m : Int) (hm : 0 ≤ m) (hp : one_pre s at') (h : chr s (at' + 0).toNat < 241 ∨ 243 < chr s (at' + 0).toNat) : Gets E 0 (one_h8 s at' m) (one_h9 s at' m) := by
 have hk := one_ok8 s at' m (safe8 s at' m hm hp)
 obtain ⟨h0, h1, h2⟩ := hp
 unfold one_t8 at hk
 simp only [show IntKind.i64.wrap (at' + 0) = at' + 0 from wrap64_in (by omega) (by omega), show IntKind.i64.wrap (at' + 1) = at' + 1 from wrap64_in (by omega) (by omega), show IntKind.i64.wrap (at' + 2) = at' + 2 from wrap64_in (by omega) (by omega), show IntKind.i64.wrap (at' + 3) = at' + 3 from wrap64_in (by omega) (by omega), show IntKind.i64.wrap (at' + 4) = at' + 4 from wrap64_in (by omega) (by omega), show decide (at' + 0 < (slen s : Int)) = true from decide_eq_true (by omega), cond_true, show decide (m < 0) = false from decide_eq_false (by omega)] at hk
 rcases h with h | h
 ·rw [show decide ((241 : Int) ≤ chr s (at' + 0).toNat) = false from decide_eq_false (by omega)] at hk
  exact one_go9 hk
 ·rw [show decide (chr s (at' + 0).toNat ≤ (243 : Int)) = false from decide_eq_false (by omega)] at hk
  simp only [cond_false, Bool.cond_self] at hk
  exact one_go9 hk
theorem safe9 (s : ByteArray) (at' m : Int) (hm : 0 ≤ m) (hp : one_pre s at') : one_S9 s at' m := by
 obtain ⟨h0, h1, h2⟩ := hp
 unfold one_S9
 simp only [show IntKind.i64.wrap (at' + 0) = at' + 0 from wrap64_in (by omega) (by omega), show IntKind.i64.wrap (at' + 1) = at' + 1 from wrap64_in (by omega) (by omega), show IntKind.i64.wrap (at' + 2) = at' + 2 from wrap64_in (by omega) (by omega), show IntKind.i64.wrap (at' + 3) = at' + 3 from wrap64_in (by omega) (by omega), show IntKind.i64.wrap (at' + 4) = at' + 4 from wrap64_in (by omega) (by omega)]
 simp only [decide_eq_true_eq, decide_eq_false_iff_not, beq_iff_eq, beq_eq_false_iff_ne, ne_eq]
 repeat' first | apply And.intro | intro
 all_goals first | trivial | omega
theorem skip9 (s : ByteArray) (at' m : Int) (hm : 0 ≤ m) (hp : one_pre s at') (h : chr s (at' + 0).toNat < 244 ∨ 244 < chr s (at' + 0).toNat) : Gets E 0 (one_h9 s at' m) (one_h10 s at' m) := by
 have hk := one_ok9 s at' m (safe9 s at' m hm hp)
 obtain ⟨h0, h1, h2⟩ := hp
 unfold one_t9 at hk
 simp only [show IntKind.i64.wrap (at' + 0) = at' + 0 from wrap64_in (by omega) (by omega), show IntKind.i64.wrap (at' + 1) = at' + 1 from wrap64_in (by omega) (by omega), show IntKind.i64.wrap (at' + 2) = at' + 2 from wrap64_in (by omega) (by omega), show IntKind.i64.wrap (at' + 3) = at' + 3 from wrap64_in (by omega) (by omega), show IntKind.i64.wrap (at' + 4) = at' + 4 from wrap64_in (by omega) (by omega), show decide (at' + 0 < (slen s : Int)) = true from decide_eq_true (by omega), cond_true, show decide (m < 0) = false from decide_eq_false (by omega)] at hk
 rcases h with h | h
 ·rw [show decide ((244 : Int) ≤ chr s (at' + 0).toNat) = false from decide_eq_false (by omega)] at hk
  exact one_go10 hk
 ·rw [show decide (chr s (at' + 0).toNat ≤ (244 : Int)) = false from decide_eq_false (by omega)] at hk
  simp only [cond_false, Bool.cond_self] at hk
  exact one_go10 hk
theorem tail10 (s : ByteArray) (at' m : Int) (hm : 0 ≤ m ∧ m ≤ 10) : AEnds E 61 0 (one_h10 s at' m) (.int .i64 (-1 - m)) [] := by
 have hk := one_ok10 s at' m (by unfold one_S10; trivial)
 unfold one_t10 at hk
 rw [wrap64_in (by omega) (by omega)] at hk
 exact one_end hk
theorem tail9 (s : ByteArray) (at' m : Int) (hm : 0 ≤ m ∧ m ≤ 10) (hp : one_pre s at') (h : chr s (at' + 0).toNat < 244) : AEnds E 61 0 (one_h9 s at' m) (.int .i64 (-1 - m)) [] :=
 (skip9 s at' m hm.1 hp (.inl h)).ends (tail10 s at' m hm)
theorem tail8 (s : ByteArray) (at' m : Int) (hm : 0 ≤ m ∧ m ≤ 10) (hp : one_pre s at') (h : chr s (at' + 0).toNat < 241) : AEnds E 61 0 (one_h8 s at' m) (.int .i64 (-1 - m)) [] :=
 (skip8 s at' m hm.1 hp (.inl h)).ends (tail9 s at' m hm hp (by omega))
theorem tail7 (s : ByteArray) (at' m : Int) (hm : 0 ≤ m ∧ m ≤ 10) (hp : one_pre s at') (h : chr s (at' + 0).toNat < 240) : AEnds E 61 0 (one_h7 s at' m) (.int .i64 (-1 - m)) [] :=
 (skip7 s at' m hm.1 hp (.inl h)).ends (tail8 s at' m hm hp (by omega))
theorem tail6 (s : ByteArray) (at' m : Int) (hm : 0 ≤ m ∧ m ≤ 10) (hp : one_pre s at') (h : chr s (at' + 0).toNat < 238) : AEnds E 61 0 (one_h6 s at' m) (.int .i64 (-1 - m)) [] :=
 (skip6 s at' m hm.1 hp (.inl h)).ends (tail7 s at' m hm hp (by omega))
theorem tail5 (s : ByteArray) (at' m : Int) (hm : 0 ≤ m ∧ m ≤ 10) (hp : one_pre s at') (h : chr s (at' + 0).toNat < 237) : AEnds E 61 0 (one_h5 s at' m) (.int .i64 (-1 - m)) [] :=
 (skip5 s at' m hm.1 hp (.inl h)).ends (tail6 s at' m hm hp (by omega))
theorem tail4 (s : ByteArray) (at' m : Int) (hm : 0 ≤ m ∧ m ≤ 10) (hp : one_pre s at') (h : chr s (at' + 0).toNat < 225) : AEnds E 61 0 (one_h4 s at' m) (.int .i64 (-1 - m)) [] :=
 (skip4 s at' m hm.1 hp (.inl h)).ends (tail5 s at' m hm hp (by omega))
theorem tail3 (s : ByteArray) (at' m : Int) (hm : 0 ≤ m ∧ m ≤ 10) (hp : one_pre s at') (h : chr s (at' + 0).toNat < 224) : AEnds E 61 0 (one_h3 s at' m) (.int .i64 (-1 - m)) [] :=
 (skip3 s at' m hm.1 hp (.inl h)).ends (tail4 s at' m hm hp (by omega))
theorem tail2 (s : ByteArray) (at' : Int) (hp : one_pre s at') (h : chr s (at' + 0).toNat < 194) : AEnds E 61 0 (one_h2 s at') (.int .i64 (-1 - 0)) [] :=
 (skip2 s at' hp (.inl h)).ends (tail3 s at' 0 (by omega) hp (by omega))
theorem lead2 (s : ByteArray) (at' : Int) (hp : one_pre s at') (h : 127 < chr s (at' + 0).toNat) : Gets E 0 (one_h1 s at') (one_h2 s at') :=
 skip1 s at' hp h
theorem lead3 (s : ByteArray) (at' : Int) (hp : one_pre s at') (h : 223 < chr s (at' + 0).toNat) : Gets E 0 (one_h1 s at') (one_h3 s at' 0) :=
 (lead2 s at' hp (by omega)).trans (skip2 s at' hp (.inr h))
theorem lead4 (s : ByteArray) (at' : Int) (hp : one_pre s at') (h : 224 < chr s (at' + 0).toNat) : Gets E 0 (one_h1 s at') (one_h4 s at' 0) :=
 (lead3 s at' hp (by omega)).trans (skip3 s at' 0 (by omega) hp (.inr h))
theorem lead5 (s : ByteArray) (at' : Int) (hp : one_pre s at') (h : 236 < chr s (at' + 0).toNat) : Gets E 0 (one_h1 s at') (one_h5 s at' 0) :=
 (lead4 s at' hp (by omega)).trans (skip4 s at' 0 (by omega) hp (.inr h))
theorem lead6 (s : ByteArray) (at' : Int) (hp : one_pre s at') (h : 237 < chr s (at' + 0).toNat) : Gets E 0 (one_h1 s at') (one_h6 s at' 0) :=
 (lead5 s at' hp (by omega)).trans (skip5 s at' 0 (by omega) hp (.inr h))
theorem lead7 (s : ByteArray) (at' : Int) (hp : one_pre s at') (h : 239 < chr s (at' + 0).toNat) : Gets E 0 (one_h1 s at') (one_h7 s at' 0) :=
 (lead6 s at' hp (by omega)).trans (skip6 s at' 0 (by omega) hp (.inr h))
theorem lead8 (s : ByteArray) (at' : Int) (hp : one_pre s at') (h : 240 < chr s (at' + 0).toNat) : Gets E 0 (one_h1 s at') (one_h8 s at' 0) :=
 (lead7 s at' hp (by omega)).trans (skip7 s at' 0 (by omega) hp (.inr h))
theorem lead9 (s : ByteArray) (at' : Int) (hp : one_pre s at') (h : 243 < chr s (at' + 0).toNat) : Gets E 0 (one_h1 s at') (one_h9 s at' 0) :=
 (lead8 s at' hp (by omega)).trans (skip8 s at' 0 (by omega) hp (.inr h))
theorem lead10 (s : ByteArray) (at' : Int) (hp : one_pre s at') (h : 244 < chr s (at' + 0).toNat) : Gets E 0 (one_h1 s at') (one_h10 s at' 0) :=
 (lead9 s at' hp (by omega)).trans (skip9 s at' 0 (by omega) hp (.inr h))
theorem hit1 (s : ByteArray) (at' : Int) (hp : one_pre s at') (h : chr s (at' + 0).toNat ≤ 127) : AEnds E 61 0 (one_h1 s at') (.int .i64 1) [] := by
 have hk := one_ok1 s at' (safe1 s at' hp)
 have ht (m : Int) (hm : 0 ≤ m ∧ m ≤ 10) := tail2 s at' hp (by omega)
 obtain ⟨h0, h1, h2⟩ := hp
 unfold one_t1 at hk
 simp only [show IntKind.i64.wrap (at' + 0) = at' + 0 from wrap64_in (by omega) (by omega), show IntKind.i64.wrap (at' + 1) = at' + 1 from wrap64_in (by omega) (by omega), show decide (at' + 0 < (slen s : Int)) = true from decide_eq_true (by omega), cond_true] at hk
 rw [show decide (chr s (at' + 0).toNat ≤ (127 : Int)) = true from decide_eq_true (by omega)] at hk
 simp only [cond_true] at hk
 exact one_end hk
theorem hit2 (s : ByteArray) (at' : Int) (hp : one_pre s at') (h : 194 ≤ chr s (at' + 0).toNat ∧ chr s (at' + 0).toNat ≤ 223) : AEnds E 61 0 (one_h2 s at') (.int .i64 (if (slen s : Int) ≤ at' + 1 then 0 else if 128 ≤ chr s (at' + 1).toNat ∧ chr s (at' + 1).toNat ≤ 191 then 2 else -1 - 1)) [] := by
 have hk := one_ok2 s at' (safe2 s at' hp)
 have ht (m : Int) (hm : 0 ≤ m ∧ m ≤ 10) := tail3 s at' m hm hp (by omega)
 obtain ⟨h0, h1, h2⟩ := hp
 unfold one_t2 at hk
 simp only [show IntKind.i64.wrap (at' + 0) = at' + 0 from wrap64_in (by omega) (by omega), show IntKind.i64.wrap (at' + 1) = at' + 1 from wrap64_in (by omega) (by omega), show IntKind.i64.wrap (at' + 2) = at' + 2 from wrap64_in (by omega) (by omega), show decide (at' + 0 < (slen s : Int)) = true from decide_eq_true (by omega), cond_true] at hk
 rw [show decide ((194 : Int) ≤ chr s (at' + 0).toNat) = true from decide_eq_true (by omega), show decide (chr s (at' + 0).toNat ≤ (223 : Int)) = true from decide_eq_true (by omega)] at hk
 simp only [cond_true] at hk
 by_cases c1 : (slen s : Int) ≤ at' + 1
 ·rw [show decide (at' + 1 < (slen s : Int)) = false from decide_eq_false (by omega)] at hk
  simp only [cond_false] at hk
  rw [if_pos c1]; exact one_end hk
 ·rw [show decide (at' + 1 < (slen s : Int)) = true from decide_eq_true (by omega)] at hk
  simp only [cond_true] at hk
  rw [if_neg c1]
  by_cases d1 : 128 ≤ chr s (at' + 1).toNat ∧ chr s (at' + 1).toNat ≤ 191
  ·rw [show decide ((128 : Int) ≤ chr s (at' + 1).toNat) = true from decide_eq_true (by omega), show decide (chr s (at' + 1).toNat ≤ (191 : Int)) = true from decide_eq_true (by omega)] at hk
   simp only [cond_true] at hk
   rw [if_pos d1]
   exact one_end hk
  ·rw [if_neg d1]
   by_cases e1 : 128 ≤ chr s (at' + 1).toNat
   ·rw [show decide ((128 : Int) ≤ chr s (at' + 1).toNat) = true from decide_eq_true (by omega), show decide (chr s (at' + 1).toNat ≤ (191 : Int)) = false from decide_eq_false (by omega)] at hk
    simp only [cond_true, cond_false] at hk
    exact (one_go3 hk).ends (ht 1 (by omega))
   ·rw [show decide ((128 : Int) ≤ chr s (at' + 1).toNat) = false from decide_eq_false (by omega)] at hk
    simp only [cond_true, cond_false] at hk
    exact (one_go3 hk).ends (ht 1 (by omega))
theorem hit3 (s : ByteArray) (at' : Int) (hp : one_pre s at') (h : 224 ≤ chr s (at' + 0).toNat ∧ chr s (at' + 0).toNat ≤ 224) : AEnds E 61 0 (one_h3 s at' 0) (.int .i64 (if (slen s : Int) ≤ at' + 1 then 0 else if 160 ≤ chr s (at' + 1).toNat ∧ chr s (at' + 1).toNat ≤ 191 then (if (slen s : Int) ≤ at' + 2 then 0 else if 128 ≤ chr s (at' + 2).toNat ∧ chr s (at' + 2).toNat ≤ 191 then 3 else -1 - 2) else -1 - 1)) [] := by
 have hk := one_ok3 s at' 0 (safe3 s at' 0 (by omega) hp)
 have ht (m : Int) (hm : 0 ≤ m ∧ m ≤ 10) := tail4 s at' m hm hp (by omega)
 obtain ⟨h0, h1, h2⟩ := hp
 unfold one_t3 at hk
 simp only [show IntKind.i64.wrap (at' + 0) = at' + 0 from wrap64_in (by omega) (by omega), show IntKind.i64.wrap (at' + 1) = at' + 1 from wrap64_in (by omega) (by omega), show IntKind.i64.wrap (at' + 2) = at' + 2 from wrap64_in (by omega) (by omega), show IntKind.i64.wrap (at' + 3) = at' + 3 from wrap64_in (by omega) (by omega), show decide (at' + 0 < (slen s : Int)) = true from decide_eq_true (by omega), cond_true] at hk
 rw [show decide ((224 : Int) ≤ chr s (at' + 0).toNat) = true from decide_eq_true (by omega), show decide (chr s (at' + 0).toNat ≤ (224 : Int)) = true from decide_eq_true (by omega)] at hk
 simp only [cond_true] at hk
 by_cases c1 : (slen s : Int) ≤ at' + 1
 ·rw [show decide (at' + 1 < (slen s : Int)) = false from decide_eq_false (by omega)] at hk
  simp only [cond_false] at hk
  rw [if_pos c1]; exact one_end hk
 ·rw [show decide (at' + 1 < (slen s : Int)) = true from decide_eq_true (by omega)] at hk
  simp only [cond_true] at hk
  rw [if_neg c1]
  by_cases d1 : 160 ≤ chr s (at' + 1).toNat ∧ chr s (at' + 1).toNat ≤ 191
  ·rw [show decide ((160 : Int) ≤ chr s (at' + 1).toNat) = true from decide_eq_true (by omega), show decide (chr s (at' + 1).toNat ≤ (191 : Int)) = true from decide_eq_true (by omega)] at hk
   simp only [cond_true] at hk
   rw [if_pos d1]
   by_cases c2 : (slen s : Int) ≤ at' + 2
   ·rw [show decide (at' + 2 < (slen s : Int)) = false from decide_eq_false (by omega)] at hk
    simp only [cond_false] at hk
    rw [if_pos c2]; exact one_end hk
   ·rw [show decide (at' + 2 < (slen s : Int)) = true from decide_eq_true (by omega)] at hk
    simp only [cond_true] at hk
    rw [if_neg c2]
    by_cases d2 : 128 ≤ chr s (at' + 2).toNat ∧ chr s (at' + 2).toNat ≤ 191
    ·rw [show decide ((128 : Int) ≤ chr s (at' + 2).toNat) = true from decide_eq_true (by omega), show decide (chr s (at' + 2).toNat ≤ (191 : Int)) = true from decide_eq_true (by omega)] at hk
     simp only [cond_true] at hk
     rw [if_pos d2]
     exact one_end hk
    ·rw [if_neg d2]
     by_cases e2 : 128 ≤ chr s (at' + 2).toNat
     ·rw [show decide ((128 : Int) ≤ chr s (at' + 2).toNat) = true from decide_eq_true (by omega), show decide (chr s (at' + 2).toNat ≤ (191 : Int)) = false from decide_eq_false (by omega), show decide ((0 : Int) < 2) = true by decide] at hk
      simp only [cond_true, cond_false] at hk
      exact (one_go4 hk).ends (ht 2 (by omega))
     ·rw [show decide ((128 : Int) ≤ chr s (at' + 2).toNat) = false from decide_eq_false (by omega), show decide ((0 : Int) < 2) = true by decide] at hk
      simp only [cond_true, cond_false] at hk
      exact (one_go4 hk).ends (ht 2 (by omega))
  ·rw [if_neg d1]
   by_cases e1 : 160 ≤ chr s (at' + 1).toNat
   ·rw [show decide ((160 : Int) ≤ chr s (at' + 1).toNat) = true from decide_eq_true (by omega), show decide (chr s (at' + 1).toNat ≤ (191 : Int)) = false from decide_eq_false (by omega), show decide ((0 : Int) < 1) = true by decide] at hk
    simp only [cond_true, cond_false] at hk
    exact (one_go4 hk).ends (ht 1 (by omega))
   ·rw [show decide ((160 : Int) ≤ chr s (at' + 1).toNat) = false from decide_eq_false (by omega), show decide ((0 : Int) < 1) = true by decide] at hk
    simp only [cond_true, cond_false] at hk
    exact (one_go4 hk).ends (ht 1 (by omega))
theorem hit4 (s : ByteArray) (at' : Int) (hp : one_pre s at') (h : 225 ≤ chr s (at' + 0).toNat ∧ chr s (at' + 0).toNat ≤ 236) : AEnds E 61 0 (one_h4 s at' 0) (.int .i64 (if (slen s : Int) ≤ at' + 1 then 0 else if 128 ≤ chr s (at' + 1).toNat ∧ chr s (at' + 1).toNat ≤ 191 then (if (slen s : Int) ≤ at' + 2 then 0 else if 128 ≤ chr s (at' + 2).toNat ∧ chr s (at' + 2).toNat ≤ 191 then 3 else -1 - 2) else -1 - 1)) [] := by
 have hk := one_ok4 s at' 0 (safe4 s at' 0 (by omega) hp)
 have ht (m : Int) (hm : 0 ≤ m ∧ m ≤ 10) := tail5 s at' m hm hp (by omega)
 obtain ⟨h0, h1, h2⟩ := hp
 unfold one_t4 at hk
 simp only [show IntKind.i64.wrap (at' + 0) = at' + 0 from wrap64_in (by omega) (by omega), show IntKind.i64.wrap (at' + 1) = at' + 1 from wrap64_in (by omega) (by omega), show IntKind.i64.wrap (at' + 2) = at' + 2 from wrap64_in (by omega) (by omega), show IntKind.i64.wrap (at' + 3) = at' + 3 from wrap64_in (by omega) (by omega), show decide (at' + 0 < (slen s : Int)) = true from decide_eq_true (by omega), cond_true] at hk
 rw [show decide ((225 : Int) ≤ chr s (at' + 0).toNat) = true from decide_eq_true (by omega), show decide (chr s (at' + 0).toNat ≤ (236 : Int)) = true from decide_eq_true (by omega)] at hk
 simp only [cond_true] at hk
 by_cases c1 : (slen s : Int) ≤ at' + 1
 ·rw [show decide (at' + 1 < (slen s : Int)) = false from decide_eq_false (by omega)] at hk
  simp only [cond_false] at hk
  rw [if_pos c1]; exact one_end hk
 ·rw [show decide (at' + 1 < (slen s : Int)) = true from decide_eq_true (by omega)] at hk
  simp only [cond_true] at hk
  rw [if_neg c1]
  by_cases d1 : 128 ≤ chr s (at' + 1).toNat ∧ chr s (at' + 1).toNat ≤ 191
  ·rw [show decide ((128 : Int) ≤ chr s (at' + 1).toNat) = true from decide_eq_true (by omega), show decide (chr s (at' + 1).toNat ≤ (191 : Int)) = true from decide_eq_true (by omega)] at hk
   simp only [cond_true] at hk
   rw [if_pos d1]
   by_cases c2 : (slen s : Int) ≤ at' + 2
   ·rw [show decide (at' + 2 < (slen s : Int)) = false from decide_eq_false (by omega)] at hk
    simp only [cond_false] at hk
    rw [if_pos c2]; exact one_end hk
   ·rw [show decide (at' + 2 < (slen s : Int)) = true from decide_eq_true (by omega)] at hk
    simp only [cond_true] at hk
    rw [if_neg c2]
    by_cases d2 : 128 ≤ chr s (at' + 2).toNat ∧ chr s (at' + 2).toNat ≤ 191
    ·rw [show decide ((128 : Int) ≤ chr s (at' + 2).toNat) = true from decide_eq_true (by omega), show decide (chr s (at' + 2).toNat ≤ (191 : Int)) = true from decide_eq_true (by omega)] at hk
     simp only [cond_true] at hk
     rw [if_pos d2]
     exact one_end hk
    ·rw [if_neg d2]
     by_cases e2 : 128 ≤ chr s (at' + 2).toNat
     ·rw [show decide ((128 : Int) ≤ chr s (at' + 2).toNat) = true from decide_eq_true (by omega), show decide (chr s (at' + 2).toNat ≤ (191 : Int)) = false from decide_eq_false (by omega), show decide ((0 : Int) < 2) = true by decide] at hk
      simp only [cond_true, cond_false] at hk
      exact (one_go5 hk).ends (ht 2 (by omega))
     ·rw [show decide ((128 : Int) ≤ chr s (at' + 2).toNat) = false from decide_eq_false (by omega), show decide ((0 : Int) < 2) = true by decide] at hk
      simp only [cond_true, cond_false] at hk
      exact (one_go5 hk).ends (ht 2 (by omega))
  ·rw [if_neg d1]
   by_cases e1 : 128 ≤ chr s (at' + 1).toNat
   ·rw [show decide ((128 : Int) ≤ chr s (at' + 1).toNat) = true from decide_eq_true (by omega), show decide (chr s (at' + 1).toNat ≤ (191 : Int)) = false from decide_eq_false (by omega), show decide ((0 : Int) < 1) = true by decide] at hk
    simp only [cond_true, cond_false] at hk
    exact (one_go5 hk).ends (ht 1 (by omega))
   ·rw [show decide ((128 : Int) ≤ chr s (at' + 1).toNat) = false from decide_eq_false (by omega), show decide ((0 : Int) < 1) = true by decide] at hk
    simp only [cond_true, cond_false] at hk
    exact (one_go5 hk).ends (ht 1 (by omega))
theorem hit5 (s : ByteArray) (at' : Int) (hp : one_pre s at') (h : 237 ≤ chr s (at' + 0).toNat ∧ chr s (at' + 0).toNat ≤ 237) : AEnds E 61 0 (one_h5 s at' 0) (.int .i64 (if (slen s : Int) ≤ at' + 1 then 0 else if 128 ≤ chr s (at' + 1).toNat ∧ chr s (at' + 1).toNat ≤ 159 then (if (slen s : Int) ≤ at' + 2 then 0 else if 128 ≤ chr s (at' + 2).toNat ∧ chr s (at' + 2).toNat ≤ 191 then 3 else -1 - 2) else -1 - 1)) [] := by
 have hk := one_ok5 s at' 0 (safe5 s at' 0 (by omega) hp)
 have ht (m : Int) (hm : 0 ≤ m ∧ m ≤ 10) := tail6 s at' m hm hp (by omega)
 obtain ⟨h0, h1, h2⟩ := hp
 unfold one_t5 at hk
 simp only [show IntKind.i64.wrap (at' + 0) = at' + 0 from wrap64_in (by omega) (by omega), show IntKind.i64.wrap (at' + 1) = at' + 1 from wrap64_in (by omega) (by omega), show IntKind.i64.wrap (at' + 2) = at' + 2 from wrap64_in (by omega) (by omega), show IntKind.i64.wrap (at' + 3) = at' + 3 from wrap64_in (by omega) (by omega), show decide (at' + 0 < (slen s : Int)) = true from decide_eq_true (by omega), cond_true] at hk
 rw [show decide ((237 : Int) ≤ chr s (at' + 0).toNat) = true from decide_eq_true (by omega), show decide (chr s (at' + 0).toNat ≤ (237 : Int)) = true from decide_eq_true (by omega)] at hk
 simp only [cond_true] at hk
 by_cases c1 : (slen s : Int) ≤ at' + 1
 ·rw [show decide (at' + 1 < (slen s : Int)) = false from decide_eq_false (by omega)] at hk
  simp only [cond_false] at hk
  rw [if_pos c1]; exact one_end hk
 ·rw [show decide (at' + 1 < (slen s : Int)) = true from decide_eq_true (by omega)] at hk
  simp only [cond_true] at hk
  rw [if_neg c1]
  by_cases d1 : 128 ≤ chr s (at' + 1).toNat ∧ chr s (at' + 1).toNat ≤ 159
  ·rw [show decide ((128 : Int) ≤ chr s (at' + 1).toNat) = true from decide_eq_true (by omega), show decide (chr s (at' + 1).toNat ≤ (159 : Int)) = true from decide_eq_true (by omega)] at hk
   simp only [cond_true] at hk
   rw [if_pos d1]
   by_cases c2 : (slen s : Int) ≤ at' + 2
   ·rw [show decide (at' + 2 < (slen s : Int)) = false from decide_eq_false (by omega)] at hk
    simp only [cond_false] at hk
    rw [if_pos c2]; exact one_end hk
   ·rw [show decide (at' + 2 < (slen s : Int)) = true from decide_eq_true (by omega)] at hk
    simp only [cond_true] at hk
    rw [if_neg c2]
    by_cases d2 : 128 ≤ chr s (at' + 2).toNat ∧ chr s (at' + 2).toNat ≤ 191
    ·rw [show decide ((128 : Int) ≤ chr s (at' + 2).toNat) = true from decide_eq_true (by omega), show decide (chr s (at' + 2).toNat ≤ (191 : Int)) = true from decide_eq_true (by omega)] at hk
     simp only [cond_true] at hk
     rw [if_pos d2]
     exact one_end hk
    ·rw [if_neg d2]
     by_cases e2 : 128 ≤ chr s (at' + 2).toNat
     ·rw [show decide ((128 : Int) ≤ chr s (at' + 2).toNat) = true from decide_eq_true (by omega), show decide (chr s (at' + 2).toNat ≤ (191 : Int)) = false from decide_eq_false (by omega), show decide ((0 : Int) < 2) = true by decide] at hk
      simp only [cond_true, cond_false] at hk
      exact (one_go6 hk).ends (ht 2 (by omega))
     ·rw [show decide ((128 : Int) ≤ chr s (at' + 2).toNat) = false from decide_eq_false (by omega), show decide ((0 : Int) < 2) = true by decide] at hk
      simp only [cond_true, cond_false] at hk
      exact (one_go6 hk).ends (ht 2 (by omega))
  ·rw [if_neg d1]
   by_cases e1 : 128 ≤ chr s (at' + 1).toNat
   ·rw [show decide ((128 : Int) ≤ chr s (at' + 1).toNat) = true from decide_eq_true (by omega), show decide (chr s (at' + 1).toNat ≤ (159 : Int)) = false from decide_eq_false (by omega), show decide ((0 : Int) < 1) = true by decide] at hk
    simp only [cond_true, cond_false] at hk
    exact (one_go6 hk).ends (ht 1 (by omega))
   ·rw [show decide ((128 : Int) ≤ chr s (at' + 1).toNat) = false from decide_eq_false (by omega), show decide ((0 : Int) < 1) = true by decide] at hk
    simp only [cond_true, cond_false] at hk
    exact (one_go6 hk).ends (ht 1 (by omega))
theorem hit6 (s : ByteArray) (at' : Int) (hp : one_pre s at') (h : 238 ≤ chr s (at' + 0).toNat ∧ chr s (at' + 0).toNat ≤ 239) : AEnds E 61 0 (one_h6 s at' 0) (.int .i64 (if (slen s : Int) ≤ at' + 1 then 0 else if 128 ≤ chr s (at' + 1).toNat ∧ chr s (at' + 1).toNat ≤ 191 then (if (slen s : Int) ≤ at' + 2 then 0 else if 128 ≤ chr s (at' + 2).toNat ∧ chr s (at' + 2).toNat ≤ 191 then 3 else -1 - 2) else -1 - 1)) [] := by
 have hk := one_ok6 s at' 0 (safe6 s at' 0 (by omega) hp)
 have ht (m : Int) (hm : 0 ≤ m ∧ m ≤ 10) := tail7 s at' m hm hp (by omega)
 obtain ⟨h0, h1, h2⟩ := hp
 unfold one_t6 at hk
 simp only [show IntKind.i64.wrap (at' + 0) = at' + 0 from wrap64_in (by omega) (by omega), show IntKind.i64.wrap (at' + 1) = at' + 1 from wrap64_in (by omega) (by omega), show IntKind.i64.wrap (at' + 2) = at' + 2 from wrap64_in (by omega) (by omega), show IntKind.i64.wrap (at' + 3) = at' + 3 from wrap64_in (by omega) (by omega), show decide (at' + 0 < (slen s : Int)) = true from decide_eq_true (by omega), cond_true] at hk
 rw [show decide ((238 : Int) ≤ chr s (at' + 0).toNat) = true from decide_eq_true (by omega), show decide (chr s (at' + 0).toNat ≤ (239 : Int)) = true from decide_eq_true (by omega)] at hk
 simp only [cond_true] at hk
 by_cases c1 : (slen s : Int) ≤ at' + 1
 ·rw [show decide (at' + 1 < (slen s : Int)) = false from decide_eq_false (by omega)] at hk
  simp only [cond_false] at hk
  rw [if_pos c1]; exact one_end hk
 ·rw [show decide (at' + 1 < (slen s : Int)) = true from decide_eq_true (by omega)] at hk
  simp only [cond_true] at hk
  rw [if_neg c1]
  by_cases d1 : 128 ≤ chr s (at' + 1).toNat ∧ chr s (at' + 1).toNat ≤ 191
  ·rw [show decide ((128 : Int) ≤ chr s (at' + 1).toNat) = true from decide_eq_true (by omega), show decide (chr s (at' + 1).toNat ≤ (191 : Int)) = true from decide_eq_true (by omega)] at hk
   simp only [cond_true] at hk
   rw [if_pos d1]
   by_cases c2 : (slen s : Int) ≤ at' + 2
   ·rw [show decide (at' + 2 < (slen s : Int)) = false from decide_eq_false (by omega)] at hk
    simp only [cond_false] at hk
    rw [if_pos c2]; exact one_end hk
   ·rw [show decide (at' + 2 < (slen s : Int)) = true from decide_eq_true (by omega)] at hk
    simp only [cond_true] at hk
    rw [if_neg c2]
    by_cases d2 : 128 ≤ chr s (at' + 2).toNat ∧ chr s (at' + 2).toNat ≤ 191
    ·rw [show decide ((128 : Int) ≤ chr s (at' + 2).toNat) = true from decide_eq_true (by omega), show decide (chr s (at' + 2).toNat ≤ (191 : Int)) = true from decide_eq_true (by omega)] at hk
     simp only [cond_true] at hk
     rw [if_pos d2]
     exact one_end hk
    ·rw [if_neg d2]
     by_cases e2 : 128 ≤ chr s (at' + 2).toNat
     ·rw [show decide ((128 : Int) ≤ chr s (at' + 2).toNat) = true from decide_eq_true (by omega), show decide (chr s (at' + 2).toNat ≤ (191 : Int)) = false from decide_eq_false (by omega), show decide ((0 : Int) < 2) = true by decide] at hk
      simp only [cond_true, cond_false] at hk
      exact (one_go7 hk).ends (ht 2 (by omega))
     ·rw [show decide ((128 : Int) ≤ chr s (at' + 2).toNat) = false from decide_eq_false (by omega), show decide ((0 : Int) < 2) = true by decide] at hk
      simp only [cond_true, cond_false] at hk
      exact (one_go7 hk).ends (ht 2 (by omega))
  ·rw [if_neg d1]
   by_cases e1 : 128 ≤ chr s (at' + 1).toNat
   ·rw [show decide ((128 : Int) ≤ chr s (at' + 1).toNat) = true from decide_eq_true (by omega), show decide (chr s (at' + 1).toNat ≤ (191 : Int)) = false from decide_eq_false (by omega), show decide ((0 : Int) < 1) = true by decide] at hk
    simp only [cond_true, cond_false] at hk
    exact (one_go7 hk).ends (ht 1 (by omega))
   ·rw [show decide ((128 : Int) ≤ chr s (at' + 1).toNat) = false from decide_eq_false (by omega), show decide ((0 : Int) < 1) = true by decide] at hk
    simp only [cond_true, cond_false] at hk
    exact (one_go7 hk).ends (ht 1 (by omega))
theorem hit7 (s : ByteArray) (at' : Int) (hp : one_pre s at') (h : 240 ≤ chr s (at' + 0).toNat ∧ chr s (at' + 0).toNat ≤ 240) : AEnds E 61 0 (one_h7 s at' 0) (.int .i64 (if (slen s : Int) ≤ at' + 1 then 0 else if 144 ≤ chr s (at' + 1).toNat ∧ chr s (at' + 1).toNat ≤ 191 then (if (slen s : Int) ≤ at' + 2 then 0 else if 128 ≤ chr s (at' + 2).toNat ∧ chr s (at' + 2).toNat ≤ 191 then (if (slen s : Int) ≤ at' + 3 then 0 else if 128 ≤ chr s (at' + 3).toNat ∧ chr s (at' + 3).toNat ≤ 191 then 4 else -1 - 3) else -1 - 2) else -1 - 1)) [] := by
 have hk := one_ok7 s at' 0 (safe7 s at' 0 (by omega) hp)
 have ht (m : Int) (hm : 0 ≤ m ∧ m ≤ 10) := tail8 s at' m hm hp (by omega)
 obtain ⟨h0, h1, h2⟩ := hp
 unfold one_t7 at hk
 simp only [show IntKind.i64.wrap (at' + 0) = at' + 0 from wrap64_in (by omega) (by omega), show IntKind.i64.wrap (at' + 1) = at' + 1 from wrap64_in (by omega) (by omega), show IntKind.i64.wrap (at' + 2) = at' + 2 from wrap64_in (by omega) (by omega), show IntKind.i64.wrap (at' + 3) = at' + 3 from wrap64_in (by omega) (by omega), show IntKind.i64.wrap (at' + 4) = at' + 4 from wrap64_in (by omega) (by omega), show decide (at' + 0 < (slen s : Int)) = true from decide_eq_true (by omega), cond_true] at hk
 rw [show decide ((240 : Int) ≤ chr s (at' + 0).toNat) = true from decide_eq_true (by omega), show decide (chr s (at' + 0).toNat ≤ (240 : Int)) = true from decide_eq_true (by omega)] at hk
 simp only [cond_true] at hk
 by_cases c1 : (slen s : Int) ≤ at' + 1
 ·rw [show decide (at' + 1 < (slen s : Int)) = false from decide_eq_false (by omega)] at hk
  simp only [cond_false] at hk
  rw [if_pos c1]; exact one_end hk
 ·rw [show decide (at' + 1 < (slen s : Int)) = true from decide_eq_true (by omega)] at hk
  simp only [cond_true] at hk
  rw [if_neg c1]
  by_cases d1 : 144 ≤ chr s (at' + 1).toNat ∧ chr s (at' + 1).toNat ≤ 191
  ·rw [show decide ((144 : Int) ≤ chr s (at' + 1).toNat) = true from decide_eq_true (by omega), show decide (chr s (at' + 1).toNat ≤ (191 : Int)) = true from decide_eq_true (by omega)] at hk
   simp only [cond_true] at hk
   rw [if_pos d1]
   by_cases c2 : (slen s : Int) ≤ at' + 2
   ·rw [show decide (at' + 2 < (slen s : Int)) = false from decide_eq_false (by omega)] at hk
    simp only [cond_false] at hk
    rw [if_pos c2]; exact one_end hk
   ·rw [show decide (at' + 2 < (slen s : Int)) = true from decide_eq_true (by omega)] at hk
    simp only [cond_true] at hk
    rw [if_neg c2]
    by_cases d2 : 128 ≤ chr s (at' + 2).toNat ∧ chr s (at' + 2).toNat ≤ 191
    ·rw [show decide ((128 : Int) ≤ chr s (at' + 2).toNat) = true from decide_eq_true (by omega), show decide (chr s (at' + 2).toNat ≤ (191 : Int)) = true from decide_eq_true (by omega)] at hk
     simp only [cond_true] at hk
     rw [if_pos d2]
     by_cases c3 : (slen s : Int) ≤ at' + 3
     ·rw [show decide (at' + 3 < (slen s : Int)) = false from decide_eq_false (by omega)] at hk
      simp only [cond_false] at hk
      rw [if_pos c3]; exact one_end hk
     ·rw [show decide (at' + 3 < (slen s : Int)) = true from decide_eq_true (by omega)] at hk
      simp only [cond_true] at hk
      rw [if_neg c3]
      by_cases d3 : 128 ≤ chr s (at' + 3).toNat ∧ chr s (at' + 3).toNat ≤ 191
      ·rw [show decide ((128 : Int) ≤ chr s (at' + 3).toNat) = true from decide_eq_true (by omega), show decide (chr s (at' + 3).toNat ≤ (191 : Int)) = true from decide_eq_true (by omega)] at hk
       simp only [cond_true] at hk
       rw [if_pos d3]
       exact one_end hk
      ·rw [if_neg d3]
       by_cases e3 : 128 ≤ chr s (at' + 3).toNat
       ·rw [show decide ((128 : Int) ≤ chr s (at' + 3).toNat) = true from decide_eq_true (by omega), show decide (chr s (at' + 3).toNat ≤ (191 : Int)) = false from decide_eq_false (by omega), show decide ((0 : Int) < 3) = true by decide] at hk
        simp only [cond_true, cond_false] at hk
        exact (one_go8 hk).ends (ht 3 (by omega))
       ·rw [show decide ((128 : Int) ≤ chr s (at' + 3).toNat) = false from decide_eq_false (by omega), show decide ((0 : Int) < 3) = true by decide] at hk
        simp only [cond_true, cond_false] at hk
        exact (one_go8 hk).ends (ht 3 (by omega))
    ·rw [if_neg d2]
     by_cases e2 : 128 ≤ chr s (at' + 2).toNat
     ·rw [show decide ((128 : Int) ≤ chr s (at' + 2).toNat) = true from decide_eq_true (by omega), show decide (chr s (at' + 2).toNat ≤ (191 : Int)) = false from decide_eq_false (by omega), show decide ((0 : Int) < 2) = true by decide] at hk
      simp only [cond_true, cond_false] at hk
      exact (one_go8 hk).ends (ht 2 (by omega))
     ·rw [show decide ((128 : Int) ≤ chr s (at' + 2).toNat) = false from decide_eq_false (by omega), show decide ((0 : Int) < 2) = true by decide] at hk
      simp only [cond_true, cond_false] at hk
      exact (one_go8 hk).ends (ht 2 (by omega))
  ·rw [if_neg d1]
   by_cases e1 : 144 ≤ chr s (at' + 1).toNat
   ·rw [show decide ((144 : Int) ≤ chr s (at' + 1).toNat) = true from decide_eq_true (by omega), show decide (chr s (at' + 1).toNat ≤ (191 : Int)) = false from decide_eq_false (by omega), show decide ((0 : Int) < 1) = true by decide] at hk
    simp only [cond_true, cond_false] at hk
    exact (one_go8 hk).ends (ht 1 (by omega))
   ·rw [show decide ((144 : Int) ≤ chr s (at' + 1).toNat) = false from decide_eq_false (by omega), show decide ((0 : Int) < 1) = true by decide] at hk
    simp only [cond_true, cond_false] at hk
    exact (one_go8 hk).ends (ht 1 (by omega))
theorem hit8 (s : ByteArray) (at' : Int) (hp : one_pre s at') (h : 241 ≤ chr s (at' + 0).toNat ∧ chr s (at' + 0).toNat ≤ 243) : AEnds E 61 0 (one_h8 s at' 0) (.int .i64 (if (slen s : Int) ≤ at' + 1 then 0 else if 128 ≤ chr s (at' + 1).toNat ∧ chr s (at' + 1).toNat ≤ 191 then (if (slen s : Int) ≤ at' + 2 then 0 else if 128 ≤ chr s (at' + 2).toNat ∧ chr s (at' + 2).toNat ≤ 191 then (if (slen s : Int) ≤ at' + 3 then 0 else if 128 ≤ chr s (at' + 3).toNat ∧ chr s (at' + 3).toNat ≤ 191 then 4 else -1 - 3) else -1 - 2) else -1 - 1)) [] := by
 have hk := one_ok8 s at' 0 (safe8 s at' 0 (by omega) hp)
 have ht (m : Int) (hm : 0 ≤ m ∧ m ≤ 10) := tail9 s at' m hm hp (by omega)
 obtain ⟨h0, h1, h2⟩ := hp
 unfold one_t8 at hk
 simp only [show IntKind.i64.wrap (at' + 0) = at' + 0 from wrap64_in (by omega) (by omega), show IntKind.i64.wrap (at' + 1) = at' + 1 from wrap64_in (by omega) (by omega), show IntKind.i64.wrap (at' + 2) = at' + 2 from wrap64_in (by omega) (by omega), show IntKind.i64.wrap (at' + 3) = at' + 3 from wrap64_in (by omega) (by omega), show IntKind.i64.wrap (at' + 4) = at' + 4 from wrap64_in (by omega) (by omega), show decide (at' + 0 < (slen s : Int)) = true from decide_eq_true (by omega), cond_true] at hk
 rw [show decide ((241 : Int) ≤ chr s (at' + 0).toNat) = true from decide_eq_true (by omega), show decide (chr s (at' + 0).toNat ≤ (243 : Int)) = true from decide_eq_true (by omega)] at hk
 simp only [cond_true] at hk
 by_cases c1 : (slen s : Int) ≤ at' + 1
 ·rw [show decide (at' + 1 < (slen s : Int)) = false from decide_eq_false (by omega)] at hk
  simp only [cond_false] at hk
  rw [if_pos c1]; exact one_end hk
 ·rw [show decide (at' + 1 < (slen s : Int)) = true from decide_eq_true (by omega)] at hk
  simp only [cond_true] at hk
  rw [if_neg c1]
  by_cases d1 : 128 ≤ chr s (at' + 1).toNat ∧ chr s (at' + 1).toNat ≤ 191
  ·rw [show decide ((128 : Int) ≤ chr s (at' + 1).toNat) = true from decide_eq_true (by omega), show decide (chr s (at' + 1).toNat ≤ (191 : Int)) = true from decide_eq_true (by omega)] at hk
   simp only [cond_true] at hk
   rw [if_pos d1]
   by_cases c2 : (slen s : Int) ≤ at' + 2
   ·rw [show decide (at' + 2 < (slen s : Int)) = false from decide_eq_false (by omega)] at hk
    simp only [cond_false] at hk
    rw [if_pos c2]; exact one_end hk
   ·rw [show decide (at' + 2 < (slen s : Int)) = true from decide_eq_true (by omega)] at hk
    simp only [cond_true] at hk
    rw [if_neg c2]
    by_cases d2 : 128 ≤ chr s (at' + 2).toNat ∧ chr s (at' + 2).toNat ≤ 191
    ·rw [show decide ((128 : Int) ≤ chr s (at' + 2).toNat) = true from decide_eq_true (by omega), show decide (chr s (at' + 2).toNat ≤ (191 : Int)) = true from decide_eq_true (by omega)] at hk
     simp only [cond_true] at hk
     rw [if_pos d2]
     by_cases c3 : (slen s : Int) ≤ at' + 3
     ·rw [show decide (at' + 3 < (slen s : Int)) = false from decide_eq_false (by omega)] at hk
      simp only [cond_false] at hk
      rw [if_pos c3]; exact one_end hk
     ·rw [show decide (at' + 3 < (slen s : Int)) = true from decide_eq_true (by omega)] at hk
      simp only [cond_true] at hk
      rw [if_neg c3]
      by_cases d3 : 128 ≤ chr s (at' + 3).toNat ∧ chr s (at' + 3).toNat ≤ 191
      ·rw [show decide ((128 : Int) ≤ chr s (at' + 3).toNat) = true from decide_eq_true (by omega), show decide (chr s (at' + 3).toNat ≤ (191 : Int)) = true from decide_eq_true (by omega)] at hk
       simp only [cond_true] at hk
       rw [if_pos d3]
       exact one_end hk
      ·rw [if_neg d3]
       by_cases e3 : 128 ≤ chr s (at' + 3).toNat
       ·rw [show decide ((128 : Int) ≤ chr s (at' + 3).toNat) = true from decide_eq_true (by omega), show decide (chr s (at' + 3).toNat ≤ (191 : Int)) = false from decide_eq_false (by omega), show decide ((0 : Int) < 3) = true by decide] at hk
        simp only [cond_true, cond_false] at hk
        exact (one_go9 hk).ends (ht 3 (by omega))
       ·rw [show decide ((128 : Int) ≤ chr s (at' + 3).toNat) = false from decide_eq_false (by omega), show decide ((0 : Int) < 3) = true by decide] at hk
        simp only [cond_true, cond_false] at hk
        exact (one_go9 hk).ends (ht 3 (by omega))
    ·rw [if_neg d2]
     by_cases e2 : 128 ≤ chr s (at' + 2).toNat
     ·rw [show decide ((128 : Int) ≤ chr s (at' + 2).toNat) = true from decide_eq_true (by omega), show decide (chr s (at' + 2).toNat ≤ (191 : Int)) = false from decide_eq_false (by omega), show decide ((0 : Int) < 2) = true by decide] at hk
      simp only [cond_true, cond_false] at hk
      exact (one_go9 hk).ends (ht 2 (by omega))
     ·rw [show decide ((128 : Int) ≤ chr s (at' + 2).toNat) = false from decide_eq_false (by omega), show decide ((0 : Int) < 2) = true by decide] at hk
      simp only [cond_true, cond_false] at hk
      exact (one_go9 hk).ends (ht 2 (by omega))
  ·rw [if_neg d1]
   by_cases e1 : 128 ≤ chr s (at' + 1).toNat
   ·rw [show decide ((128 : Int) ≤ chr s (at' + 1).toNat) = true from decide_eq_true (by omega), show decide (chr s (at' + 1).toNat ≤ (191 : Int)) = false from decide_eq_false (by omega), show decide ((0 : Int) < 1) = true by decide] at hk
    simp only [cond_true, cond_false] at hk
    exact (one_go9 hk).ends (ht 1 (by omega))
   ·rw [show decide ((128 : Int) ≤ chr s (at' + 1).toNat) = false from decide_eq_false (by omega), show decide ((0 : Int) < 1) = true by decide] at hk
    simp only [cond_true, cond_false] at hk
    exact (one_go9 hk).ends (ht 1 (by omega))
theorem hit9 (s : ByteArray) (at' : Int) (hp : one_pre s at') (h : 244 ≤ chr s (at' + 0).toNat ∧ chr s (at' + 0).toNat ≤ 244) : AEnds E 61 0 (one_h9 s at' 0) (.int .i64 (if (slen s : Int) ≤ at' + 1 then 0 else if 128 ≤ chr s (at' + 1).toNat ∧ chr s (at' + 1).toNat ≤ 143 then (if (slen s : Int) ≤ at' + 2 then 0 else if 128 ≤ chr s (at' + 2).toNat ∧ chr s (at' + 2).toNat ≤ 191 then (if (slen s : Int) ≤ at' + 3 then 0 else if 128 ≤ chr s (at' + 3).toNat ∧ chr s (at' + 3).toNat ≤ 191 then 4 else -1 - 3) else -1 - 2) else -1 - 1)) [] := by
 have hk := one_ok9 s at' 0 (safe9 s at' 0 (by omega) hp)
 have ht (m : Int) (hm : 0 ≤ m ∧ m ≤ 10) := tail10 s at' m hm
 obtain ⟨h0, h1, h2⟩ := hp
 unfold one_t9 at hk
 simp only [show IntKind.i64.wrap (at' + 0) = at' + 0 from wrap64_in (by omega) (by omega), show IntKind.i64.wrap (at' + 1) = at' + 1 from wrap64_in (by omega) (by omega), show IntKind.i64.wrap (at' + 2) = at' + 2 from wrap64_in (by omega) (by omega), show IntKind.i64.wrap (at' + 3) = at' + 3 from wrap64_in (by omega) (by omega), show IntKind.i64.wrap (at' + 4) = at' + 4 from wrap64_in (by omega) (by omega), show decide (at' + 0 < (slen s : Int)) = true from decide_eq_true (by omega), cond_true] at hk
 rw [show decide ((244 : Int) ≤ chr s (at' + 0).toNat) = true from decide_eq_true (by omega), show decide (chr s (at' + 0).toNat ≤ (244 : Int)) = true from decide_eq_true (by omega)] at hk
 simp only [cond_true] at hk
 by_cases c1 : (slen s : Int) ≤ at' + 1
 ·rw [show decide (at' + 1 < (slen s : Int)) = false from decide_eq_false (by omega)] at hk
  simp only [cond_false] at hk
  rw [if_pos c1]; exact one_end hk
 ·rw [show decide (at' + 1 < (slen s : Int)) = true from decide_eq_true (by omega)] at hk
  simp only [cond_true] at hk
  rw [if_neg c1]
  by_cases d1 : 128 ≤ chr s (at' + 1).toNat ∧ chr s (at' + 1).toNat ≤ 143
  ·rw [show decide ((128 : Int) ≤ chr s (at' + 1).toNat) = true from decide_eq_true (by omega), show decide (chr s (at' + 1).toNat ≤ (143 : Int)) = true from decide_eq_true (by omega)] at hk
   simp only [cond_true] at hk
   rw [if_pos d1]
   by_cases c2 : (slen s : Int) ≤ at' + 2
   ·rw [show decide (at' + 2 < (slen s : Int)) = false from decide_eq_false (by omega)] at hk
    simp only [cond_false] at hk
    rw [if_pos c2]; exact one_end hk
   ·rw [show decide (at' + 2 < (slen s : Int)) = true from decide_eq_true (by omega)] at hk
    simp only [cond_true] at hk
    rw [if_neg c2]
    by_cases d2 : 128 ≤ chr s (at' + 2).toNat ∧ chr s (at' + 2).toNat ≤ 191
    ·rw [show decide ((128 : Int) ≤ chr s (at' + 2).toNat) = true from decide_eq_true (by omega), show decide (chr s (at' + 2).toNat ≤ (191 : Int)) = true from decide_eq_true (by omega)] at hk
     simp only [cond_true] at hk
     rw [if_pos d2]
     by_cases c3 : (slen s : Int) ≤ at' + 3
     ·rw [show decide (at' + 3 < (slen s : Int)) = false from decide_eq_false (by omega)] at hk
      simp only [cond_false] at hk
      rw [if_pos c3]; exact one_end hk
     ·rw [show decide (at' + 3 < (slen s : Int)) = true from decide_eq_true (by omega)] at hk
      simp only [cond_true] at hk
      rw [if_neg c3]
      by_cases d3 : 128 ≤ chr s (at' + 3).toNat ∧ chr s (at' + 3).toNat ≤ 191
      ·rw [show decide ((128 : Int) ≤ chr s (at' + 3).toNat) = true from decide_eq_true (by omega), show decide (chr s (at' + 3).toNat ≤ (191 : Int)) = true from decide_eq_true (by omega)] at hk
       simp only [cond_true] at hk
       rw [if_pos d3]
       exact one_end hk
      ·rw [if_neg d3]
       by_cases e3 : 128 ≤ chr s (at' + 3).toNat
       ·rw [show decide ((128 : Int) ≤ chr s (at' + 3).toNat) = true from decide_eq_true (by omega), show decide (chr s (at' + 3).toNat ≤ (191 : Int)) = false from decide_eq_false (by omega), show decide ((0 : Int) < 3) = true by decide] at hk
        simp only [cond_true, cond_false] at hk
        exact (one_go10 hk).ends (ht 3 (by omega))
       ·rw [show decide ((128 : Int) ≤ chr s (at' + 3).toNat) = false from decide_eq_false (by omega), show decide ((0 : Int) < 3) = true by decide] at hk
        simp only [cond_true, cond_false] at hk
        exact (one_go10 hk).ends (ht 3 (by omega))
    ·rw [if_neg d2]
     by_cases e2 : 128 ≤ chr s (at' + 2).toNat
     ·rw [show decide ((128 : Int) ≤ chr s (at' + 2).toNat) = true from decide_eq_true (by omega), show decide (chr s (at' + 2).toNat ≤ (191 : Int)) = false from decide_eq_false (by omega), show decide ((0 : Int) < 2) = true by decide] at hk
      simp only [cond_true, cond_false] at hk
      exact (one_go10 hk).ends (ht 2 (by omega))
     ·rw [show decide ((128 : Int) ≤ chr s (at' + 2).toNat) = false from decide_eq_false (by omega), show decide ((0 : Int) < 2) = true by decide] at hk
      simp only [cond_true, cond_false] at hk
      exact (one_go10 hk).ends (ht 2 (by omega))
  ·rw [if_neg d1]
   by_cases e1 : 128 ≤ chr s (at' + 1).toNat
   ·rw [show decide ((128 : Int) ≤ chr s (at' + 1).toNat) = true from decide_eq_true (by omega), show decide (chr s (at' + 1).toNat ≤ (143 : Int)) = false from decide_eq_false (by omega), show decide ((0 : Int) < 1) = true by decide] at hk
    simp only [cond_true, cond_false] at hk
    exact (one_go10 hk).ends (ht 1 (by omega))
   ·rw [show decide ((128 : Int) ≤ chr s (at' + 1).toNat) = false from decide_eq_false (by omega), show decide ((0 : Int) < 1) = true by decide] at hk
    simp only [cond_true, cond_false] at hk
    exact (one_go10 hk).ends (ht 1 (by omega))

noncomputable def rc : Nat → Int → Int → List UInt8 → Nat × Nat
 | _, _, _, [] => (0, 1)
 | l, lo, hi, b :: r => if (b.toNat : Int) < lo ∨ hi < b.toNat then (0, 2) else if l = 1 then (1, 0) else ((rc (l - 1) 128 191 r).1 + 1, (rc (l - 1) 128 191 r).2)
theorem runC_rc : ∀ (L : List UInt8) (l : Nat) (lo hi x : Int), 1 ≤ l → l ≤ 3 → ((runC (l, lo, hi, x) L).1, (runC (l, lo, hi, x) L).2.1) = rc l lo hi L
 | [], l, lo, hi, x, h1, h3 => by simp [runC, rc]
 | b :: r, l, lo, hi, x, h1, h3 => by
  unfold runC rc
  rw [sst_in _ _ _ _ _ (by omega)]
  by_cases c : (b.toNat : Int) < lo ∨ hi < b.toNat
  ·simp [c]
  ·simp only [if_neg c]
   rw [wrap64_in (by omega) (by omega)]
   by_cases d : l = 1
   ·subst d; simp
   ·rw [if_neg (by omega), if_neg d, show ((l : Int) - 1) = ((l - 1 : Nat) : Int) by omega]
    have := runC_rc r (l - 1) 128 191 (ior IntKind.i32 (ishl IntKind.i32 x 6) (IntKind.i32.wrap (iand IntKind.u8 (b.toNat : Int) 63))) (by omega) (by omega)
    rw [← this]

theorem runC_start {b : UInt8} {q : Q} (r : List UInt8) (e1 : begins_t0 b.toNat = q) (e2 : 0 ≤ q.1) : runC (0, 0, 0, 0) (b :: r) = if q.1 = 0 then (1, 0, q) else ((runC q r).1 + 1, (runC q r).2) := by
 have e : sst (0, 0, 0, 0) b.toNat = (true, q) := by
  rw [sst_start, if_neg (by rw [e1]; omega), e1]
 simp only [runC, e]
theorem runC_bad {b : UInt8} (r : List UInt8) (e1 : (begins_t0 b.toNat).1 < 0) : runC (0, 0, 0, 0) (b :: r) = (0, 2, 0, 0, 0, 0) := by
 have e : sst (0, 0, 0, 0) b.toNat = (false, 0, 0, 0, 0) := by
  rw [sst_start, if_pos e1]
 simp only [runC, e]
theorem first_byte (n : Int) (h0 : 0 ≤ n) (h1 : n < 256) : (∃ q, bg n = some q ∧ begins_t0 n = q ∧ 0 ≤ q.1) ∨ (begins_t0 n).1 < 0 := by
 have hb := begins_bg n h0 h1
 split at hb
 ·rename_i q hq
  exact .inl ⟨q, hq, hb.1, hb.2⟩
 ·exact .inr hb


noncomputable def valOf (k : Nat × Nat) (d : Nat) : Int := if k.2 = 0 then (k.1 + d : Nat) else if k.2 = 1 then 0 else -1 - ((k.1 + d : Nat) : Int)
theorem valOf_succ (k : Nat × Nat) (d : Nat) : valOf (k.1 + 1, k.2) d = valOf k (d + 1) := by
 unfold valOf
 rw [show k.1 + 1 + d = k.1 + (d + 1) by omega]
theorem stepv (s : ByteArray) (i d l : Nat) (lo hi : Int) : valOf (rc l lo hi ((toL s).drop (i + d))) d =
  (if (slen s : Int) ≤ (i : Int) + d then 0 else if lo ≤ chr s ((i : Int) + d).toNat ∧ chr s ((i : Int) + d).toNat ≤ hi then (if l = 1 then ((d + 1 : Nat) : Int) else valOf (rc (l - 1) 128 191 ((toL s).drop (i + (d + 1)))) (d + 1)) else -1 - (d : Int)) := by
 have e : ((i : Int) + d).toNat = i + d := by omega
 rw [e]
 rcases Nat.lt_or_ge (i + d) (toL s).length with h | h
 ·rw [if_neg (by unfold slen; omega), List.drop_eq_getElem_cons h, rc]
  have hc : chr s (i + d) = ((toL s)[i + d].toNat : Int) := by simp [chr, List.getD_eq_getElem?_getD, h]
  rw [hc]
  by_cases c : ((toL s)[i + d].toNat : Int) < lo ∨ hi < (toL s)[i + d].toNat
  ·rw [if_pos c, if_neg (by omega)]
   simp [valOf]
  ·rw [if_neg c, if_pos (show lo ≤ ((toL s)[i + d].toNat : Int) ∧ ((toL s)[i + d].toNat : Int) ≤ hi by omega)]
   by_cases hl : l = 1
   ·rw [if_pos hl, if_pos hl]
    simp [valOf, Nat.add_comm]
   ·rw [if_neg hl, if_neg hl, valOf_succ]
    rfl
 ·rw [if_pos (by unfold slen; omega), List.drop_eq_nil_of_le h, rc]
  simp [valOf]
theorem oneV_run {s : ByteArray} {i : Nat} (h : i < (toL s).length) {l : Nat} {lo hi x : Int} (hl : 1 ≤ l ∧ l ≤ 3) (e1 : begins_t0 (toL s)[i].toNat = ((l : Int), lo, hi, x)) : oneV ((toL s).drop i) = valOf (rc l lo hi ((toL s).drop (i + 1))) 1 := by
 rw [List.drop_eq_getElem_cons h]
 unfold oneV
 have hz : ¬ ((l : Int) = 0) := by omega
 rw [show runC (0, 0, 0, 0) ((toL s)[i] :: (toL s).drop (i + 1)) = ((runC ((l : Int), lo, hi, x) ((toL s).drop (i + 1))).1 + 1, (runC ((l : Int), lo, hi, x) ((toL s).drop (i + 1))).2) from (runC_start _ e1 (by show (0 : Int) ≤ (l : Int); omega)).trans (if_neg hz)]
 have hr := runC_rc ((toL s).drop (i + 1)) l lo hi x hl.1 hl.2
 generalize rc l lo hi ((toL s).drop (i + 1)) = k at hr ⊢
 obtain ⟨k1, k2⟩ := k
 simp only [Prod.mk.injEq] at hr
 simp only [valOf, hr.1, hr.2]
theorem begins_neg (b : Int) (h0 : 0 ≤ b) (h1 : b < 256) (h : (begins_t0 b).1 < 0) : (128 ≤ b ∧ b < 194) ∨ 244 < b := by
 have hb := begins_bg b h0 h1
 apply Decidable.byContradiction
 intro hn
 have hq : ∃ q, bg b = some q := by
  unfold bg
  repeat' split
  all_goals first | exact ⟨_, rfl⟩ | (exfalso; omega)
 obtain ⟨q, hq⟩ := hq
 rw [hq] at hb
 have h2 := hb.2
 rw [hb.1] at h
 omega
theorem one_val (s : ByteArray) (at' : Int) (hp : one_pre s at') : AEnds E 61 0 (one_h1 s at') (.int .i64 (oneV ((toL s).drop at'.toNat))) [] := by
 have hp' := hp
 obtain ⟨h0, h1, h2⟩ := hp'
 obtain ⟨i, rfl⟩ : ∃ i : Nat, at' = i := ⟨at'.toNat, by omega⟩
 have hl : i < (toL s).length := by unfold slen at h1; omega
 have hc : chr s i = ((toL s)[i].toNat : Int) := by simp [chr, List.getD_eq_getElem?_getD, hl]
 obtain ⟨u0, u1⟩ := u8_lt (toL s)[i]
 have e0 : ((i : Int) + 0).toNat = i := by omega
 rw [Int.toNat_natCast]
 have v1 (l : Nat) (lo hi x : Int) (hll : 1 ≤ l ∧ l ≤ 3) (e1 : begins_t0 (toL s)[i].toNat = ((l : Int), lo, hi, x)) := oneV_run hl hll e1
 have s1 (l : Nat) (lo hi : Int) := stepv s i 1 l lo hi
 have s2 (l : Nat) (lo hi : Int) := stepv s i 2 l lo hi
 have s3 (l : Nat) (lo hi : Int) := stepv s i 3 l lo hi
 rcases first_byte ((toL s)[i].toNat : Int) u0 u1 with ⟨q, hq, e1, e2⟩ | hb
 ·unfold bg at hq
  split at hq
  ·cases hq
   have := hit1 s i hp (by rw [e0, hc]; omega)
   have hv : oneV ((toL s).drop i) = 1 := by
    rw [List.drop_eq_getElem_cons hl]
    unfold oneV
    rw [runC_start _ e1 e2]
    rfl
   rw [hv]; exact this
  split at hq
  ·cases hq
  split at hq
  ·cases hq
   have := hit2 s i hp (by rw [e0, hc]; omega)
   rw [v1 1 _ _ _ (by omega) e1, s1]
   exact (lead2 s i hp (by rw [e0, hc]; omega)).ends this
  split at hq
  ·cases hq
   have := hit3 s i hp (by rw [e0, hc]; omega)
   rw [v1 2 _ _ _ (by omega) e1, s1, s2]
   exact (lead3 s i hp (by rw [e0, hc]; omega)).ends this
  split at hq
  ·cases hq
   have := hit5 s i hp (by rw [e0, hc]; omega)
   rw [v1 2 _ _ _ (by omega) e1, s1, s2]
   exact (lead5 s i hp (by rw [e0, hc]; omega)).ends this
  split at hq
  ·cases hq
   rw [v1 2 _ _ _ (by omega) e1, s1, s2]
   by_cases c : ((toL s)[i].toNat : Int) ≤ 236
   ·exact (lead4 s i hp (by rw [e0, hc]; omega)).ends (hit4 s i hp (by rw [e0, hc]; omega))
   ·exact (lead6 s i hp (by rw [e0, hc]; omega)).ends (hit6 s i hp (by rw [e0, hc]; omega))
  split at hq
  ·cases hq
   have := hit7 s i hp (by rw [e0, hc]; omega)
   rw [v1 3 _ _ _ (by omega) e1, s1, s2, s3]
   exact (lead7 s i hp (by rw [e0, hc]; omega)).ends this
  split at hq
  ·cases hq
   have := hit9 s i hp (by rw [e0, hc]; omega)
   rw [v1 3 _ _ _ (by omega) e1, s1, s2, s3]
   exact (lead9 s i hp (by rw [e0, hc]; omega)).ends this
  split at hq
  ·cases hq
   have := hit8 s i hp (by rw [e0, hc]; omega)
   rw [v1 3 _ _ _ (by omega) e1, s1, s2, s3]
   exact (lead8 s i hp (by rw [e0, hc]; omega)).ends this
  ·cases hq
 ·have hv : oneV ((toL s).drop i) = -1 := by
   rw [List.drop_eq_getElem_cons hl]
   unfold oneV
   rw [runC_bad _ hb]
   rfl
  rw [hv]
  have hn : (128 ≤ ((toL s)[i].toNat : Int) ∧ ((toL s)[i].toNat : Int) < 194) ∨ 244 < ((toL s)[i].toNat : Int) := begins_neg _ u0 u1 hb
  rcases hn with hn | hn
  ·exact (lead2 s i hp (by rw [e0, hc]; omega)).ends (tail2 s i hp (by rw [e0, hc]; omega))
  ·exact (lead10 s i hp (by rw [e0, hc]; omega)).ends (tail10 s i 0 (by omega))
theorem one_call (s : ByteArray) (at' : Int) (h : one_pre s at') : CallOk E 61 [.string s, .int .i64 at'] [] (one_v s at') (one_h s at') :=
 callOk_of_ends ((one_go1 (one_ok0 s at' (by unfold one_S0; simp [shapes_S0]))).ends (one_val s at' h)) (by kernel_rfl) (Nat.le_of_ble_eq_true (by kernel_rfl))

noncomputable def one_ex (a : List Value) (h : Heap) : ByteArray × Int := ((toStr (a.getD 0 undef)), (toInt (a.getD 1 undef)))
noncomputable def one_k : Ct := kP one_ex (fun (a0, a1) => [.string a0, .int .i64 a1]) (fun (a0, a1) => []) (fun (a0, a1) => one_pre a0 a1) (fun (a0, a1) => one_v a0 a1) (fun (a0, a1) => one_h a0 a1)
theorem one_k_ok : KFor E 61 one_k := kP_ok (fun (a0, a1) hx => one_call a0 a1 hx)


end Go.Proofs.Ytfpnjpbdaniomaa

/-
  The document's own answer: how many bytes may be; the characters.
-/
set_option linter.unusedVariables false
open Go Go.Am
namespace Go.Proofs.Ytfpnjpbdaniomaa
noncomputable def KF : Ctr := ctrOf E [(61, anyA, one_k)]
theorem KF_ok : KOk E KF := ctr_cons one_k_ok ctr_nil

noncomputable def reads_b1 (s : ByteArray) : Cfg := cfgOf (goNil E KF 2000 9 (some []) [] [] [] [0, 2] [] [] [] (startC E 50 ([.string s]) ([])))
noncomputable def reads_h1 (s : ByteArray) (t2 : Int) : Cfg := wTmp 2 (.int .i64 t2) (reads_b1 s)
abbrev reads_R : Type := (Int) ⊕ (Int × Bool × Bool)
noncomputable def reads_V (s : ByteArray) (r : Int × Bool × Bool) : Value := .tuple #[.int .i64 r.1, .bool r.2.1, .bool r.2.2]
noncomputable def reads_H (s : ByteArray) (r : Int × Bool × Bool) : Heap := []
noncomputable def reads_Q (s : ByteArray) (C : Cfg) (r : reads_R) : Prop :=
 match r with
 | .inl (p) => Gets E 0 C (reads_h1 s p)
 | .inr (p) => AEnds E 50 0 C (reads_V s p) (reads_H s p)
theorem reads_go1 {s : ByteArray} {C : Cfg} {t2 : Int} (h : reads_Q s C (.inl (t2))) : Gets E 0 C (reads_h1 s t2) := h
theorem reads_end {s : ByteArray} {C : Cfg} {r : Int × Bool × Bool} (h : reads_Q s C (.inr (r))) : AEnds E 50 0 C (reads_V s r) (reads_H s r) := h
noncomputable def reads_t0 (s : ByteArray) : reads_R :=
 .inl (0)
noncomputable def reads_S0 (s : ByteArray) : Prop :=
 True
theorem reads_ok0 (s : ByteArray) (hS : reads_S0 s) : reads_Q s (startC E 50 ([.string s]) ([])) (reads_t0 s) := by
 unfold reads_S0 at hS
 unfold reads_t0
 show Gets E 0 _ (reads_h1 s (0))
 exact reach_q KF_ok 2000 9 (some []) [] [] [] [0, 2] [] [] [] (rfl)
noncomputable def reads_t1 (s : ByteArray) (t2 : Int) : reads_R :=
 bif decide (t2 < ((slen s) : Int)) then bif oneV (List.drop t2.toNat (toL s)) == 0 then .inr (((slen s) : Int), false, false)
  else bif decide (oneV (List.drop t2.toNat (toL s)) < 0) then .inr (IntKind.i64.wrap (IntKind.i64.wrap (t2 - 1) - oneV (List.drop t2.toNat (toL s))), true, false)
   else .inl (IntKind.i64.wrap (t2 + oneV (List.drop t2.toNat (toL s))))
 else .inr (t2, false, true)
noncomputable def reads_S1 (s : ByteArray) (t2 : Int) : Prop :=
 ((decide (t2 < ((slen s) : Int))) = true → ((oneV (List.drop t2.toNat (toL s)) == 0) = true → one_pre s t2) ∧
  ((oneV (List.drop t2.toNat (toL s)) == 0) = false → ((decide (oneV (List.drop t2.toNat (toL s)) < 0)) = true → one_pre s t2) ∧
   ((decide (oneV (List.drop t2.toNat (toL s)) < 0)) = false → one_pre s t2))) ∧
 ((decide (t2 < ((slen s) : Int))) = false → True)
theorem reads_ok1 (s : ByteArray) (t2 : Int) (hS : reads_S1 s t2) : reads_Q s (reads_h1 s t2) (reads_t1 s t2) := by
 unfold reads_S1 at hS
 unfold reads_t1
 refine cond_intro (P := reads_Q s (reads_h1 s t2)) _ (fun h0 => ?_) (fun h0 => ?_)
 ·skip
  refine cond_intro (P := reads_Q s (reads_h1 s t2)) _ (fun h1 => ?_) (fun h1 => ?_)
  ·skip
   exact ends_q KF_ok 2000 33 (bs 2 3) [] [2, 3, 4] [] (andI (dT h1) (and4 (eqA_self [.string s, .int .i64 t2]) (eqH_self []) (pdec_iff.2 ((hS.1 h0).1 h1)) (dT h0) rfl))
  ·skip
   refine cond_intro (P := reads_Q s (reads_h1 s t2)) _ (fun h2 => ?_) (fun h2 => ?_)
   ·skip
    exact ends_q KF_ok 2000 43 (bs 3 5) [] [2, 3, 4] [] (andI (dT h2) (andI (dF h1) (and4 (eqA_self [.string s, .int .i64 t2]) (eqH_self []) (pdec_iff.2 (((hS.1 h0).2 h1).1 h2)) (dT h0) rfl)))
   ·skip
    show Gets E 0 _ (reads_h1 s (IntKind.i64.wrap (t2 + oneV (List.drop t2.toNat (toL s)))))
    exact reach_q KF_ok 2000 42 (bs 3 1) [] [] [] [0, 2] [] [] [] (andI (dF h2) (andI (dF h1) (and4 (eqA_self [.string s, .int .i64 t2]) (eqH_self []) (pdec_iff.2 (((hS.1 h0).2 h1).2 h2)) (dT h0) rfl)))
 ·skip
  exact ends_q KF_ok 2000 17 (bs 1 0) [] [2, 3, 4] [] (andI (dF h0) rfl)


end Go.Proofs.Ytfpnjpbdaniomaa

/-
  The document's own answer, as contracts: how many bytes may be; a character's number.
-/
set_option linter.unusedVariables false
set_option linter.unusedSimpArgs false
open Go Go.Am
namespace Go.Proofs.Ytfpnjpbdaniomaa

theorem runC_cut : ∀ (l : List UInt8) (q : Q), (runC q l).2.1 = 1 → (runC q l).1 = l.length ∧ (l ≠ [] → (runC q l).2.2.1 ≠ 0)
 | [], q, h => by simp [runC]
 | b :: r, q, h => by
  unfold runC at h ⊢
  split at h
  ·split at h
   ·simp at h
   ·rename_i h1 h2
    simp only [h1, h2, if_false] at h ⊢
    obtain ⟨g1, g2⟩ := runC_cut r _ h
    refine ⟨by simp [g1], fun _ => ?_⟩
    cases r with
    | nil => simpa [runC] using h2
    | cons c r => exact g2 (by simp)
  ·simp at h
theorem sst_fresh {q : Q} (h : q.1 = 0) (b : Int) : (sst q b).1 = (sst (0, 0, 0, 0) b).1 ∧ ((sst q b).1 = true → (sst q b).2 = (sst (0, 0, 0, 0) b).2) := by
 obtain ⟨l, lo, hi, x⟩ := q
 dsimp only at h
 subst h
 rw [sst_start, sst_start]
 split <;> simp
theorem runC_fresh {q : Q} (h : q.1 = 0) (b : UInt8) (r : List UInt8) :
  (runC q (b :: r)).1 = (runC (0, 0, 0, 0) (b :: r)).1 ∧ (runC q (b :: r)).2.1 = (runC (0, 0, 0, 0) (b :: r)).2.1 ∧ ((runC q (b :: r)).2.1 ≠ 2 → (runC q (b :: r)).2.2 = (runC (0, 0, 0, 0) (b :: r)).2.2) := by
 obtain ⟨e1, e2⟩ := sst_fresh h b.toNat
 unfold runC
 cases h1 : (sst q b.toNat).1 with
 | false =>
  rw [h1] at e1
  rw [← e1]
  simp
 | true =>
  rw [h1] at e1
  rw [← e1, ← e2 h1]
  simp
theorem oneV_fresh {q : Q} (h : q.1 = 0) {l : List UInt8} (hl : l ≠ []) : oneV l = if (runC q l).2.1 = 0 then ((runC q l).1 : Int) else if (runC q l).2.1 = 1 then 0 else -1 - ((runC q l).1 : Int) := by
 cases l with
 | nil => exact absurd rfl hl
 | cons b r =>
  obtain ⟨e1, e2, _⟩ := runC_fresh h b r
  unfold oneV
  rw [e1, e2]

theorem reads_run (s : ByteArray) (hs : slen s ≤ 1000000) : ∀ (n i : Nat) (q : Q), slen s - i ≤ n → i ≤ slen s → q.1 = 0 →
  AEnds E 50 0 (reads_h1 s i) (.tuple #[.int .i64 (feedL q i false ((toL s).drop i)).2.1, .bool (feedL q i false ((toL s).drop i)).2.2, .bool (!(feedL q i false ((toL s).drop i)).2.2 && (feedL q i false ((toL s).drop i)).1.1 == 0)]) [] := by
 intro n
 induction n with
 | zero =>
  intro i q hn hi hq
  have hi2 : i = slen s := by omega
  have h := reads_ok1 s i (by unfold reads_S1; simp [show ¬ ((i : Int) < slen s) by omega])
  rw [show reads_t1 s i = .inr ((i : Int), false, true) by unfold reads_t1; simp [show ¬ ((i : Int) < slen s) by omega]] at h
  rw [show (toL s).drop i = [] from List.drop_eq_nil_of_le (by unfold slen at hi2; omega)]
  have e : ((q.1 == 0) : Bool) = true := by simp [hq]
  simp only [feedL, e, Bool.not_false, Bool.true_and]
  exact reads_end h
 | succ n ih =>
  intro i q hn hi hq
  rcases Nat.lt_or_ge i (slen s) with hlt | hge
  case inr =>
   have hi2 : i = slen s := by omega
   have h := reads_ok1 s i (by unfold reads_S1; simp [show ¬ ((i : Int) < slen s) by omega])
   rw [show reads_t1 s i = .inr ((i : Int), false, true) by unfold reads_t1; simp [show ¬ ((i : Int) < slen s) by omega]] at h
   rw [show (toL s).drop i = [] from List.drop_eq_nil_of_le (by unfold slen at hi2; omega)]
   have e : ((q.1 == 0) : Bool) = true := by simp [hq]
   simp only [feedL, e, Bool.not_false, Bool.true_and]
   exact reads_end h
  have hpre : one_pre s i := ⟨by omega, by omega, hs⟩
  have h := reads_ok1 s i (by unfold reads_S1; simp [hpre])
  have hne : (toL s).drop i ≠ [] := by
   intro h0
   have := congrArg List.length h0
   simp [slen] at this hlt
   omega
  unfold reads_t1 at h
  rw [show (i : Int).toNat = i by simp, oneV_fresh hq hne] at h
  have hle := runC_le ((toL s).drop i) q
  have hlen : ((toL s).drop i).length = slen s - i := by simp [slen]
  rw [feedL_run]
  simp only [show decide ((i : Int) < slen s) = true by simp; omega, cond_true] at h
  by_cases h0 : (runC q ((toL s).drop i)).2.1 = 0
  ·obtain ⟨g1, g2⟩ := runC_pos _ _ h0
   simp only [h0, if_true] at h ⊢
   rw [show (((runC q ((toL s).drop i)).1 : Int) == 0) = false by simp; omega, show decide (((runC q ((toL s).drop i)).1 : Int) < 0) = false by simp] at h
   simp only [cond_false] at h
   rw [wrap64_in (by omega) (by omega), show (i : Int) + ((runC q ((toL s).drop i)).1 : Int) = ((i + (runC q ((toL s).drop i)).1 : Nat) : Int) by omega] at h
   have := ih (i + (runC q ((toL s).drop i)).1) (runC q ((toL s).drop i)).2.2 (by omega) (by omega) g2
   rw [← List.drop_drop] at this
   rw [show (i : Int) + ((runC q ((toL s).drop i)).1 : Int) = ((i + (runC q ((toL s).drop i)).1 : Nat) : Int) by omega]
   exact (reads_go1 h).ends this
  ·by_cases h1 : (runC q ((toL s).drop i)).2.1 = 1
   ·obtain ⟨g1, g2⟩ := runC_cut _ _ h1
    have g2 := g2 hne
    simp only [h1, if_true, if_false, beq_self_eq_true, cond_true, show ((1 : Nat) = 0) = False by simp] at h ⊢
    have e : (((runC q ((toL s).drop i)).2.2.1 == 0) : Bool) = false := by simpa using g2
    have e3 : (i : Int) + ((runC q ((toL s).drop i)).1 : Int) = (slen s : Int) := by rw [g1, hlen]; omega
    have e4 : ((1 : Nat) == 2) = false := rfl
    simp only [e, e3, e4, Bool.and_false, Bool.not_false]
    exact reads_end h
   ·have h2 : (runC q ((toL s).drop i)).2.1 = 2 := by have := runC_st ((toL s).drop i) q; omega
    simp only [h2, if_false, show ((2 : Nat) = 0) = False by simp, show ((2 : Nat) = 1) = False by simp] at h ⊢
    rw [show ((-1 - ((runC q ((toL s).drop i)).1 : Int)) == 0) = false by simp; omega, show decide (-1 - ((runC q ((toL s).drop i)).1 : Int) < 0) = true by simp; omega] at h
    simp only [cond_false, cond_true] at h
    rw [wrap64_in (x := (i : Int) - 1) (by omega) (by omega), wrap64_in (by omega) (by omega)] at h
    have e4 : ((2 : Nat) == 2) = true := rfl
    have e3 : (i : Int) - 1 - (-1 - ((runC q ((toL s).drop i)).1 : Int)) = (i : Int) + ((runC q ((toL s).drop i)).1 : Int) := by omega
    rw [e3] at h
    simp only [e4, Bool.not_true, Bool.false_and]
    exact reads_end h

noncomputable def reads_pre (s : ByteArray) : Prop := slen s ≤ 1000000
noncomputable def reads_v (s : ByteArray) : Value := .tuple #[.int .i64 (feedL (0, 0, 0, 0) 0 false (toL s)).2.1, .bool (feedL (0, 0, 0, 0) 0 false (toL s)).2.2, .bool (!(feedL (0, 0, 0, 0) 0 false (toL s)).2.2 && (feedL (0, 0, 0, 0) 0 false (toL s)).1.1 == 0)]
noncomputable def reads_h (s : ByteArray) : Heap := []
theorem reads_call (s : ByteArray) (h : reads_pre s) : CallOk E 50 [.string s] [] (reads_v s) (reads_h s) :=
 callOk_of_ends ((reads_go1 (reads_ok0 s trivial)).ends (reads_run s h (slen s) 0 (0, 0, 0, 0) (by omega) (by omega) rfl)) (by kernel_rfl) (Nat.le_of_ble_eq_true (by kernel_rfl))

end Go.Proofs.Ytfpnjpbdaniomaa
