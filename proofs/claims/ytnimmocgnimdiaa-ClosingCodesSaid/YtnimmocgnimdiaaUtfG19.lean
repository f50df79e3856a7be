/-
  The document's own answer: one character at a place, as a contract.
-/
import Derived.Test.YtnimmocgnimdiaaUtfH19
import Derived.Test.YtnimmocgnimdiaaUtfE19
set_option linter.unusedVariables false
set_option linter.unusedSimpArgs false
open Go Go.Am
namespace Go.Proofs.Ytnimmocgnimdiaa
def oneV (l : List UInt8) : Int :=
  if (runC (0, 0, 0, 0) l).2.1 = 0 then (runC (0, 0, 0, 0) l).1 else if (runC (0, 0, 0, 0) l).2.1 = 1 then 0 else -1 - (runC (0, 0, 0, 0) l).1
def one_pre (s : ByteArray) (at' : Int) : Prop := 0 ≤ at' ∧ at' < slen s ∧ slen s ≤ 1000000
def one_v (s : ByteArray) (at' : Int) : Value := .int .i64 (oneV ((toL s).drop at'.toNat))
def one_h (s : ByteArray) (at' : Int) : Heap := []

theorem safe1 (s : ByteArray) (at' : Int) (hp : one_pre s at') : one_S1 s at' := by
  obtain ⟨h0, h1, h2⟩ := hp
  unfold one_S1
  simp only [show IntKind.i64.wrap (at' + 0) = at' + 0 from wrap64_in (by omega) (by omega), show IntKind.i64.wrap (at' + 1) = at' + 1 from wrap64_in (by omega) (by omega)]
  simp only [decide_eq_true_eq, decide_eq_false_iff_not, beq_iff_eq, beq_eq_false_iff_ne, ne_eq]
  repeat' first | apply And.intro | intro
  all_goals first | trivial | omega
theorem skip1 (s : ByteArray) (at' : Int) (hp : one_pre s at') (h : 127 < chr s (at' + 0).toNat) : Gets E 0 (one_h1 s at') (one_h2 s at') := by
  have hk := one_ok1 s at' (safe1 s at' hp)
  obtain ⟨h0, h1, h2⟩ := hp
  unfold one_t1 at hk
  simp only [show IntKind.i64.wrap (at' + 0) = at' + 0 from wrap64_in (by omega) (by omega), show IntKind.i64.wrap (at' + 1) = at' + 1 from wrap64_in (by omega) (by omega), show decide (at' + 0 < (slen s : Int)) = true from decide_eq_true (by omega), cond_true] at hk
  rw [show decide (chr s (at' + 0).toNat ≤ (127 : Int)) = false from decide_eq_false (by omega)] at hk
  exact one_go2 hk
theorem safe2 (s : ByteArray) (at' : Int) (hp : one_pre s at') : one_S2 s at' := by
  obtain ⟨h0, h1, h2⟩ := hp
  unfold one_S2
  simp only [show IntKind.i64.wrap (at' + 0) = at' + 0 from wrap64_in (by omega) (by omega), show IntKind.i64.wrap (at' + 1) = at' + 1 from wrap64_in (by omega) (by omega), show IntKind.i64.wrap (at' + 2) = at' + 2 from wrap64_in (by omega) (by omega)]
  simp only [decide_eq_true_eq, decide_eq_false_iff_not, beq_iff_eq, beq_eq_false_iff_ne, ne_eq]
  repeat' first | apply And.intro | intro
  all_goals first | trivial | omega
theorem skip2 (s : ByteArray) (at' : Int) (hp : one_pre s at') (h : chr s (at' + 0).toNat < 194 ∨ 223 < chr s (at' + 0).toNat) : Gets E 0 (one_h2 s at') (one_h3 s at' 0) := by
  have hk := one_ok2 s at' (safe2 s at' hp)
  obtain ⟨h0, h1, h2⟩ := hp
  unfold one_t2 at hk
  simp only [show IntKind.i64.wrap (at' + 0) = at' + 0 from wrap64_in (by omega) (by omega), show IntKind.i64.wrap (at' + 1) = at' + 1 from wrap64_in (by omega) (by omega), show IntKind.i64.wrap (at' + 2) = at' + 2 from wrap64_in (by omega) (by omega), show decide (at' + 0 < (slen s : Int)) = true from decide_eq_true (by omega), cond_true] at hk
  rcases h with h | h
  · rw [show decide ((194 : Int) ≤ chr s (at' + 0).toNat) = false from decide_eq_false (by omega)] at hk
    exact one_go3 hk
  · rw [show decide (chr s (at' + 0).toNat ≤ (223 : Int)) = false from decide_eq_false (by omega)] at hk
    simp only [cond_false, Bool.cond_self] at hk
    exact one_go3 hk
theorem safe3 (s : ByteArray) (at' : Int) (m : Int) (hm : 0 ≤ m) (hp : one_pre s at') : one_S3 s at' m := by
  obtain ⟨h0, h1, h2⟩ := hp
  unfold one_S3
  simp only [show IntKind.i64.wrap (at' + 0) = at' + 0 from wrap64_in (by omega) (by omega), show IntKind.i64.wrap (at' + 1) = at' + 1 from wrap64_in (by omega) (by omega), show IntKind.i64.wrap (at' + 2) = at' + 2 from wrap64_in (by omega) (by omega), show IntKind.i64.wrap (at' + 3) = at' + 3 from wrap64_in (by omega) (by omega)]
  simp only [decide_eq_true_eq, decide_eq_false_iff_not, beq_iff_eq, beq_eq_false_iff_ne, ne_eq]
  repeat' first | apply And.intro | intro
  all_goals first | trivial | omega
theorem skip3 (s : ByteArray) (at' : Int) (m : Int) (hm : 0 ≤ m) (hp : one_pre s at') (h : chr s (at' + 0).toNat < 224 ∨ 224 < chr s (at' + 0).toNat) : Gets E 0 (one_h3 s at' m) (one_h4 s at' m) := by
  have hk := one_ok3 s at' m (safe3 s at' m hm hp)
  obtain ⟨h0, h1, h2⟩ := hp
  unfold one_t3 at hk
  simp only [show IntKind.i64.wrap (at' + 0) = at' + 0 from wrap64_in (by omega) (by omega), show IntKind.i64.wrap (at' + 1) = at' + 1 from wrap64_in (by omega) (by omega), show IntKind.i64.wrap (at' + 2) = at' + 2 from wrap64_in (by omega) (by omega), show IntKind.i64.wrap (at' + 3) = at' + 3 from wrap64_in (by omega) (by omega), show decide (at' + 0 < (slen s : Int)) = true from decide_eq_true (by omega), cond_true, show decide (m < 0) = false from decide_eq_false (by omega)] at hk
  rcases h with h | h
  · rw [show decide ((224 : Int) ≤ chr s (at' + 0).toNat) = false from decide_eq_false (by omega)] at hk
    exact one_go4 hk
  · rw [show decide (chr s (at' + 0).toNat ≤ (224 : Int)) = false from decide_eq_false (by omega)] at hk
    simp only [cond_false, Bool.cond_self] at hk
    exact one_go4 hk
theorem safe4 (s : ByteArray) (at' : Int) (m : Int) (hm : 0 ≤ m) (hp : one_pre s at') : one_S4 s at' m := by
  obtain ⟨h0, h1, h2⟩ := hp
  unfold one_S4
  simp only [show IntKind.i64.wrap (at' + 0) = at' + 0 from wrap64_in (by omega) (by omega), show IntKind.i64.wrap (at' + 1) = at' + 1 from wrap64_in (by omega) (by omega), show IntKind.i64.wrap (at' + 2) = at' + 2 from wrap64_in (by omega) (by omega), show IntKind.i64.wrap (at' + 3) = at' + 3 from wrap64_in (by omega) (by omega)]
  simp only [decide_eq_true_eq, decide_eq_false_iff_not, beq_iff_eq, beq_eq_false_iff_ne, ne_eq]
  repeat' first | apply And.intro | intro
  all_goals first | trivial | omega
theorem skip4 (s : ByteArray) (at' : Int) (m : Int) (hm : 0 ≤ m) (hp : one_pre s at') (h : chr s (at' + 0).toNat < 225 ∨ 236 < chr s (at' + 0).toNat) : Gets E 0 (one_h4 s at' m) (one_h5 s at' m) := by
  have hk := one_ok4 s at' m (safe4 s at' m hm hp)
  obtain ⟨h0, h1, h2⟩ := hp
  unfold one_t4 at hk
  simp only [show IntKind.i64.wrap (at' + 0) = at' + 0 from wrap64_in (by omega) (by omega), show IntKind.i64.wrap (at' + 1) = at' + 1 from wrap64_in (by omega) (by omega), show IntKind.i64.wrap (at' + 2) = at' + 2 from wrap64_in (by omega) (by omega), show IntKind.i64.wrap (at' + 3) = at' + 3 from wrap64_in (by omega) (by omega), show decide (at' + 0 < (slen s : Int)) = true from decide_eq_true (by omega), cond_true, show decide (m < 0) = false from decide_eq_false (by omega)] at hk
  rcases h with h | h
  · rw [show decide ((225 : Int) ≤ chr s (at' + 0).toNat) = false from decide_eq_false (by omega)] at hk
    exact one_go5 hk
  · rw [show decide (chr s (at' + 0).toNat ≤ (236 : Int)) = false from decide_eq_false (by omega)] at hk
    simp only [cond_false, Bool.cond_self] at hk
    exact one_go5 hk
theorem safe5 (s : ByteArray) (at' : Int) (m : Int) (hm : 0 ≤ m) (hp : one_pre s at') : one_S5 s at' m := by
  obtain ⟨h0, h1, h2⟩ := hp
  unfold one_S5
  simp only [show IntKind.i64.wrap (at' + 0) = at' + 0 from wrap64_in (by omega) (by omega), show IntKind.i64.wrap (at' + 1) = at' + 1 from wrap64_in (by omega) (by omega), show IntKind.i64.wrap (at' + 2) = at' + 2 from wrap64_in (by omega) (by omega), show IntKind.i64.wrap (at' + 3) = at' + 3 from wrap64_in (by omega) (by omega)]
  simp only [decide_eq_true_eq, decide_eq_false_iff_not, beq_iff_eq, beq_eq_false_iff_ne, ne_eq]
  repeat' first | apply And.intro | intro
  all_goals first | trivial | omega
theorem skip5 (s : ByteArray) (at' : Int) (m : Int) (hm : 0 ≤ m) (hp : one_pre s at') (h : chr s (at' + 0).toNat < 237 ∨ 237 < chr s (at' + 0).toNat) : Gets E 0 (one_h5 s at' m) (one_h6 s at' m) := by
  have hk := one_ok5 s at' m (safe5 s at' m hm hp)
  obtain ⟨h0, h1, h2⟩ := hp
  unfold one_t5 at hk
  simp only [show IntKind.i64.wrap (at' + 0) = at' + 0 from wrap64_in (by omega) (by omega), show IntKind.i64.wrap (at' + 1) = at' + 1 from wrap64_in (by omega) (by omega), show IntKind.i64.wrap (at' + 2) = at' + 2 from wrap64_in (by omega) (by omega), show IntKind.i64.wrap (at' + 3) = at' + 3 from wrap64_in (by omega) (by omega), show decide (at' + 0 < (slen s : Int)) = true from decide_eq_true (by omega), cond_true, show decide (m < 0) = false from decide_eq_false (by omega)] at hk
  rcases h with h | h
  · rw [show decide ((237 : Int) ≤ chr s (at' + 0).toNat) = false from decide_eq_false (by omega)] at hk
    exact one_go6 hk
  · rw [show decide (chr s (at' + 0).toNat ≤ (237 : Int)) = false from decide_eq_false (by omega)] at hk
    simp only [cond_false, Bool.cond_self] at hk
    exact one_go6 hk
theorem safe6 (s : ByteArray) (at' : Int) (m : Int) (hm : 0 ≤ m) (hp : one_pre s at') : one_S6 s at' m := by
  obtain ⟨h0, h1, h2⟩ := hp
  unfold one_S6
  simp only [show IntKind.i64.wrap (at' + 0) = at' + 0 from wrap64_in (by omega) (by omega), show IntKind.i64.wrap (at' + 1) = at' + 1 from wrap64_in (by omega) (by omega), show IntKind.i64.wrap (at' + 2) = at' + 2 from wrap64_in (by omega) (by omega), show IntKind.i64.wrap (at' + 3) = at' + 3 from wrap64_in (by omega) (by omega)]
  simp only [decide_eq_true_eq, decide_eq_false_iff_not, beq_iff_eq, beq_eq_false_iff_ne, ne_eq]
  repeat' first | apply And.intro | intro
  all_goals first | trivial | omega
theorem skip6 (s : ByteArray) (at' : Int) (m : Int) (hm : 0 ≤ m) (hp : one_pre s at') (h : chr s (at' + 0).toNat < 238 ∨ 239 < chr s (at' + 0).toNat) : Gets E 0 (one_h6 s at' m) (one_h7 s at' m) := by
  have hk := one_ok6 s at' m (safe6 s at' m hm hp)
  obtain ⟨h0, h1, h2⟩ := hp
  unfold one_t6 at hk
  simp only [show IntKind.i64.wrap (at' + 0) = at' + 0 from wrap64_in (by omega) (by omega), show IntKind.i64.wrap (at' + 1) = at' + 1 from wrap64_in (by omega) (by omega), show IntKind.i64.wrap (at' + 2) = at' + 2 from wrap64_in (by omega) (by omega), show IntKind.i64.wrap (at' + 3) = at' + 3 from wrap64_in (by omega) (by omega), show decide (at' + 0 < (slen s : Int)) = true from decide_eq_true (by omega), cond_true, show decide (m < 0) = false from decide_eq_false (by omega)] at hk
  rcases h with h | h
  · rw [show decide ((238 : Int) ≤ chr s (at' + 0).toNat) = false from decide_eq_false (by omega)] at hk
    exact one_go7 hk
  · rw [show decide (chr s (at' + 0).toNat ≤ (239 : Int)) = false from decide_eq_false (by omega)] at hk
    simp only [cond_false, Bool.cond_self] at hk
    exact one_go7 hk
theorem safe7 (s : ByteArray) (at' : Int) (m : Int) (hm : 0 ≤ m) (hp : one_pre s at') : one_S7 s at' m := by
  obtain ⟨h0, h1, h2⟩ := hp
  unfold one_S7
  simp only [show IntKind.i64.wrap (at' + 0) = at' + 0 from wrap64_in (by omega) (by omega), show IntKind.i64.wrap (at' + 1) = at' + 1 from wrap64_in (by omega) (by omega), show IntKind.i64.wrap (at' + 2) = at' + 2 from wrap64_in (by omega) (by omega), show IntKind.i64.wrap (at' + 3) = at' + 3 from wrap64_in (by omega) (by omega), show IntKind.i64.wrap (at' + 4) = at' + 4 from wrap64_in (by omega) (by omega)]
  simp only [decide_eq_true_eq, decide_eq_false_iff_not, beq_iff_eq, beq_eq_false_iff_ne, ne_eq]
  repeat' first | apply And.intro | intro
  all_goals first | trivial | omega
theorem skip7 (s : ByteArray) (at' : Int) (m : Int) (hm : 0 ≤ m) (hp : one_pre s at') (h : chr s (at' + 0).toNat < 240 ∨ 240 < chr s (at' + 0).toNat) : Gets E 0 (one_h7 s at' m) (one_h8 s at' m) := by
  have hk := one_ok7 s at' m (safe7 s at' m hm hp)
  obtain ⟨h0, h1, h2⟩ := hp
  unfold one_t7 at hk
  simp only [show IntKind.i64.wrap (at' + 0) = at' + 0 from wrap64_in (by omega) (by omega), show IntKind.i64.wrap (at' + 1) = at' + 1 from wrap64_in (by omega) (by omega), show IntKind.i64.wrap (at' + 2) = at' + 2 from wrap64_in (by omega) (by omega), show IntKind.i64.wrap (at' + 3) = at' + 3 from wrap64_in (by omega) (by omega), show IntKind.i64.wrap (at' + 4) = at' + 4 from wrap64_in (by omega) (by omega), show decide (at' + 0 < (slen s : Int)) = true from decide_eq_true (by omega), cond_true, show decide (m < 0) = false from decide_eq_false (by omega)] at hk
  rcases h with h | h
  · rw [show decide ((240 : Int) ≤ chr s (at' + 0).toNat) = false from decide_eq_false (by omega)] at hk
    exact one_go8 hk
  · rw [show decide (chr s (at' + 0).toNat ≤ (240 : Int)) = false from decide_eq_false (by omega)] at hk
    simp only [cond_false, Bool.cond_self] at hk
    exact one_go8 hk
theorem safe8 (s : ByteArray) (at' : Int) (m : Int) (hm : 0 ≤ m) (hp : one_pre s at') : one_S8 s at' m := by
  obtain ⟨h0, h1, h2⟩ := hp
  unfold one_S8
  simp only [show IntKind.i64.wrap (at' + 0) = at' + 0 from wrap64_in (by omega) (by omega), show IntKind.i64.wrap (at' + 1) = at' + 1 from wrap64_in (by omega) (by omega), show IntKind.i64.wrap (at' + 2) = at' + 2 from wrap64_in (by omega) (by omega), show IntKind.i64.wrap (at' + 3) = at' + 3 from wrap64_in (by omega) (by omega), show IntKind.i64.wrap (at' + 4) = at' + 4 from wrap64_in (by omega) (by omega)]
  simp only [decide_eq_true_eq, decide_eq_false_iff_not, beq_iff_eq, beq_eq_false_iff_ne, ne_eq]
  repeat' first | apply And.intro | intro
  all_goals first | trivial | omega
theorem skip8 (s : ByteArray) (at' : Int) (m : Int) (hm : 0 ≤ m) (hp : one_pre s at') (h : chr s (at' + 0).toNat < 241 ∨ 243 < chr s (at' + 0).toNat) : Gets E 0 (one_h8 s at' m) (one_h9 s at' m) := by
  have hk := one_ok8 s at' m (safe8 s at' m hm hp)
  obtain ⟨h0, h1, h2⟩ := hp
  unfold one_t8 at hk
  simp only [show IntKind.i64.wrap (at' + 0) = at' + 0 from wrap64_in (by omega) (by omega), show IntKind.i64.wrap (at' + 1) = at' + 1 from wrap64_in (by omega) (by omega), show IntKind.i64.wrap (at' + 2) = at' + 2 from wrap64_in (by omega) (by omega), show IntKind.i64.wrap (at' + 3) = at' + 3 from wrap64_in (by omega) (by omega), show IntKind.i64.wrap (at' + 4) = at' + 4 from wrap64_in (by omega) (by omega), show decide (at' + 0 < (slen s : Int)) = true from decide_eq_true (by omega), cond_true, show decide (m < 0) = false from decide_eq_false (by omega)] at hk
  rcases h with h | h
  · rw [show decide ((241 : Int) ≤ chr s (at' + 0).toNat) = false from decide_eq_false (by omega)] at hk
    exact one_go9 hk
  · rw [show decide (chr s (at' + 0).toNat ≤ (243 : Int)) = false from decide_eq_false (by omega)] at hk
    simp only [cond_false, Bool.cond_self] at hk
    exact one_go9 hk
theorem safe9 (s : ByteArray) (at' : Int) (m : Int) (hm : 0 ≤ m) (hp : one_pre s at') : one_S9 s at' m := by
  obtain ⟨h0, h1, h2⟩ := hp
  unfold one_S9
  simp only [show IntKind.i64.wrap (at' + 0) = at' + 0 from wrap64_in (by omega) (by omega), show IntKind.i64.wrap (at' + 1) = at' + 1 from wrap64_in (by omega) (by omega), show IntKind.i64.wrap (at' + 2) = at' + 2 from wrap64_in (by omega) (by omega), show IntKind.i64.wrap (at' + 3) = at' + 3 from wrap64_in (by omega) (by omega), show IntKind.i64.wrap (at' + 4) = at' + 4 from wrap64_in (by omega) (by omega)]
  simp only [decide_eq_true_eq, decide_eq_false_iff_not, beq_iff_eq, beq_eq_false_iff_ne, ne_eq]
  repeat' first | apply And.intro | intro
  all_goals first | trivial | omega
theorem skip9 (s : ByteArray) (at' : Int) (m : Int) (hm : 0 ≤ m) (hp : one_pre s at') (h : chr s (at' + 0).toNat < 244 ∨ 244 < chr s (at' + 0).toNat) : Gets E 0 (one_h9 s at' m) (one_h10 s at' m) := by
  have hk := one_ok9 s at' m (safe9 s at' m hm hp)
  obtain ⟨h0, h1, h2⟩ := hp
  unfold one_t9 at hk
  simp only [show IntKind.i64.wrap (at' + 0) = at' + 0 from wrap64_in (by omega) (by omega), show IntKind.i64.wrap (at' + 1) = at' + 1 from wrap64_in (by omega) (by omega), show IntKind.i64.wrap (at' + 2) = at' + 2 from wrap64_in (by omega) (by omega), show IntKind.i64.wrap (at' + 3) = at' + 3 from wrap64_in (by omega) (by omega), show IntKind.i64.wrap (at' + 4) = at' + 4 from wrap64_in (by omega) (by omega), show decide (at' + 0 < (slen s : Int)) = true from decide_eq_true (by omega), cond_true, show decide (m < 0) = false from decide_eq_false (by omega)] at hk
  rcases h with h | h
  · rw [show decide ((244 : Int) ≤ chr s (at' + 0).toNat) = false from decide_eq_false (by omega)] at hk
    exact one_go10 hk
  · rw [show decide (chr s (at' + 0).toNat ≤ (244 : Int)) = false from decide_eq_false (by omega)] at hk
    simp only [cond_false, Bool.cond_self] at hk
    exact one_go10 hk
theorem tail10 (s : ByteArray) (at' m : Int) (hm : 0 ≤ m ∧ m ≤ 10) : AEnds E 34 0 (one_h10 s at' m) (.int .i64 (-1 - m)) [] := by
  have hk := one_ok10 s at' m (by unfold one_S10; trivial)
  unfold one_t10 at hk
  rw [wrap64_in (by omega) (by omega)] at hk
  exact one_end hk
theorem tail9 (s : ByteArray) (at' : Int) (m : Int) (hm : 0 ≤ m ∧ m ≤ 10) (hp : one_pre s at') (h : chr s (at' + 0).toNat < 244) : AEnds E 34 0 (one_h9 s at' m) (.int .i64 (-1 - m)) [] :=
  (skip9 s at' m hm.1 hp (.inl h)).ends (tail10 s at' m hm)
theorem tail8 (s : ByteArray) (at' : Int) (m : Int) (hm : 0 ≤ m ∧ m ≤ 10) (hp : one_pre s at') (h : chr s (at' + 0).toNat < 241) : AEnds E 34 0 (one_h8 s at' m) (.int .i64 (-1 - m)) [] :=
  (skip8 s at' m hm.1 hp (.inl h)).ends (tail9 s at' m hm hp (by omega))
theorem tail7 (s : ByteArray) (at' : Int) (m : Int) (hm : 0 ≤ m ∧ m ≤ 10) (hp : one_pre s at') (h : chr s (at' + 0).toNat < 240) : AEnds E 34 0 (one_h7 s at' m) (.int .i64 (-1 - m)) [] :=
  (skip7 s at' m hm.1 hp (.inl h)).ends (tail8 s at' m hm hp (by omega))
theorem tail6 (s : ByteArray) (at' : Int) (m : Int) (hm : 0 ≤ m ∧ m ≤ 10) (hp : one_pre s at') (h : chr s (at' + 0).toNat < 238) : AEnds E 34 0 (one_h6 s at' m) (.int .i64 (-1 - m)) [] :=
  (skip6 s at' m hm.1 hp (.inl h)).ends (tail7 s at' m hm hp (by omega))
theorem tail5 (s : ByteArray) (at' : Int) (m : Int) (hm : 0 ≤ m ∧ m ≤ 10) (hp : one_pre s at') (h : chr s (at' + 0).toNat < 237) : AEnds E 34 0 (one_h5 s at' m) (.int .i64 (-1 - m)) [] :=
  (skip5 s at' m hm.1 hp (.inl h)).ends (tail6 s at' m hm hp (by omega))
theorem tail4 (s : ByteArray) (at' : Int) (m : Int) (hm : 0 ≤ m ∧ m ≤ 10) (hp : one_pre s at') (h : chr s (at' + 0).toNat < 225) : AEnds E 34 0 (one_h4 s at' m) (.int .i64 (-1 - m)) [] :=
  (skip4 s at' m hm.1 hp (.inl h)).ends (tail5 s at' m hm hp (by omega))
theorem tail3 (s : ByteArray) (at' : Int) (m : Int) (hm : 0 ≤ m ∧ m ≤ 10) (hp : one_pre s at') (h : chr s (at' + 0).toNat < 224) : AEnds E 34 0 (one_h3 s at' m) (.int .i64 (-1 - m)) [] :=
  (skip3 s at' m hm.1 hp (.inl h)).ends (tail4 s at' m hm hp (by omega))
theorem tail2 (s : ByteArray) (at' : Int) (hp : one_pre s at') (h : chr s (at' + 0).toNat < 194) : AEnds E 34 0 (one_h2 s at') (.int .i64 (-1 - 0)) [] :=
  (skip2 s at' hp (.inl h)).ends (tail3 s at' 0 (by omega) hp (by omega))
theorem lead2 (s : ByteArray) (at' : Int) (hp : one_pre s at') (h : 127 < chr s (at' + 0).toNat) : Gets E 0 (one_h1 s at') (one_h2 s at') :=
  skip1 s at' hp h
theorem lead3 (s : ByteArray) (at' : Int) (hp : one_pre s at') (h : 223 < chr s (at' + 0).toNat) : Gets E 0 (one_h1 s at') (one_h3 s at' 0) :=
  (lead2 s at' hp (by omega)).trans (skip2 s at' hp (.inr h))
theorem lead4 (s : ByteArray) (at' : Int) (hp : one_pre s at') (h : 224 < chr s (at' + 0).toNat) : Gets E 0 (one_h1 s at') (one_h4 s at' 0) :=
  (lead3 s at' hp (by omega)).trans (skip3 s at' 0 (by omega) hp (.inr h))
theorem lead5 (s : ByteArray) (at' : Int) (hp : one_pre s at') (h : 236 < chr s (at' + 0).toNat) : Gets E 0 (one_h1 s at') (one_h5 s at' 0) :=
  (lead4 s at' hp (by omega)).trans (skip4 s at' 0 (by omega) hp (.inr h))
theorem lead6 (s : ByteArray) (at' : Int) (hp : one_pre s at') (h : 237 < chr s (at' + 0).toNat) : Gets E 0 (one_h1 s at') (one_h6 s at' 0) :=
  (lead5 s at' hp (by omega)).trans (skip5 s at' 0 (by omega) hp (.inr h))
theorem lead7 (s : ByteArray) (at' : Int) (hp : one_pre s at') (h : 239 < chr s (at' + 0).toNat) : Gets E 0 (one_h1 s at') (one_h7 s at' 0) :=
  (lead6 s at' hp (by omega)).trans (skip6 s at' 0 (by omega) hp (.inr h))
theorem lead8 (s : ByteArray) (at' : Int) (hp : one_pre s at') (h : 240 < chr s (at' + 0).toNat) : Gets E 0 (one_h1 s at') (one_h8 s at' 0) :=
  (lead7 s at' hp (by omega)).trans (skip7 s at' 0 (by omega) hp (.inr h))
theorem lead9 (s : ByteArray) (at' : Int) (hp : one_pre s at') (h : 243 < chr s (at' + 0).toNat) : Gets E 0 (one_h1 s at') (one_h9 s at' 0) :=
  (lead8 s at' hp (by omega)).trans (skip8 s at' 0 (by omega) hp (.inr h))
theorem lead10 (s : ByteArray) (at' : Int) (hp : one_pre s at') (h : 244 < chr s (at' + 0).toNat) : Gets E 0 (one_h1 s at') (one_h10 s at' 0) :=
  (lead9 s at' hp (by omega)).trans (skip9 s at' 0 (by omega) hp (.inr h))
theorem hit1 (s : ByteArray) (at' : Int) (hp : one_pre s at') (h : chr s (at' + 0).toNat ≤ 127) : AEnds E 34 0 (one_h1 s at') (.int .i64 1) [] := by
  have hk := one_ok1 s at' (safe1 s at' hp)
  have ht (m : Int) (hm : 0 ≤ m ∧ m ≤ 10) := tail2 s at' hp (by omega)
  obtain ⟨h0, h1, h2⟩ := hp
  unfold one_t1 at hk
  simp only [show IntKind.i64.wrap (at' + 0) = at' + 0 from wrap64_in (by omega) (by omega), show IntKind.i64.wrap (at' + 1) = at' + 1 from wrap64_in (by omega) (by omega), show decide (at' + 0 < (slen s : Int)) = true from decide_eq_true (by omega), cond_true] at hk
  rw [show decide (chr s (at' + 0).toNat ≤ (127 : Int)) = true from decide_eq_true (by omega)] at hk
  simp only [cond_true] at hk
  exact one_end hk
theorem hit2 (s : ByteArray) (at' : Int) (hp : one_pre s at') (h : 194 ≤ chr s (at' + 0).toNat ∧ chr s (at' + 0).toNat ≤ 223) : AEnds E 34 0 (one_h2 s at') (.int .i64 (if (slen s : Int) ≤ at' + 1 then 0 else if 128 ≤ chr s (at' + 1).toNat ∧ chr s (at' + 1).toNat ≤ 191 then 2 else -1 - 1)) [] := by
  have hk := one_ok2 s at' (safe2 s at' hp)
  have ht (m : Int) (hm : 0 ≤ m ∧ m ≤ 10) := tail3 s at' m hm hp (by omega)
  obtain ⟨h0, h1, h2⟩ := hp
  unfold one_t2 at hk
  simp only [show IntKind.i64.wrap (at' + 0) = at' + 0 from wrap64_in (by omega) (by omega), show IntKind.i64.wrap (at' + 1) = at' + 1 from wrap64_in (by omega) (by omega), show IntKind.i64.wrap (at' + 2) = at' + 2 from wrap64_in (by omega) (by omega), show decide (at' + 0 < (slen s : Int)) = true from decide_eq_true (by omega), cond_true] at hk
  rw [show decide ((194 : Int) ≤ chr s (at' + 0).toNat) = true from decide_eq_true (by omega), show decide (chr s (at' + 0).toNat ≤ (223 : Int)) = true from decide_eq_true (by omega)] at hk
  simp only [cond_true] at hk
  by_cases c1 : (slen s : Int) ≤ at' + 1
  · rw [show decide (at' + 1 < (slen s : Int)) = false from decide_eq_false (by omega)] at hk
    simp only [cond_false] at hk
    rw [if_pos c1]; exact one_end hk
  · rw [show decide (at' + 1 < (slen s : Int)) = true from decide_eq_true (by omega)] at hk
    simp only [cond_true] at hk
    rw [if_neg c1]
    by_cases d1 : 128 ≤ chr s (at' + 1).toNat ∧ chr s (at' + 1).toNat ≤ 191
    · rw [show decide ((128 : Int) ≤ chr s (at' + 1).toNat) = true from decide_eq_true (by omega), show decide (chr s (at' + 1).toNat ≤ (191 : Int)) = true from decide_eq_true (by omega)] at hk
      simp only [cond_true] at hk
      rw [if_pos d1]
      exact one_end hk
    · rw [if_neg d1]
      by_cases e1 : 128 ≤ chr s (at' + 1).toNat
      · rw [show decide ((128 : Int) ≤ chr s (at' + 1).toNat) = true from decide_eq_true (by omega), show decide (chr s (at' + 1).toNat ≤ (191 : Int)) = false from decide_eq_false (by omega)] at hk
        simp only [cond_true, cond_false] at hk
        exact (one_go3 hk).ends (ht 1 (by omega))
      · rw [show decide ((128 : Int) ≤ chr s (at' + 1).toNat) = false from decide_eq_false (by omega)] at hk
        simp only [cond_true, cond_false] at hk
        exact (one_go3 hk).ends (ht 1 (by omega))
theorem hit3 (s : ByteArray) (at' : Int) (hp : one_pre s at') (h : 224 ≤ chr s (at' + 0).toNat ∧ chr s (at' + 0).toNat ≤ 224) : AEnds E 34 0 (one_h3 s at' 0) (.int .i64 (if (slen s : Int) ≤ at' + 1 then 0 else if 160 ≤ chr s (at' + 1).toNat ∧ chr s (at' + 1).toNat ≤ 191 then (if (slen s : Int) ≤ at' + 2 then 0 else if 128 ≤ chr s (at' + 2).toNat ∧ chr s (at' + 2).toNat ≤ 191 then 3 else -1 - 2) else -1 - 1)) [] := by
  have hk := one_ok3 s at' 0 (safe3 s at' 0 (by omega) hp)
  have ht (m : Int) (hm : 0 ≤ m ∧ m ≤ 10) := tail4 s at' m hm hp (by omega)
  obtain ⟨h0, h1, h2⟩ := hp
  unfold one_t3 at hk
  simp only [show IntKind.i64.wrap (at' + 0) = at' + 0 from wrap64_in (by omega) (by omega), show IntKind.i64.wrap (at' + 1) = at' + 1 from wrap64_in (by omega) (by omega), show IntKind.i64.wrap (at' + 2) = at' + 2 from wrap64_in (by omega) (by omega), show IntKind.i64.wrap (at' + 3) = at' + 3 from wrap64_in (by omega) (by omega), show decide (at' + 0 < (slen s : Int)) = true from decide_eq_true (by omega), cond_true] at hk
  rw [show decide ((224 : Int) ≤ chr s (at' + 0).toNat) = true from decide_eq_true (by omega), show decide (chr s (at' + 0).toNat ≤ (224 : Int)) = true from decide_eq_true (by omega)] at hk
  simp only [cond_true] at hk
  by_cases c1 : (slen s : Int) ≤ at' + 1
  · rw [show decide (at' + 1 < (slen s : Int)) = false from decide_eq_false (by omega)] at hk
    simp only [cond_false] at hk
    rw [if_pos c1]; exact one_end hk
  · rw [show decide (at' + 1 < (slen s : Int)) = true from decide_eq_true (by omega)] at hk
    simp only [cond_true] at hk
    rw [if_neg c1]
    by_cases d1 : 160 ≤ chr s (at' + 1).toNat ∧ chr s (at' + 1).toNat ≤ 191
    · rw [show decide ((160 : Int) ≤ chr s (at' + 1).toNat) = true from decide_eq_true (by omega), show decide (chr s (at' + 1).toNat ≤ (191 : Int)) = true from decide_eq_true (by omega)] at hk
      simp only [cond_true] at hk
      rw [if_pos d1]
      by_cases c2 : (slen s : Int) ≤ at' + 2
      · rw [show decide (at' + 2 < (slen s : Int)) = false from decide_eq_false (by omega)] at hk
        simp only [cond_false] at hk
        rw [if_pos c2]; exact one_end hk
      · rw [show decide (at' + 2 < (slen s : Int)) = true from decide_eq_true (by omega)] at hk
        simp only [cond_true] at hk
        rw [if_neg c2]
        by_cases d2 : 128 ≤ chr s (at' + 2).toNat ∧ chr s (at' + 2).toNat ≤ 191
        · rw [show decide ((128 : Int) ≤ chr s (at' + 2).toNat) = true from decide_eq_true (by omega), show decide (chr s (at' + 2).toNat ≤ (191 : Int)) = true from decide_eq_true (by omega)] at hk
          simp only [cond_true] at hk
          rw [if_pos d2]
          exact one_end hk
        · rw [if_neg d2]
          by_cases e2 : 128 ≤ chr s (at' + 2).toNat
          · rw [show decide ((128 : Int) ≤ chr s (at' + 2).toNat) = true from decide_eq_true (by omega), show decide (chr s (at' + 2).toNat ≤ (191 : Int)) = false from decide_eq_false (by omega), show decide ((0 : Int) < 2) = true by decide] at hk
            simp only [cond_true, cond_false] at hk
            exact (one_go4 hk).ends (ht 2 (by omega))
          · rw [show decide ((128 : Int) ≤ chr s (at' + 2).toNat) = false from decide_eq_false (by omega), show decide ((0 : Int) < 2) = true by decide] at hk
            simp only [cond_true, cond_false] at hk
            exact (one_go4 hk).ends (ht 2 (by omega))
    · rw [if_neg d1]
      by_cases e1 : 160 ≤ chr s (at' + 1).toNat
      · rw [show decide ((160 : Int) ≤ chr s (at' + 1).toNat) = true from decide_eq_true (by omega), show decide (chr s (at' + 1).toNat ≤ (191 : Int)) = false from decide_eq_false (by omega), show decide ((0 : Int) < 1) = true by decide] at hk
        simp only [cond_true, cond_false] at hk
        exact (one_go4 hk).ends (ht 1 (by omega))
      · rw [show decide ((160 : Int) ≤ chr s (at' + 1).toNat) = false from decide_eq_false (by omega), show decide ((0 : Int) < 1) = true by decide] at hk
        simp only [cond_true, cond_false] at hk
        exact (one_go4 hk).ends (ht 1 (by omega))
theorem hit4 (s : ByteArray) (at' : Int) (hp : one_pre s at') (h : 225 ≤ chr s (at' + 0).toNat ∧ chr s (at' + 0).toNat ≤ 236) : AEnds E 34 0 (one_h4 s at' 0) (.int .i64 (if (slen s : Int) ≤ at' + 1 then 0 else if 128 ≤ chr s (at' + 1).toNat ∧ chr s (at' + 1).toNat ≤ 191 then (if (slen s : Int) ≤ at' + 2 then 0 else if 128 ≤ chr s (at' + 2).toNat ∧ chr s (at' + 2).toNat ≤ 191 then 3 else -1 - 2) else -1 - 1)) [] := by
  have hk := one_ok4 s at' 0 (safe4 s at' 0 (by omega) hp)
  have ht (m : Int) (hm : 0 ≤ m ∧ m ≤ 10) := tail5 s at' m hm hp (by omega)
  obtain ⟨h0, h1, h2⟩ := hp
  unfold one_t4 at hk
  simp only [show IntKind.i64.wrap (at' + 0) = at' + 0 from wrap64_in (by omega) (by omega), show IntKind.i64.wrap (at' + 1) = at' + 1 from wrap64_in (by omega) (by omega), show IntKind.i64.wrap (at' + 2) = at' + 2 from wrap64_in (by omega) (by omega), show IntKind.i64.wrap (at' + 3) = at' + 3 from wrap64_in (by omega) (by omega), show decide (at' + 0 < (slen s : Int)) = true from decide_eq_true (by omega), cond_true] at hk
  rw [show decide ((225 : Int) ≤ chr s (at' + 0).toNat) = true from decide_eq_true (by omega), show decide (chr s (at' + 0).toNat ≤ (236 : Int)) = true from decide_eq_true (by omega)] at hk
  simp only [cond_true] at hk
  by_cases c1 : (slen s : Int) ≤ at' + 1
  · rw [show decide (at' + 1 < (slen s : Int)) = false from decide_eq_false (by omega)] at hk
    simp only [cond_false] at hk
    rw [if_pos c1]; exact one_end hk
  · rw [show decide (at' + 1 < (slen s : Int)) = true from decide_eq_true (by omega)] at hk
    simp only [cond_true] at hk
    rw [if_neg c1]
    by_cases d1 : 128 ≤ chr s (at' + 1).toNat ∧ chr s (at' + 1).toNat ≤ 191
    · rw [show decide ((128 : Int) ≤ chr s (at' + 1).toNat) = true from decide_eq_true (by omega), show decide (chr s (at' + 1).toNat ≤ (191 : Int)) = true from decide_eq_true (by omega)] at hk
      simp only [cond_true] at hk
      rw [if_pos d1]
      by_cases c2 : (slen s : Int) ≤ at' + 2
      · rw [show decide (at' + 2 < (slen s : Int)) = false from decide_eq_false (by omega)] at hk
        simp only [cond_false] at hk
        rw [if_pos c2]; exact one_end hk
      · rw [show decide (at' + 2 < (slen s : Int)) = true from decide_eq_true (by omega)] at hk
        simp only [cond_true] at hk
        rw [if_neg c2]
        by_cases d2 : 128 ≤ chr s (at' + 2).toNat ∧ chr s (at' + 2).toNat ≤ 191
        · rw [show decide ((128 : Int) ≤ chr s (at' + 2).toNat) = true from decide_eq_true (by omega), show decide (chr s (at' + 2).toNat ≤ (191 : Int)) = true from decide_eq_true (by omega)] at hk
          simp only [cond_true] at hk
          rw [if_pos d2]
          exact one_end hk
        · rw [if_neg d2]
          by_cases e2 : 128 ≤ chr s (at' + 2).toNat
          · rw [show decide ((128 : Int) ≤ chr s (at' + 2).toNat) = true from decide_eq_true (by omega), show decide (chr s (at' + 2).toNat ≤ (191 : Int)) = false from decide_eq_false (by omega), show decide ((0 : Int) < 2) = true by decide] at hk
            simp only [cond_true, cond_false] at hk
            exact (one_go5 hk).ends (ht 2 (by omega))
          · rw [show decide ((128 : Int) ≤ chr s (at' + 2).toNat) = false from decide_eq_false (by omega), show decide ((0 : Int) < 2) = true by decide] at hk
            simp only [cond_true, cond_false] at hk
            exact (one_go5 hk).ends (ht 2 (by omega))
    · rw [if_neg d1]
      by_cases e1 : 128 ≤ chr s (at' + 1).toNat
      · rw [show decide ((128 : Int) ≤ chr s (at' + 1).toNat) = true from decide_eq_true (by omega), show decide (chr s (at' + 1).toNat ≤ (191 : Int)) = false from decide_eq_false (by omega), show decide ((0 : Int) < 1) = true by decide] at hk
        simp only [cond_true, cond_false] at hk
        exact (one_go5 hk).ends (ht 1 (by omega))
      · rw [show decide ((128 : Int) ≤ chr s (at' + 1).toNat) = false from decide_eq_false (by omega), show decide ((0 : Int) < 1) = true by decide] at hk
        simp only [cond_true, cond_false] at hk
        exact (one_go5 hk).ends (ht 1 (by omega))
theorem hit5 (s : ByteArray) (at' : Int) (hp : one_pre s at') (h : 237 ≤ chr s (at' + 0).toNat ∧ chr s (at' + 0).toNat ≤ 237) : AEnds E 34 0 (one_h5 s at' 0) (.int .i64 (if (slen s : Int) ≤ at' + 1 then 0 else if 128 ≤ chr s (at' + 1).toNat ∧ chr s (at' + 1).toNat ≤ 159 then (if (slen s : Int) ≤ at' + 2 then 0 else if 128 ≤ chr s (at' + 2).toNat ∧ chr s (at' + 2).toNat ≤ 191 then 3 else -1 - 2) else -1 - 1)) [] := by
  have hk := one_ok5 s at' 0 (safe5 s at' 0 (by omega) hp)
  have ht (m : Int) (hm : 0 ≤ m ∧ m ≤ 10) := tail6 s at' m hm hp (by omega)
  obtain ⟨h0, h1, h2⟩ := hp
  unfold one_t5 at hk
  simp only [show IntKind.i64.wrap (at' + 0) = at' + 0 from wrap64_in (by omega) (by omega), show IntKind.i64.wrap (at' + 1) = at' + 1 from wrap64_in (by omega) (by omega), show IntKind.i64.wrap (at' + 2) = at' + 2 from wrap64_in (by omega) (by omega), show IntKind.i64.wrap (at' + 3) = at' + 3 from wrap64_in (by omega) (by omega), show decide (at' + 0 < (slen s : Int)) = true from decide_eq_true (by omega), cond_true] at hk
  rw [show decide ((237 : Int) ≤ chr s (at' + 0).toNat) = true from decide_eq_true (by omega), show decide (chr s (at' + 0).toNat ≤ (237 : Int)) = true from decide_eq_true (by omega)] at hk
  simp only [cond_true] at hk
  by_cases c1 : (slen s : Int) ≤ at' + 1
  · rw [show decide (at' + 1 < (slen s : Int)) = false from decide_eq_false (by omega)] at hk
    simp only [cond_false] at hk
    rw [if_pos c1]; exact one_end hk
  · rw [show decide (at' + 1 < (slen s : Int)) = true from decide_eq_true (by omega)] at hk
    simp only [cond_true] at hk
    rw [if_neg c1]
    by_cases d1 : 128 ≤ chr s (at' + 1).toNat ∧ chr s (at' + 1).toNat ≤ 159
    · rw [show decide ((128 : Int) ≤ chr s (at' + 1).toNat) = true from decide_eq_true (by omega), show decide (chr s (at' + 1).toNat ≤ (159 : Int)) = true from decide_eq_true (by omega)] at hk
      simp only [cond_true] at hk
      rw [if_pos d1]
      by_cases c2 : (slen s : Int) ≤ at' + 2
      · rw [show decide (at' + 2 < (slen s : Int)) = false from decide_eq_false (by omega)] at hk
        simp only [cond_false] at hk
        rw [if_pos c2]; exact one_end hk
      · rw [show decide (at' + 2 < (slen s : Int)) = true from decide_eq_true (by omega)] at hk
        simp only [cond_true] at hk
        rw [if_neg c2]
        by_cases d2 : 128 ≤ chr s (at' + 2).toNat ∧ chr s (at' + 2).toNat ≤ 191
        · rw [show decide ((128 : Int) ≤ chr s (at' + 2).toNat) = true from decide_eq_true (by omega), show decide (chr s (at' + 2).toNat ≤ (191 : Int)) = true from decide_eq_true (by omega)] at hk
          simp only [cond_true] at hk
          rw [if_pos d2]
          exact one_end hk
        · rw [if_neg d2]
          by_cases e2 : 128 ≤ chr s (at' + 2).toNat
          · rw [show decide ((128 : Int) ≤ chr s (at' + 2).toNat) = true from decide_eq_true (by omega), show decide (chr s (at' + 2).toNat ≤ (191 : Int)) = false from decide_eq_false (by omega), show decide ((0 : Int) < 2) = true by decide] at hk
            simp only [cond_true, cond_false] at hk
            exact (one_go6 hk).ends (ht 2 (by omega))
          · rw [show decide ((128 : Int) ≤ chr s (at' + 2).toNat) = false from decide_eq_false (by omega), show decide ((0 : Int) < 2) = true by decide] at hk
            simp only [cond_true, cond_false] at hk
            exact (one_go6 hk).ends (ht 2 (by omega))
    · rw [if_neg d1]
      by_cases e1 : 128 ≤ chr s (at' + 1).toNat
      · rw [show decide ((128 : Int) ≤ chr s (at' + 1).toNat) = true from decide_eq_true (by omega), show decide (chr s (at' + 1).toNat ≤ (159 : Int)) = false from decide_eq_false (by omega), show decide ((0 : Int) < 1) = true by decide] at hk
        simp only [cond_true, cond_false] at hk
        exact (one_go6 hk).ends (ht 1 (by omega))
      · rw [show decide ((128 : Int) ≤ chr s (at' + 1).toNat) = false from decide_eq_false (by omega), show decide ((0 : Int) < 1) = true by decide] at hk
        simp only [cond_true, cond_false] at hk
        exact (one_go6 hk).ends (ht 1 (by omega))
theorem hit6 (s : ByteArray) (at' : Int) (hp : one_pre s at') (h : 238 ≤ chr s (at' + 0).toNat ∧ chr s (at' + 0).toNat ≤ 239) : AEnds E 34 0 (one_h6 s at' 0) (.int .i64 (if (slen s : Int) ≤ at' + 1 then 0 else if 128 ≤ chr s (at' + 1).toNat ∧ chr s (at' + 1).toNat ≤ 191 then (if (slen s : Int) ≤ at' + 2 then 0 else if 128 ≤ chr s (at' + 2).toNat ∧ chr s (at' + 2).toNat ≤ 191 then 3 else -1 - 2) else -1 - 1)) [] := by
  have hk := one_ok6 s at' 0 (safe6 s at' 0 (by omega) hp)
  have ht (m : Int) (hm : 0 ≤ m ∧ m ≤ 10) := tail7 s at' m hm hp (by omega)
  obtain ⟨h0, h1, h2⟩ := hp
  unfold one_t6 at hk
  simp only [show IntKind.i64.wrap (at' + 0) = at' + 0 from wrap64_in (by omega) (by omega), show IntKind.i64.wrap (at' + 1) = at' + 1 from wrap64_in (by omega) (by omega), show IntKind.i64.wrap (at' + 2) = at' + 2 from wrap64_in (by omega) (by omega), show IntKind.i64.wrap (at' + 3) = at' + 3 from wrap64_in (by omega) (by omega), show decide (at' + 0 < (slen s : Int)) = true from decide_eq_true (by omega), cond_true] at hk
  rw [show decide ((238 : Int) ≤ chr s (at' + 0).toNat) = true from decide_eq_true (by omega), show decide (chr s (at' + 0).toNat ≤ (239 : Int)) = true from decide_eq_true (by omega)] at hk
  simp only [cond_true] at hk
  by_cases c1 : (slen s : Int) ≤ at' + 1
  · rw [show decide (at' + 1 < (slen s : Int)) = false from decide_eq_false (by omega)] at hk
    simp only [cond_false] at hk
    rw [if_pos c1]; exact one_end hk
  · rw [show decide (at' + 1 < (slen s : Int)) = true from decide_eq_true (by omega)] at hk
    simp only [cond_true] at hk
    rw [if_neg c1]
    by_cases d1 : 128 ≤ chr s (at' + 1).toNat ∧ chr s (at' + 1).toNat ≤ 191
    · rw [show decide ((128 : Int) ≤ chr s (at' + 1).toNat) = true from decide_eq_true (by omega), show decide (chr s (at' + 1).toNat ≤ (191 : Int)) = true from decide_eq_true (by omega)] at hk
      simp only [cond_true] at hk
      rw [if_pos d1]
      by_cases c2 : (slen s : Int) ≤ at' + 2
      · rw [show decide (at' + 2 < (slen s : Int)) = false from decide_eq_false (by omega)] at hk
        simp only [cond_false] at hk
        rw [if_pos c2]; exact one_end hk
      · rw [show decide (at' + 2 < (slen s : Int)) = true from decide_eq_true (by omega)] at hk
        simp only [cond_true] at hk
        rw [if_neg c2]
        by_cases d2 : 128 ≤ chr s (at' + 2).toNat ∧ chr s (at' + 2).toNat ≤ 191
        · rw [show decide ((128 : Int) ≤ chr s (at' + 2).toNat) = true from decide_eq_true (by omega), show decide (chr s (at' + 2).toNat ≤ (191 : Int)) = true from decide_eq_true (by omega)] at hk
          simp only [cond_true] at hk
          rw [if_pos d2]
          exact one_end hk
        · rw [if_neg d2]
          by_cases e2 : 128 ≤ chr s (at' + 2).toNat
          · rw [show decide ((128 : Int) ≤ chr s (at' + 2).toNat) = true from decide_eq_true (by omega), show decide (chr s (at' + 2).toNat ≤ (191 : Int)) = false from decide_eq_false (by omega), show decide ((0 : Int) < 2) = true by decide] at hk
            simp only [cond_true, cond_false] at hk
            exact (one_go7 hk).ends (ht 2 (by omega))
          · rw [show decide ((128 : Int) ≤ chr s (at' + 2).toNat) = false from decide_eq_false (by omega), show decide ((0 : Int) < 2) = true by decide] at hk
            simp only [cond_true, cond_false] at hk
            exact (one_go7 hk).ends (ht 2 (by omega))
    · rw [if_neg d1]
      by_cases e1 : 128 ≤ chr s (at' + 1).toNat
      · rw [show decide ((128 : Int) ≤ chr s (at' + 1).toNat) = true from decide_eq_true (by omega), show decide (chr s (at' + 1).toNat ≤ (191 : Int)) = false from decide_eq_false (by omega), show decide ((0 : Int) < 1) = true by decide] at hk
        simp only [cond_true, cond_false] at hk
        exact (one_go7 hk).ends (ht 1 (by omega))
      · rw [show decide ((128 : Int) ≤ chr s (at' + 1).toNat) = false from decide_eq_false (by omega), show decide ((0 : Int) < 1) = true by decide] at hk
        simp only [cond_true, cond_false] at hk
        exact (one_go7 hk).ends (ht 1 (by omega))
theorem hit7 (s : ByteArray) (at' : Int) (hp : one_pre s at') (h : 240 ≤ chr s (at' + 0).toNat ∧ chr s (at' + 0).toNat ≤ 240) : AEnds E 34 0 (one_h7 s at' 0) (.int .i64 (if (slen s : Int) ≤ at' + 1 then 0 else if 144 ≤ chr s (at' + 1).toNat ∧ chr s (at' + 1).toNat ≤ 191 then (if (slen s : Int) ≤ at' + 2 then 0 else if 128 ≤ chr s (at' + 2).toNat ∧ chr s (at' + 2).toNat ≤ 191 then (if (slen s : Int) ≤ at' + 3 then 0 else if 128 ≤ chr s (at' + 3).toNat ∧ chr s (at' + 3).toNat ≤ 191 then 4 else -1 - 3) else -1 - 2) else -1 - 1)) [] := by
  have hk := one_ok7 s at' 0 (safe7 s at' 0 (by omega) hp)
  have ht (m : Int) (hm : 0 ≤ m ∧ m ≤ 10) := tail8 s at' m hm hp (by omega)
  obtain ⟨h0, h1, h2⟩ := hp
  unfold one_t7 at hk
  simp only [show IntKind.i64.wrap (at' + 0) = at' + 0 from wrap64_in (by omega) (by omega), show IntKind.i64.wrap (at' + 1) = at' + 1 from wrap64_in (by omega) (by omega), show IntKind.i64.wrap (at' + 2) = at' + 2 from wrap64_in (by omega) (by omega), show IntKind.i64.wrap (at' + 3) = at' + 3 from wrap64_in (by omega) (by omega), show IntKind.i64.wrap (at' + 4) = at' + 4 from wrap64_in (by omega) (by omega), show decide (at' + 0 < (slen s : Int)) = true from decide_eq_true (by omega), cond_true] at hk
  rw [show decide ((240 : Int) ≤ chr s (at' + 0).toNat) = true from decide_eq_true (by omega), show decide (chr s (at' + 0).toNat ≤ (240 : Int)) = true from decide_eq_true (by omega)] at hk
  simp only [cond_true] at hk
  by_cases c1 : (slen s : Int) ≤ at' + 1
  · rw [show decide (at' + 1 < (slen s : Int)) = false from decide_eq_false (by omega)] at hk
    simp only [cond_false] at hk
    rw [if_pos c1]; exact one_end hk
  · rw [show decide (at' + 1 < (slen s : Int)) = true from decide_eq_true (by omega)] at hk
    simp only [cond_true] at hk
    rw [if_neg c1]
    by_cases d1 : 144 ≤ chr s (at' + 1).toNat ∧ chr s (at' + 1).toNat ≤ 191
    · rw [show decide ((144 : Int) ≤ chr s (at' + 1).toNat) = true from decide_eq_true (by omega), show decide (chr s (at' + 1).toNat ≤ (191 : Int)) = true from decide_eq_true (by omega)] at hk
      simp only [cond_true] at hk
      rw [if_pos d1]
      by_cases c2 : (slen s : Int) ≤ at' + 2
      · rw [show decide (at' + 2 < (slen s : Int)) = false from decide_eq_false (by omega)] at hk
        simp only [cond_false] at hk
        rw [if_pos c2]; exact one_end hk
      · rw [show decide (at' + 2 < (slen s : Int)) = true from decide_eq_true (by omega)] at hk
        simp only [cond_true] at hk
        rw [if_neg c2]
        by_cases d2 : 128 ≤ chr s (at' + 2).toNat ∧ chr s (at' + 2).toNat ≤ 191
        · rw [show decide ((128 : Int) ≤ chr s (at' + 2).toNat) = true from decide_eq_true (by omega), show decide (chr s (at' + 2).toNat ≤ (191 : Int)) = true from decide_eq_true (by omega)] at hk
          simp only [cond_true] at hk
          rw [if_pos d2]
          by_cases c3 : (slen s : Int) ≤ at' + 3
          · rw [show decide (at' + 3 < (slen s : Int)) = false from decide_eq_false (by omega)] at hk
            simp only [cond_false] at hk
            rw [if_pos c3]; exact one_end hk
          · rw [show decide (at' + 3 < (slen s : Int)) = true from decide_eq_true (by omega)] at hk
            simp only [cond_true] at hk
            rw [if_neg c3]
            by_cases d3 : 128 ≤ chr s (at' + 3).toNat ∧ chr s (at' + 3).toNat ≤ 191
            · rw [show decide ((128 : Int) ≤ chr s (at' + 3).toNat) = true from decide_eq_true (by omega), show decide (chr s (at' + 3).toNat ≤ (191 : Int)) = true from decide_eq_true (by omega)] at hk
              simp only [cond_true] at hk
              rw [if_pos d3]
              exact one_end hk
            · rw [if_neg d3]
              by_cases e3 : 128 ≤ chr s (at' + 3).toNat
              · rw [show decide ((128 : Int) ≤ chr s (at' + 3).toNat) = true from decide_eq_true (by omega), show decide (chr s (at' + 3).toNat ≤ (191 : Int)) = false from decide_eq_false (by omega), show decide ((0 : Int) < 3) = true by decide] at hk
                simp only [cond_true, cond_false] at hk
                exact (one_go8 hk).ends (ht 3 (by omega))
              · rw [show decide ((128 : Int) ≤ chr s (at' + 3).toNat) = false from decide_eq_false (by omega), show decide ((0 : Int) < 3) = true by decide] at hk
                simp only [cond_true, cond_false] at hk
                exact (one_go8 hk).ends (ht 3 (by omega))
        · rw [if_neg d2]
          by_cases e2 : 128 ≤ chr s (at' + 2).toNat
          · rw [show decide ((128 : Int) ≤ chr s (at' + 2).toNat) = true from decide_eq_true (by omega), show decide (chr s (at' + 2).toNat ≤ (191 : Int)) = false from decide_eq_false (by omega), show decide ((0 : Int) < 2) = true by decide] at hk
            simp only [cond_true, cond_false] at hk
            exact (one_go8 hk).ends (ht 2 (by omega))
          · rw [show decide ((128 : Int) ≤ chr s (at' + 2).toNat) = false from decide_eq_false (by omega), show decide ((0 : Int) < 2) = true by decide] at hk
            simp only [cond_true, cond_false] at hk
            exact (one_go8 hk).ends (ht 2 (by omega))
    · rw [if_neg d1]
      by_cases e1 : 144 ≤ chr s (at' + 1).toNat
      · rw [show decide ((144 : Int) ≤ chr s (at' + 1).toNat) = true from decide_eq_true (by omega), show decide (chr s (at' + 1).toNat ≤ (191 : Int)) = false from decide_eq_false (by omega), show decide ((0 : Int) < 1) = true by decide] at hk
        simp only [cond_true, cond_false] at hk
        exact (one_go8 hk).ends (ht 1 (by omega))
      · rw [show decide ((144 : Int) ≤ chr s (at' + 1).toNat) = false from decide_eq_false (by omega), show decide ((0 : Int) < 1) = true by decide] at hk
        simp only [cond_true, cond_false] at hk
        exact (one_go8 hk).ends (ht 1 (by omega))
theorem hit8 (s : ByteArray) (at' : Int) (hp : one_pre s at') (h : 241 ≤ chr s (at' + 0).toNat ∧ chr s (at' + 0).toNat ≤ 243) : AEnds E 34 0 (one_h8 s at' 0) (.int .i64 (if (slen s : Int) ≤ at' + 1 then 0 else if 128 ≤ chr s (at' + 1).toNat ∧ chr s (at' + 1).toNat ≤ 191 then (if (slen s : Int) ≤ at' + 2 then 0 else if 128 ≤ chr s (at' + 2).toNat ∧ chr s (at' + 2).toNat ≤ 191 then (if (slen s : Int) ≤ at' + 3 then 0 else if 128 ≤ chr s (at' + 3).toNat ∧ chr s (at' + 3).toNat ≤ 191 then 4 else -1 - 3) else -1 - 2) else -1 - 1)) [] := by
  have hk := one_ok8 s at' 0 (safe8 s at' 0 (by omega) hp)
  have ht (m : Int) (hm : 0 ≤ m ∧ m ≤ 10) := tail9 s at' m hm hp (by omega)
  obtain ⟨h0, h1, h2⟩ := hp
  unfold one_t8 at hk
  simp only [show IntKind.i64.wrap (at' + 0) = at' + 0 from wrap64_in (by omega) (by omega), show IntKind.i64.wrap (at' + 1) = at' + 1 from wrap64_in (by omega) (by omega), show IntKind.i64.wrap (at' + 2) = at' + 2 from wrap64_in (by omega) (by omega), show IntKind.i64.wrap (at' + 3) = at' + 3 from wrap64_in (by omega) (by omega), show IntKind.i64.wrap (at' + 4) = at' + 4 from wrap64_in (by omega) (by omega), show decide (at' + 0 < (slen s : Int)) = true from decide_eq_true (by omega), cond_true] at hk
  rw [show decide ((241 : Int) ≤ chr s (at' + 0).toNat) = true from decide_eq_true (by omega), show decide (chr s (at' + 0).toNat ≤ (243 : Int)) = true from decide_eq_true (by omega)] at hk
  simp only [cond_true] at hk
  by_cases c1 : (slen s : Int) ≤ at' + 1
  · rw [show decide (at' + 1 < (slen s : Int)) = false from decide_eq_false (by omega)] at hk
    simp only [cond_false] at hk
    rw [if_pos c1]; exact one_end hk
  · rw [show decide (at' + 1 < (slen s : Int)) = true from decide_eq_true (by omega)] at hk
    simp only [cond_true] at hk
    rw [if_neg c1]
    by_cases d1 : 128 ≤ chr s (at' + 1).toNat ∧ chr s (at' + 1).toNat ≤ 191
    · rw [show decide ((128 : Int) ≤ chr s (at' + 1).toNat) = true from decide_eq_true (by omega), show decide (chr s (at' + 1).toNat ≤ (191 : Int)) = true from decide_eq_true (by omega)] at hk
      simp only [cond_true] at hk
      rw [if_pos d1]
      by_cases c2 : (slen s : Int) ≤ at' + 2
      · rw [show decide (at' + 2 < (slen s : Int)) = false from decide_eq_false (by omega)] at hk
        simp only [cond_false] at hk
        rw [if_pos c2]; exact one_end hk
      · rw [show decide (at' + 2 < (slen s : Int)) = true from decide_eq_true (by omega)] at hk
        simp only [cond_true] at hk
        rw [if_neg c2]
        by_cases d2 : 128 ≤ chr s (at' + 2).toNat ∧ chr s (at' + 2).toNat ≤ 191
        · rw [show decide ((128 : Int) ≤ chr s (at' + 2).toNat) = true from decide_eq_true (by omega), show decide (chr s (at' + 2).toNat ≤ (191 : Int)) = true from decide_eq_true (by omega)] at hk
          simp only [cond_true] at hk
          rw [if_pos d2]
          by_cases c3 : (slen s : Int) ≤ at' + 3
          · rw [show decide (at' + 3 < (slen s : Int)) = false from decide_eq_false (by omega)] at hk
            simp only [cond_false] at hk
            rw [if_pos c3]; exact one_end hk
          · rw [show decide (at' + 3 < (slen s : Int)) = true from decide_eq_true (by omega)] at hk
            simp only [cond_true] at hk
            rw [if_neg c3]
            by_cases d3 : 128 ≤ chr s (at' + 3).toNat ∧ chr s (at' + 3).toNat ≤ 191
            · rw [show decide ((128 : Int) ≤ chr s (at' + 3).toNat) = true from decide_eq_true (by omega), show decide (chr s (at' + 3).toNat ≤ (191 : Int)) = true from decide_eq_true (by omega)] at hk
              simp only [cond_true] at hk
              rw [if_pos d3]
              exact one_end hk
            · rw [if_neg d3]
              by_cases e3 : 128 ≤ chr s (at' + 3).toNat
              · rw [show decide ((128 : Int) ≤ chr s (at' + 3).toNat) = true from decide_eq_true (by omega), show decide (chr s (at' + 3).toNat ≤ (191 : Int)) = false from decide_eq_false (by omega), show decide ((0 : Int) < 3) = true by decide] at hk
                simp only [cond_true, cond_false] at hk
                exact (one_go9 hk).ends (ht 3 (by omega))
              · rw [show decide ((128 : Int) ≤ chr s (at' + 3).toNat) = false from decide_eq_false (by omega), show decide ((0 : Int) < 3) = true by decide] at hk
                simp only [cond_true, cond_false] at hk
                exact (one_go9 hk).ends (ht 3 (by omega))
        · rw [if_neg d2]
          by_cases e2 : 128 ≤ chr s (at' + 2).toNat
          · rw [show decide ((128 : Int) ≤ chr s (at' + 2).toNat) = true from decide_eq_true (by omega), show decide (chr s (at' + 2).toNat ≤ (191 : Int)) = false from decide_eq_false (by omega), show decide ((0 : Int) < 2) = true by decide] at hk
            simp only [cond_true, cond_false] at hk
            exact (one_go9 hk).ends (ht 2 (by omega))
          · rw [show decide ((128 : Int) ≤ chr s (at' + 2).toNat) = false from decide_eq_false (by omega), show decide ((0 : Int) < 2) = true by decide] at hk
            simp only [cond_true, cond_false] at hk
            exact (one_go9 hk).ends (ht 2 (by omega))
    · rw [if_neg d1]
      by_cases e1 : 128 ≤ chr s (at' + 1).toNat
      · rw [show decide ((128 : Int) ≤ chr s (at' + 1).toNat) = true from decide_eq_true (by omega), show decide (chr s (at' + 1).toNat ≤ (191 : Int)) = false from decide_eq_false (by omega), show decide ((0 : Int) < 1) = true by decide] at hk
        simp only [cond_true, cond_false] at hk
        exact (one_go9 hk).ends (ht 1 (by omega))
      · rw [show decide ((128 : Int) ≤ chr s (at' + 1).toNat) = false from decide_eq_false (by omega), show decide ((0 : Int) < 1) = true by decide] at hk
        simp only [cond_true, cond_false] at hk
        exact (one_go9 hk).ends (ht 1 (by omega))
theorem hit9 (s : ByteArray) (at' : Int) (hp : one_pre s at') (h : 244 ≤ chr s (at' + 0).toNat ∧ chr s (at' + 0).toNat ≤ 244) : AEnds E 34 0 (one_h9 s at' 0) (.int .i64 (if (slen s : Int) ≤ at' + 1 then 0 else if 128 ≤ chr s (at' + 1).toNat ∧ chr s (at' + 1).toNat ≤ 143 then (if (slen s : Int) ≤ at' + 2 then 0 else if 128 ≤ chr s (at' + 2).toNat ∧ chr s (at' + 2).toNat ≤ 191 then (if (slen s : Int) ≤ at' + 3 then 0 else if 128 ≤ chr s (at' + 3).toNat ∧ chr s (at' + 3).toNat ≤ 191 then 4 else -1 - 3) else -1 - 2) else -1 - 1)) [] := by
  have hk := one_ok9 s at' 0 (safe9 s at' 0 (by omega) hp)
  have ht (m : Int) (hm : 0 ≤ m ∧ m ≤ 10) := tail10 s at' m hm
  obtain ⟨h0, h1, h2⟩ := hp
  unfold one_t9 at hk
  simp only [show IntKind.i64.wrap (at' + 0) = at' + 0 from wrap64_in (by omega) (by omega), show IntKind.i64.wrap (at' + 1) = at' + 1 from wrap64_in (by omega) (by omega), show IntKind.i64.wrap (at' + 2) = at' + 2 from wrap64_in (by omega) (by omega), show IntKind.i64.wrap (at' + 3) = at' + 3 from wrap64_in (by omega) (by omega), show IntKind.i64.wrap (at' + 4) = at' + 4 from wrap64_in (by omega) (by omega), show decide (at' + 0 < (slen s : Int)) = true from decide_eq_true (by omega), cond_true] at hk
  rw [show decide ((244 : Int) ≤ chr s (at' + 0).toNat) = true from decide_eq_true (by omega), show decide (chr s (at' + 0).toNat ≤ (244 : Int)) = true from decide_eq_true (by omega)] at hk
  simp only [cond_true] at hk
  by_cases c1 : (slen s : Int) ≤ at' + 1
  · rw [show decide (at' + 1 < (slen s : Int)) = false from decide_eq_false (by omega)] at hk
    simp only [cond_false] at hk
    rw [if_pos c1]; exact one_end hk
  · rw [show decide (at' + 1 < (slen s : Int)) = true from decide_eq_true (by omega)] at hk
    simp only [cond_true] at hk
    rw [if_neg c1]
    by_cases d1 : 128 ≤ chr s (at' + 1).toNat ∧ chr s (at' + 1).toNat ≤ 143
    · rw [show decide ((128 : Int) ≤ chr s (at' + 1).toNat) = true from decide_eq_true (by omega), show decide (chr s (at' + 1).toNat ≤ (143 : Int)) = true from decide_eq_true (by omega)] at hk
      simp only [cond_true] at hk
      rw [if_pos d1]
      by_cases c2 : (slen s : Int) ≤ at' + 2
      · rw [show decide (at' + 2 < (slen s : Int)) = false from decide_eq_false (by omega)] at hk
        simp only [cond_false] at hk
        rw [if_pos c2]; exact one_end hk
      · rw [show decide (at' + 2 < (slen s : Int)) = true from decide_eq_true (by omega)] at hk
        simp only [cond_true] at hk
        rw [if_neg c2]
        by_cases d2 : 128 ≤ chr s (at' + 2).toNat ∧ chr s (at' + 2).toNat ≤ 191
        · rw [show decide ((128 : Int) ≤ chr s (at' + 2).toNat) = true from decide_eq_true (by omega), show decide (chr s (at' + 2).toNat ≤ (191 : Int)) = true from decide_eq_true (by omega)] at hk
          simp only [cond_true] at hk
          rw [if_pos d2]
          by_cases c3 : (slen s : Int) ≤ at' + 3
          · rw [show decide (at' + 3 < (slen s : Int)) = false from decide_eq_false (by omega)] at hk
            simp only [cond_false] at hk
            rw [if_pos c3]; exact one_end hk
          · rw [show decide (at' + 3 < (slen s : Int)) = true from decide_eq_true (by omega)] at hk
            simp only [cond_true] at hk
            rw [if_neg c3]
            by_cases d3 : 128 ≤ chr s (at' + 3).toNat ∧ chr s (at' + 3).toNat ≤ 191
            · rw [show decide ((128 : Int) ≤ chr s (at' + 3).toNat) = true from decide_eq_true (by omega), show decide (chr s (at' + 3).toNat ≤ (191 : Int)) = true from decide_eq_true (by omega)] at hk
              simp only [cond_true] at hk
              rw [if_pos d3]
              exact one_end hk
            · rw [if_neg d3]
              by_cases e3 : 128 ≤ chr s (at' + 3).toNat
              · rw [show decide ((128 : Int) ≤ chr s (at' + 3).toNat) = true from decide_eq_true (by omega), show decide (chr s (at' + 3).toNat ≤ (191 : Int)) = false from decide_eq_false (by omega), show decide ((0 : Int) < 3) = true by decide] at hk
                simp only [cond_true, cond_false] at hk
                exact (one_go10 hk).ends (ht 3 (by omega))
              · rw [show decide ((128 : Int) ≤ chr s (at' + 3).toNat) = false from decide_eq_false (by omega), show decide ((0 : Int) < 3) = true by decide] at hk
                simp only [cond_true, cond_false] at hk
                exact (one_go10 hk).ends (ht 3 (by omega))
        · rw [if_neg d2]
          by_cases e2 : 128 ≤ chr s (at' + 2).toNat
          · rw [show decide ((128 : Int) ≤ chr s (at' + 2).toNat) = true from decide_eq_true (by omega), show decide (chr s (at' + 2).toNat ≤ (191 : Int)) = false from decide_eq_false (by omega), show decide ((0 : Int) < 2) = true by decide] at hk
            simp only [cond_true, cond_false] at hk
            exact (one_go10 hk).ends (ht 2 (by omega))
          · rw [show decide ((128 : Int) ≤ chr s (at' + 2).toNat) = false from decide_eq_false (by omega), show decide ((0 : Int) < 2) = true by decide] at hk
            simp only [cond_true, cond_false] at hk
            exact (one_go10 hk).ends (ht 2 (by omega))
    · rw [if_neg d1]
      by_cases e1 : 128 ≤ chr s (at' + 1).toNat
      · rw [show decide ((128 : Int) ≤ chr s (at' + 1).toNat) = true from decide_eq_true (by omega), show decide (chr s (at' + 1).toNat ≤ (143 : Int)) = false from decide_eq_false (by omega), show decide ((0 : Int) < 1) = true by decide] at hk
        simp only [cond_true, cond_false] at hk
        exact (one_go10 hk).ends (ht 1 (by omega))
      · rw [show decide ((128 : Int) ≤ chr s (at' + 1).toNat) = false from decide_eq_false (by omega), show decide ((0 : Int) < 1) = true by decide] at hk
        simp only [cond_true, cond_false] at hk
        exact (one_go10 hk).ends (ht 1 (by omega))

/-- How many bytes of a character may be, how it ends. -/
def rc : Nat → Int → Int → List UInt8 → Nat × Nat
  | _, _, _, [] => (0, 1)
  | l, lo, hi, b :: r => if (b.toNat : Int) < lo ∨ hi < b.toNat then (0, 2) else if l = 1 then (1, 0) else ((rc (l - 1) 128 191 r).1 + 1, (rc (l - 1) 128 191 r).2)
theorem runC_rc : ∀ (L : List UInt8) (l : Nat) (lo hi x : Int), 1 ≤ l → l ≤ 3 → ((runC (l, lo, hi, x) L).1, (runC (l, lo, hi, x) L).2.1) = rc l lo hi L
  | [], l, lo, hi, x, h1, h3 => by simp [runC, rc]
  | b :: r, l, lo, hi, x, h1, h3 => by
    unfold runC rc
    rw [sst_in _ _ _ _ _ (by omega)]
    by_cases c : (b.toNat : Int) < lo ∨ hi < b.toNat
    · simp [c]
    · simp only [if_neg c]
      rw [wrap64_in (by omega) (by omega)]
      by_cases d : l = 1
      · subst d; simp
      · rw [if_neg (by omega), if_neg d, show ((l : Int) - 1) = ((l - 1 : Nat) : Int) by omega]
        have := runC_rc r (l - 1) 128 191 (ior IntKind.i32 (ishl IntKind.i32 x 6) (IntKind.i32.wrap (iand IntKind.u8 (b.toNat : Int) 63))) (by omega) (by omega)
        rw [← this]

theorem bg_cases {b : Int} {q : Q} (h0 : 0 ≤ b) (h1 : b < 256) (h : bg b = some q) : (q.1 = 0 ∧ q.2.2.2 = b) ∨ (q.1 = 1 ∧ q.2.2.2 = b % 32) ∨ (q.1 = 2 ∧ q.2.2.2 = b % 16) ∨ (q.1 = 3 ∧ q.2.2.2 = b % 8) := by
  unfold bg at h
  repeat' split at h
  all_goals first
    | (cases h; done)
    | (cases h; dsimp only; omega)

theorem runC_start {b : UInt8} {q : Q} (r : List UInt8) (e1 : begins_t0 b.toNat = q) (e2 : 0 ≤ q.1) : runC (0, 0, 0, 0) (b :: r) = if q.1 = 0 then (1, 0, q) else ((runC q r).1 + 1, (runC q r).2) := by
  have e : sst (0, 0, 0, 0) b.toNat = (true, q) := by
    rw [sst_start, if_neg (by rw [e1]; omega), e1]
  simp only [runC, e]
theorem runC_bad {b : UInt8} (r : List UInt8) (e1 : (begins_t0 b.toNat).1 < 0) : runC (0, 0, 0, 0) (b :: r) = (0, 2, 0, 0, 0, 0) := by
  have e : sst (0, 0, 0, 0) b.toNat = (false, 0, 0, 0, 0) := by
    rw [sst_start, if_pos e1]
  simp only [runC, e]
theorem first_byte (n : Int) (h0 : 0 ≤ n) (h1 : n < 256) : (∃ q, bg n = some q ∧ begins_t0 n = q ∧ 0 ≤ q.1) ∨ (begins_t0 n).1 < 0 := by
  have hb := begins_bg n h0 h1
  split at hb
  · rename_i q hq
    exact .inl ⟨q, hq, hb.1, hb.2⟩
  · exact .inr hb


def valOf (k : Nat × Nat) (d : Nat) : Int := if k.2 = 0 then (k.1 + d : Nat) else if k.2 = 1 then 0 else -1 - ((k.1 + d : Nat) : Int)
theorem valOf_succ (k : Nat × Nat) (d : Nat) : valOf (k.1 + 1, k.2) d = valOf k (d + 1) := by
  unfold valOf
  rw [show k.1 + 1 + d = k.1 + (d + 1) by omega]
theorem stepv (s : ByteArray) (i d l : Nat) (lo hi : Int) : valOf (rc l lo hi ((toL s).drop (i + d))) d =
    (if (slen s : Int) ≤ (i : Int) + d then 0 else if lo ≤ chr s ((i : Int) + d).toNat ∧ chr s ((i : Int) + d).toNat ≤ hi then (if l = 1 then ((d + 1 : Nat) : Int) else valOf (rc (l - 1) 128 191 ((toL s).drop (i + (d + 1)))) (d + 1)) else -1 - (d : Int)) := by
  have e : ((i : Int) + d).toNat = i + d := by omega
  rw [e]
  rcases Nat.lt_or_ge (i + d) (toL s).length with h | h
  · rw [if_neg (by unfold slen; omega), List.drop_eq_getElem_cons h, rc]
    have hc : chr s (i + d) = ((toL s)[i + d].toNat : Int) := by simp [chr, List.getD_eq_getElem?_getD, h]
    rw [hc]
    by_cases c : ((toL s)[i + d].toNat : Int) < lo ∨ hi < (toL s)[i + d].toNat
    · rw [if_pos c, if_neg (by omega)]
      simp [valOf]
    · rw [if_neg c, if_pos (show lo ≤ ((toL s)[i + d].toNat : Int) ∧ ((toL s)[i + d].toNat : Int) ≤ hi by omega)]
      by_cases hl : l = 1
      · rw [if_pos hl, if_pos hl]
        simp [valOf, Nat.add_comm]
      · rw [if_neg hl, if_neg hl, valOf_succ]
        rfl
  · rw [if_pos (by unfold slen; omega), List.drop_eq_nil_of_le h, rc]
    simp [valOf]
theorem oneV_run {s : ByteArray} {i : Nat} (h : i < (toL s).length) {l : Nat} {lo hi x : Int} (hl : 1 ≤ l ∧ l ≤ 3) (e1 : begins_t0 (toL s)[i].toNat = ((l : Int), lo, hi, x)) : oneV ((toL s).drop i) = valOf (rc l lo hi ((toL s).drop (i + 1))) 1 := by
  rw [List.drop_eq_getElem_cons h]
  unfold oneV
  have hz : ¬ ((l : Int) = 0) := by omega
  rw [show runC (0, 0, 0, 0) ((toL s)[i] :: (toL s).drop (i + 1)) = ((runC ((l : Int), lo, hi, x) ((toL s).drop (i + 1))).1 + 1, (runC ((l : Int), lo, hi, x) ((toL s).drop (i + 1))).2) from (runC_start _ e1 (by show (0 : Int) ≤ (l : Int); omega)).trans (if_neg hz)]
  have hr := runC_rc ((toL s).drop (i + 1)) l lo hi x hl.1 hl.2
  generalize rc l lo hi ((toL s).drop (i + 1)) = k at hr ⊢
  obtain ⟨k1, k2⟩ := k
  simp only [Prod.mk.injEq] at hr
  simp only [valOf, hr.1, hr.2]
theorem begins_neg (b : Int) (h0 : 0 ≤ b) (h1 : b < 256) (h : (begins_t0 b).1 < 0) : (128 ≤ b ∧ b < 194) ∨ 244 < b := by
  have hb := begins_bg b h0 h1
  apply Decidable.byContradiction
  intro hn
  have hq : ∃ q, bg b = some q := by
    unfold bg
    repeat' split
    all_goals first | exact ⟨_, rfl⟩ | (exfalso; omega)
  obtain ⟨q, hq⟩ := hq
  rw [hq] at hb
  have h2 := hb.2
  rw [hb.1] at h
  omega
theorem one_val (s : ByteArray) (at' : Int) (hp : one_pre s at') : AEnds E 34 0 (one_h1 s at') (.int .i64 (oneV ((toL s).drop at'.toNat))) [] := by
  have hp' := hp
  obtain ⟨h0, h1, h2⟩ := hp'
  obtain ⟨i, rfl⟩ : ∃ i : Nat, at' = i := ⟨at'.toNat, by omega⟩
  have hl : i < (toL s).length := by unfold slen at h1; omega
  have hc : chr s i = ((toL s)[i].toNat : Int) := by simp [chr, List.getD_eq_getElem?_getD, hl]
  obtain ⟨u0, u1⟩ := u8_lt (toL s)[i]
  have e0 : ((i : Int) + 0).toNat = i := by omega
  rw [Int.toNat_natCast]
  have v1 (l : Nat) (lo hi x : Int) (hll : 1 ≤ l ∧ l ≤ 3) (e1 : begins_t0 (toL s)[i].toNat = ((l : Int), lo, hi, x)) := oneV_run hl hll e1
  have s1 (l : Nat) (lo hi : Int) := stepv s i 1 l lo hi
  have s2 (l : Nat) (lo hi : Int) := stepv s i 2 l lo hi
  have s3 (l : Nat) (lo hi : Int) := stepv s i 3 l lo hi
  rcases first_byte ((toL s)[i].toNat : Int) u0 u1 with ⟨q, hq, e1, e2⟩ | hb
  · unfold bg at hq
    split at hq
    · cases hq
      have := hit1 s i hp (by rw [e0, hc]; omega)
      have hv : oneV ((toL s).drop i) = 1 := by
        rw [List.drop_eq_getElem_cons hl]
        unfold oneV
        rw [runC_start _ e1 e2]
        rfl
      rw [hv]; exact this
    split at hq
    · cases hq
    split at hq
    · cases hq
      have := hit2 s i hp (by rw [e0, hc]; omega)
      rw [v1 1 _ _ _ (by omega) e1, s1]
      exact (lead2 s i hp (by rw [e0, hc]; omega)).ends this
    split at hq
    · cases hq
      have := hit3 s i hp (by rw [e0, hc]; omega)
      rw [v1 2 _ _ _ (by omega) e1, s1, s2]
      exact (lead3 s i hp (by rw [e0, hc]; omega)).ends this
    split at hq
    · cases hq
      have := hit5 s i hp (by rw [e0, hc]; omega)
      rw [v1 2 _ _ _ (by omega) e1, s1, s2]
      exact (lead5 s i hp (by rw [e0, hc]; omega)).ends this
    split at hq
    · cases hq
      rw [v1 2 _ _ _ (by omega) e1, s1, s2]
      by_cases c : ((toL s)[i].toNat : Int) ≤ 236
      · exact (lead4 s i hp (by rw [e0, hc]; omega)).ends (hit4 s i hp (by rw [e0, hc]; omega))
      · exact (lead6 s i hp (by rw [e0, hc]; omega)).ends (hit6 s i hp (by rw [e0, hc]; omega))
    split at hq
    · cases hq
      have := hit7 s i hp (by rw [e0, hc]; omega)
      rw [v1 3 _ _ _ (by omega) e1, s1, s2, s3]
      exact (lead7 s i hp (by rw [e0, hc]; omega)).ends this
    split at hq
    · cases hq
      have := hit9 s i hp (by rw [e0, hc]; omega)
      rw [v1 3 _ _ _ (by omega) e1, s1, s2, s3]
      exact (lead9 s i hp (by rw [e0, hc]; omega)).ends this
    split at hq
    · cases hq
      have := hit8 s i hp (by rw [e0, hc]; omega)
      rw [v1 3 _ _ _ (by omega) e1, s1, s2, s3]
      exact (lead8 s i hp (by rw [e0, hc]; omega)).ends this
    · cases hq
  · have hv : oneV ((toL s).drop i) = -1 := by
      rw [List.drop_eq_getElem_cons hl]
      unfold oneV
      rw [runC_bad _ hb]
      rfl
    rw [hv]
    have hn : (128 ≤ ((toL s)[i].toNat : Int) ∧ ((toL s)[i].toNat : Int) < 194) ∨ 244 < ((toL s)[i].toNat : Int) := begins_neg _ u0 u1 hb
    rcases hn with hn | hn
    · exact (lead2 s i hp (by rw [e0, hc]; omega)).ends (tail2 s i hp (by rw [e0, hc]; omega))
    · exact (lead10 s i hp (by rw [e0, hc]; omega)).ends (tail10 s i 0 (by omega))
theorem one_call (s : ByteArray) (at' : Int) (h : one_pre s at') : CallOk E 34 [.string s, .int .i64 at'] [] (one_v s at') (one_h s at') :=
  callOk_of_ends ((one_go1 (one_ok0 s at' (by unfold one_S0; simp [shapes_S0]))).ends (one_val s at' h)) (by kernel_rfl) (Nat.le_of_ble_eq_true (by kernel_rfl))

def one_ex (a : List Value) (h : Heap) : ByteArray × Int := ((toStr (a.getD 0 undef)), (toInt (a.getD 1 undef)))
noncomputable def one_k : Ct := kP one_ex (fun x => [Value.string x.1, Value.int IntKind.i64 x.2]) (fun x => []) (fun x => one_pre (x.1) (x.2)) (fun x => one_v (x.1) (x.2)) (fun x => one_h (x.1) (x.2))
theorem one_k_ok : KFor E 34 one_k := kP_ok (fun x hx => one_call (x.1) (x.2) hx)


end Go.Proofs.Ytnimmocgnimdiaa
