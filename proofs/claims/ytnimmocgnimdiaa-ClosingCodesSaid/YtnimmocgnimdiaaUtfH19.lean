/-
  Whether bytes are a text: the walk over characters, as a contract.
-/
import Derived.Test.YtnimmocgnimdiaaUtfP19
import Derived.Test.YtnimmocgnimdiaaUtfC19
set_option linter.unusedVariables false
set_option linter.unusedSimpArgs false
open Go Go.Am
namespace Go.Proofs.Ytnimmocgnimdiaa

/-- Within a character of which n bytes were read. -/
def CI (n : Nat) (q : Q) : Prop :=
  128 ≤ q.2.1 ∧ q.2.2.1 ≤ 191 ∧
  ((n = 1 ∧ q.1 = 1 ∧ 2 ≤ q.2.2.2 ∧ q.2.2.2 ≤ 31) ∨ (n = 1 ∧ q.1 = 2 ∧ 0 ≤ q.2.2.2 ∧ q.2.2.2 ≤ 15 ∧ (q.2.2.2 = 0 → q.2.1 = 160)) ∨ (n = 2 ∧ q.1 = 1 ∧ 32 ≤ q.2.2.2 ∧ q.2.2.2 ≤ 1023) ∨
   (n = 1 ∧ q.1 = 3 ∧ 0 ≤ q.2.2.2 ∧ q.2.2.2 ≤ 7 ∧ (q.2.2.2 = 0 → q.2.1 = 144)) ∨ (n = 2 ∧ q.1 = 2 ∧ 16 ≤ q.2.2.2 ∧ q.2.2.2 ≤ 511) ∨ (n = 3 ∧ q.1 = 1 ∧ 1024 ≤ q.2.2.2 ∧ q.2.2.2 ≤ 32767))
theorem CI_left {n : Nat} {q : Q} (h : CI n q) : q.1 ≠ 0 ∧ 1 ≤ n := by
  unfold CI at h
  omega
theorem bg_CI {b : Int} {q : Q} (h0 : 0 ≤ b) (h : bg b = some q) : (q.1 = 0 ∧ width_t0 q.2.2.2 = 1) ∨ CI 1 q := by
  unfold bg at h
  unfold CI
  repeat' split at h
  all_goals first
    | (cases h; done)
    | (cases h; left; constructor; · rfl
       · unfold width_t0; simp only [Bool.cond_decide]; rw [if_pos (by omega)])
    | (cases h; right; dsimp only; omega)
theorem start_CI {lo hi x b : Int} (h0 : 0 ≤ b) (h1 : b < 256) (h : (sst (0, lo, hi, x) b).1 = true) : ((sst (0, lo, hi, x) b).2.1 = 0 ∧ width_t0 (sst (0, lo, hi, x) b).2.2.2.2 = 1) ∨ CI 1 (sst (0, lo, hi, x) b).2 := by
  have hb := begins_bg b h0 h1
  rw [sst_start] at h ⊢
  split at h
  · cases h
  · rename_i hn
    rw [if_neg hn]
    split at hb
    · rename_i q hq
      rw [hb.1]
      exact bg_CI h0 hq
    · exact absurd hb hn
theorem cont_val {l lo hi x b : Int} (hl : l = 1 ∨ l = 2 ∨ l = 3) (hx0 : 0 ≤ x) (hx1 : x ≤ 32767) (h0 : 0 ≤ b) (h1 : b < 256) (h : (sst (l, lo, hi, x) b).1 = true) :
    lo ≤ b ∧ b ≤ hi ∧ (sst (l, lo, hi, x) b).2 = (l - 1, 128, 191, x * 64 + b % 64) := by
  rw [sst_in _ _ _ _ _ (by omega)] at h ⊢
  split at h
  · cases h
  · rename_i hn
    rw [if_neg hn]
    refine ⟨by omega, by omega, ?_⟩
    rw [and63 b h0 h1, wrap32_in (by omega) (by omega), shl6 x hx0 (by omega), or6 x (b % 64) hx0 (by omega) (by omega) (by omega), wrap64_in (by omega) (by omega)]
theorem cont_CI {n : Nat} {q : Q} {b : Int} (hq : CI n q) (h0 : 0 ≤ b) (h1 : b < 256) (h : (sst q b).1 = true) :
    ((sst q b).2.1 = 0 ∧ width_t0 (sst q b).2.2.2.2 = n + 1) ∨ CI (n + 1) (sst q b).2 := by
  obtain ⟨l, lo, hi, x⟩ := q
  unfold CI at hq
  dsimp only at hq
  obtain ⟨c1, c2, c3⟩ := cont_val (by omega) (by omega) (by omega) h0 h1 h
  rw [c3]
  unfold CI width_t0
  simp only [Bool.cond_decide]
  rcases hq with ⟨g1, g2, hq | hq | hq | hq | hq | hq⟩
  · left; refine ⟨by omega, ?_⟩
    rw [if_neg (by omega), if_pos (by omega)]; show (2 : Int) = _; omega
  · right; omega
  · left; refine ⟨by omega, ?_⟩
    rw [if_neg (by omega), if_neg (by omega), if_pos (by omega)]; show (3 : Int) = _; omega
  · right; omega
  · right; omega
  · left; refine ⟨by omega, ?_⟩
    rw [if_neg (by omega), if_neg (by omega), if_neg (by omega)]; show (4 : Int) = _; omega

def wholeD : Q → List UInt8 → Bool
  | q, [] => q.1 == 0
  | q, b :: r => (sst q b.toNat).1 && wholeD (sst q b.toNat).2 r
theorem wholeD_feed : ∀ (l : List UInt8) (q : Q) (at' : Int), wholeD q l = (!(feedL q at' false l).2.2 && (feedL q at' false l).1.1 == 0)
  | [], q, at' => by simp [wholeD, feedL]
  | b :: r, q, at' => by
    rw [wholeD, feedL]
    cases h : (sst q b.toNat).1 with
    | false => simp [feedL_bad]
    | true => simp only [Bool.true_and, cond_false, cond_true, Bool.not_true]; exact wholeD_feed r _ _

theorem u8_lt (b : UInt8) : (0 : Int) ≤ (b.toNat : Int) ∧ (b.toNat : Int) < 256 := by
  have := b.toNat_lt
  omega

theorem valid_run (s : ByteArray) (hs : slen s ≤ 1000000) : ∀ (n i : Nat) (q : Q) (fr e : Nat), i + n = slen s → ((q.1 = 0 ∧ e = i) ∨ (e = fr ∧ fr ≤ i ∧ CI (i - fr) q)) → (q.1 = 0 → True) →
    AEnds E 15 0 (valid_h1 s i e q.1 q.2.1 q.2.2.1 q.2.2.2 fr) (.bool (wholeD q ((toL s).drop i))) []
  | 0, i, q, fr, e, hi, hq, _ => by
    have h := valid_ok1 s i e q.1 q.2.1 q.2.2.1 q.2.2.2 fr (by unfold valid_S1; simp [show ¬ ((i : Int) < slen s) by omega])
    rw [show valid_t1 s i e q.1 q.2.1 q.2.2.1 q.2.2.2 fr = .inr ((e : Int) == (slen s : Int)) by unfold valid_t1; simp [show ¬ ((i : Int) < slen s) by omega]] at h
    rw [show (toL s).drop i = [] from List.drop_eq_nil_of_le (by unfold slen at hi; omega), wholeD]
    have e1 : (((e : Int) == (slen s : Int)) : Bool) = (q.1 == 0) := by
      rw [Bool.eq_iff_iff]
      simp only [beq_iff_eq]
      rcases hq with ⟨h1, h2⟩ | ⟨h1, h2, h3⟩
      · omega
      · have := CI_left h3; omega
    rw [e1] at h
    exact valid_end h
  | n + 1, i, q, fr, e, hi, hq, _ => by
    have hl : i < (toL s).length := by unfold slen at hi; omega
    have hc : chr s (i : Int).toNat = ((toL s)[i].toNat : Int) := by simp [chr, List.getD_eq_getElem?_getD, hl]
    obtain ⟨u0, u1⟩ := u8_lt (toL s)[i]
    have h := valid_ok1 s i e q.1 q.2.1 q.2.2.1 q.2.2.2 fr (by
      unfold valid_S1; simp [show ((i : Int) < slen s) by omega, step_safe, width_S0])
    have e0 : step_t0 q.1 q.2.1 q.2.2.1 q.2.2.2 0 false (chr s (i : Int).toNat) = sst q (toL s)[i].toNat := by rw [hc]; rfl
    unfold valid_t1 at h
    simp only [e0, show decide ((i : Int) < slen s) = true by simp; omega, cond_true] at h
    rw [List.drop_eq_getElem_cons hl, wholeD]
    have hlt : ((e : Int) == (slen s : Int)) = false := by
      rw [beq_eq_false_iff_ne]
      rcases hq with ⟨h1, h2⟩ | ⟨h1, h2, h3⟩ <;> omega
    clear hc e0
    generalize (toL s)[i] = b at h u0 u1 ⊢
    cases hb : (sst q b.toNat).1 with
    | false =>
      simp only [hb, Bool.not_false, cond_true, Bool.cond_self] at h
      rw [hlt] at h
      exact valid_end h
    | true =>
      simp only [hb, Bool.not_true, cond_false] at h
      rw [Bool.true_and]
      rw [wrap64_in (x := (i : Int) + 1) (by omega) (by omega), show (i : Int) + 1 = ((i + 1 : Nat) : Int) by omega] at h
      rcases hq with ⟨h1, h2⟩ | ⟨h1, h2, h3⟩
      · -- ahead of a character
        subst h2
        obtain ⟨l, lo, hi2, x⟩ := q
        dsimp only at h1
        subst h1
        simp only [beq_self_eq_true, cond_true] at h
        dsimp only
        have hs0 := start_CI u0 u1 hb
        generalize sst (0, lo, hi2, x) b.toNat = r at h hb hs0 ⊢
        rcases hs0 with ⟨g1, g2⟩ | g
        · simp only [g1, g2, beq_self_eq_true, cond_true] at h
          rw [wrap64_in (by omega) (by omega), show (e : Int) + 1 = ((e + 1 : Nat) : Int) by omega] at h
          have ih := valid_run s hs n (e + 1) r.2 e (e + 1) (by omega) (.inl ⟨g1, rfl⟩) (fun _ => trivial)
          rw [g1] at ih
          exact (valid_go1 h).ends ih
        · have g1 := (CI_left g).1
          have g2 : (r.2.1 == 0) = false := by simpa using g1
          simp only [g2, cond_false] at h
          exact (valid_go1 h).ends (valid_run s hs n (e + 1) _ e e (by omega) (.inr ⟨rfl, by omega, by rw [show e + 1 - e = 1 by omega]; exact g⟩) (fun _ => trivial))
      · subst h1
        have hq0 : (q.1 == 0) = false := by simpa using (CI_left h3).1
        simp only [hq0, cond_false] at h
        rcases cont_CI h3 u0 u1 hb with ⟨g1, g2⟩ | g
        · simp only [g1, g2, beq_self_eq_true, cond_true] at h
          have e2 : IntKind.i64.wrap ((e : Int) + (((i - e : Nat) : Int) + 1)) = ((i + 1 : Nat) : Int) := by rw [wrap64_in (by omega) (by omega)]; omega
          rw [e2] at h
          have ih := valid_run s hs n (i + 1) (sst q b.toNat).2 e (i + 1) (by omega) (.inl ⟨g1, rfl⟩) (fun _ => trivial)
          rw [g1] at ih
          exact (valid_go1 h).ends ih
        · have g1 := (CI_left g).1
          have g2 : ((sst q b.toNat).2.1 == 0) = false := by simpa using g1
          simp only [g2, cond_false] at h
          exact (valid_go1 h).ends (valid_run s hs n (i + 1) _ e e (by omega) (.inr ⟨rfl, by omega, by rw [show i + 1 - e = i - e + 1 by omega]; exact g⟩) (fun _ => trivial))

def valid_pre (s : ByteArray) : Prop := slen s ≤ 1000000
def valid_v (s : ByteArray) : Value := .bool (wholeD (0, 0, 0, 0) (toL s))
def valid_h (s : ByteArray) : Heap := []
theorem valid_call (s : ByteArray) (h : valid_pre s) : CallOk E 15 [.string s] [] (valid_v s) (valid_h s) :=
  callOk_of_ends (Gets.ends (valid_ok0 s trivial) (valid_run s h (slen s) 0 (0, 0, 0, 0) 0 0 (by omega) (.inl ⟨rfl, rfl⟩) (fun _ => trivial))) (by kernel_rfl) (Nat.le_of_ble_eq_true (by kernel_rfl))

end Go.Proofs.Ytnimmocgnimdiaa
