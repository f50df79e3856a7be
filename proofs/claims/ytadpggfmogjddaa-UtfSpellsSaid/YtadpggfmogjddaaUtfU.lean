/-
  Plain laws of characters: a character's bytes and its number's own letters.
-/
import Derived.Test.YtadpggfmogjddaaUtfS
set_option linter.unusedVariables false
set_option linter.unusedSimpArgs false
open Go Go.Am
namespace Go.Proofs.Ytadpggfmogjddaa

/-- Within a character of which these bytes were read. -/
inductive In : List UInt8 → Q → Prop
  | f1 (a : UInt8) (lo hi x : Int) : 194 ≤ a.toNat → a.toNat ≤ 223 → 128 ≤ lo → hi ≤ 191 → x = (a.toNat : Int) - 192 → In [a] (1, lo, hi, x)
  | f2 (a : UInt8) (lo hi x : Int) : 224 ≤ a.toNat → a.toNat ≤ 239 → 128 ≤ lo → hi ≤ 191 → (a.toNat = 224 → 160 ≤ lo) → (a.toNat = 237 → hi ≤ 159) → x = (a.toNat : Int) - 224 → In [a] (2, lo, hi, x)
  | f3 (a b : UInt8) (lo hi x : Int) : 224 ≤ a.toNat → a.toNat ≤ 239 → 128 ≤ b.toNat → b.toNat ≤ 191 → (a.toNat = 224 → 160 ≤ b.toNat) → (a.toNat = 237 → b.toNat ≤ 159) → 128 ≤ lo → hi ≤ 191 → x = ((a.toNat : Int) - 224) * 64 + ((b.toNat : Int) - 128) → In [a, b] (1, lo, hi, x)
  | f4 (a : UInt8) (lo hi x : Int) : 240 ≤ a.toNat → a.toNat ≤ 244 → 128 ≤ lo → hi ≤ 191 → (a.toNat = 240 → 144 ≤ lo) → (a.toNat = 244 → hi ≤ 143) → x = (a.toNat : Int) - 240 → In [a] (3, lo, hi, x)
  | f5 (a b : UInt8) (lo hi x : Int) : 240 ≤ a.toNat → a.toNat ≤ 244 → 128 ≤ b.toNat → b.toNat ≤ 191 → (a.toNat = 240 → 144 ≤ b.toNat) → (a.toNat = 244 → b.toNat ≤ 143) → 128 ≤ lo → hi ≤ 191 → x = ((a.toNat : Int) - 240) * 64 + ((b.toNat : Int) - 128) → In [a, b] (2, lo, hi, x)
  | f6 (a b c : UInt8) (lo hi x : Int) : 240 ≤ a.toNat → a.toNat ≤ 244 → 128 ≤ b.toNat → b.toNat ≤ 191 → (a.toNat = 240 → 144 ≤ b.toNat) → (a.toNat = 244 → b.toNat ≤ 143) → 128 ≤ c.toNat → c.toNat ≤ 191 → 128 ≤ lo → hi ≤ 191 → x = (((a.toNat : Int) - 240) * 64 + ((b.toNat : Int) - 128)) * 64 + ((c.toNat : Int) - 128) → In [a, b, c] (1, lo, hi, x)
theorem In_left {p : List UInt8} {q : Q} (h : In p q) : q.1 ≠ 0 ∧ p ≠ [] := by
  cases h <;> simp
/-- A number that may be a character. -/
def okR (x : Int) : Prop := 0 ≤ x ∧ x ≤ 1114111 ∧ ¬ (55296 ≤ x ∧ x ≤ 57343)
theorem valid_ok {x : Int} (h : okR x) : Utf8.valid x = true := by
  unfold okR at h
  unfold Utf8.valid
  simp
  omega
theorem enc1 {x : Int} {a : UInt8} (h : okR x) (h0 : x = a.toNat) (h1 : x < 128) : toL (Utf8.encode x) = [a] := by
  unfold Utf8.encode
  rw [valid_ok h]
  simp only [if_true]
  rw [if_pos (by omega)]
  simp only [toL, List.cons.injEq, and_true]
  rw [← UInt8.toNat_inj, UInt8.toNat_ofNat']
  omega
theorem enc2 {x : Int} {a b : UInt8} (h : okR x) (h0 : x = ((a.toNat : Int) - 192) * 64 + ((b.toNat : Int) - 128)) (ha : 194 ≤ a.toNat) (ha2 : a.toNat ≤ 223) (hb : 128 ≤ b.toNat) (hb2 : b.toNat ≤ 191) : toL (Utf8.encode x) = [a, b] := by
  unfold Utf8.encode
  rw [valid_ok h]
  simp only [if_true]
  rw [if_neg (by omega), if_pos (by omega)]
  simp only [toL, List.cons.injEq, and_true]
  refine ⟨?_, ?_⟩ <;> rw [← UInt8.toNat_inj, UInt8.toNat_ofNat'] <;> omega
theorem enc3 {x : Int} {a b c : UInt8} (h : okR x) (h0 : x = (((a.toNat : Int) - 224) * 64 + ((b.toNat : Int) - 128)) * 64 + ((c.toNat : Int) - 128)) (ha : 224 ≤ a.toNat) (ha2 : a.toNat ≤ 239) (hb : 128 ≤ b.toNat) (hb2 : b.toNat ≤ 191) (h1 : a.toNat = 224 → 160 ≤ b.toNat) (hc : 128 ≤ c.toNat) (hc2 : c.toNat ≤ 191) : toL (Utf8.encode x) = [a, b, c] := by
  unfold Utf8.encode
  rw [valid_ok h]
  simp only [if_true]
  rw [if_neg (by omega), if_neg (by omega), if_pos (by omega)]
  simp only [toL, List.cons.injEq, and_true]
  refine ⟨?_, ?_, ?_⟩ <;> rw [← UInt8.toNat_inj, UInt8.toNat_ofNat'] <;> omega
theorem enc4 {x : Int} {a b c d : UInt8} (h : okR x) (h0 : x = ((((a.toNat : Int) - 240) * 64 + ((b.toNat : Int) - 128)) * 64 + ((c.toNat : Int) - 128)) * 64 + ((d.toNat : Int) - 128)) (ha : 240 ≤ a.toNat) (ha2 : a.toNat ≤ 244) (hb : 128 ≤ b.toNat) (hb2 : b.toNat ≤ 191) (h1 : a.toNat = 240 → 144 ≤ b.toNat) (hc : 128 ≤ c.toNat) (hc2 : c.toNat ≤ 191) (hd : 128 ≤ d.toNat) (hd2 : d.toNat ≤ 191) : toL (Utf8.encode x) = [a, b, c, d] := by
  unfold Utf8.encode
  rw [valid_ok h]
  simp only [if_true]
  rw [if_neg (by omega), if_neg (by omega), if_neg (by omega)]
  simp only [toL, List.cons.injEq, and_true]
  refine ⟨?_, ?_, ?_, ?_⟩ <;> rw [← UInt8.toNat_inj, UInt8.toNat_ofNat'] <;> omega

theorem firstB (n : Int) (h0 : 0 ≤ n) (h1 : n < 256) : (∃ q, bg n = some q ∧ begins_t0 n = q ∧ 0 ≤ q.1) ∨ (begins_t0 n).1 < 0 := by
  have hb := begins_bg n h0 h1
  split at hb
  · rename_i q hq
    exact .inl ⟨q, hq, hb.1, hb.2⟩
  · exact .inr hb
theorem In_first {lo hi x : Int} {b : UInt8} (h : (sst (0, lo, hi, x) b.toNat).1 = true) :
    ((sst (0, lo, hi, x) b.toNat).2.1 = 0 ∧ okR (sst (0, lo, hi, x) b.toNat).2.2.2.2 ∧ toL (Utf8.encode (sst (0, lo, hi, x) b.toNat).2.2.2.2) = [b]) ∨ In [b] (sst (0, lo, hi, x) b.toNat).2 := by
  obtain ⟨u0, u1⟩ := u8_lt b
  have hb := firstB (b.toNat : Int) u0 u1
  rw [sst_start] at h ⊢
  generalize begins_t0 (b.toNat : Int) = bb at h hb ⊢
  rcases hb with ⟨q, hq, rfl, e2⟩ | hb
  case inr => rw [if_pos hb] at h; cases h
  · rw [if_neg (by omega)]
    · dsimp only
      unfold bg at hq
      repeat' split at hq
      all_goals first
        | (cases hq; done)
        | (cases hq; left; have ho : okR (b.toNat : Int) := ⟨by omega, by omega, by omega⟩; exact ⟨rfl, ho, enc1 ho rfl (by omega)⟩)
        | (cases hq; right; first
            | (exact .f1 _ _ _ _ (by omega) (by omega) (by omega) (by omega) (by omega))
            | (exact .f2 _ _ _ _ (by omega) (by omega) (by omega) (by omega) (by omega) (by omega) (by omega))
            | (exact .f4 _ _ _ _ (by omega) (by omega) (by omega) (by omega) (by omega) (by omega) (by omega)))
theorem In_next {p : List UInt8} {q : Q} {b : UInt8} (hq : In p q) (h : (sst q b.toNat).1 = true) :
    ((sst q b.toNat).2.1 = 0 ∧ okR (sst q b.toNat).2.2.2.2 ∧ toL (Utf8.encode (sst q b.toNat).2.2.2.2) = p ++ [b]) ∨ In (p ++ [b]) (sst q b.toNat).2 := by
  obtain ⟨u0, u1⟩ := u8_lt b
  cases hq with
  | f1 a lo hi x h1 h2 h3 h4 h5 =>
    obtain ⟨c1, c2, c3⟩ := cont_val (by omega) (by omega) (by omega) u0 u1 h
    rw [c3]; dsimp only; left
    have ho : okR (x * 64 + (b.toNat : Int) % 64) := ⟨by omega, by omega, by omega⟩
    exact ⟨rfl, ho, enc2 ho (by omega) (by omega) (by omega) (by omega) (by omega)⟩
  | f2 a lo hi x h1 h2 h3 h4 h5 h6 h7 =>
    obtain ⟨c1, c2, c3⟩ := cont_val (by omega) (by omega) (by omega) u0 u1 h
    rw [c3]; dsimp only; right
    exact .f3 _ _ _ _ _ (by omega) (by omega) (by omega) (by omega) (by omega) (by omega) (by omega) (by omega) (by omega)
  | f3 a b' lo hi x h1 h2 h3 h4 h5 h6 h7 h8 h9 =>
    obtain ⟨c1, c2, c3⟩ := cont_val (by omega) (by omega) (by omega) u0 u1 h
    rw [c3]; dsimp only; left
    have ho : okR (x * 64 + (b.toNat : Int) % 64) := ⟨by omega, by omega, by omega⟩
    exact ⟨rfl, ho, enc3 ho (by omega) (by omega) (by omega) (by omega) (by omega) (by omega) (by omega) (by omega)⟩
  | f4 a lo hi x h1 h2 h3 h4 h5 h6 h7 =>
    obtain ⟨c1, c2, c3⟩ := cont_val (by omega) (by omega) (by omega) u0 u1 h
    rw [c3]; dsimp only; right
    exact .f5 _ _ _ _ _ (by omega) (by omega) (by omega) (by omega) (by omega) (by omega) (by omega) (by omega) (by omega)
  | f5 a b' lo hi x h1 h2 h3 h4 h5 h6 h7 h8 h9 =>
    obtain ⟨c1, c2, c3⟩ := cont_val (by omega) (by omega) (by omega) u0 u1 h
    rw [c3]; dsimp only; right
    exact .f6 _ _ _ _ _ _ (by omega) (by omega) (by omega) (by omega) (by omega) (by omega) (by omega) (by omega) (by omega) (by omega) (by omega)
  | f6 a b' c lo hi x h1 h2 h3 h4 h5 h6 h7 h8 h9 h10 h11 =>
    obtain ⟨c1, c2, c3⟩ := cont_val (by omega) (by omega) (by omega) u0 u1 h
    rw [c3]; dsimp only; left
    have ho : okR (x * 64 + (b.toNat : Int) % 64) := ⟨by omega, by omega, by omega⟩
    exact ⟨rfl, ho, enc4 ho (by omega) (by omega) (by omega) (by omega) (by omega) (by omega) (by omega) (by omega) (by omega) (by omega)⟩

/-- How a check stands behind bytes that may be. -/
def st : Q → List UInt8 → Option Q
  | q, [] => some q
  | q, b :: r => match sst q b.toNat with
    | (true, q') => st q' r
    | (false, _) => none
theorem wholeD_st : ∀ (l : List UInt8) (q : Q), wholeD q l = match st q l with | some q' => q'.1 == 0 | none => false
  | [], q => rfl
  | b :: r, q => by
    rw [wholeD, st]
    generalize sst q b.toNat = x
    obtain ⟨y, q'⟩ := x
    cases y
    · rfl
    · simp only [Bool.true_and]; exact wholeD_st r q'
theorem st_append : ∀ (l m : List UInt8) (q : Q), st q (l ++ m) = match st q l with | some q' => st q' m | none => none
  | [], m, q => rfl
  | b :: r, m, q => by
    rw [List.cons_append, st, st]
    generalize sst q b.toNat = x
    obtain ⟨y, q'⟩ := x
    cases y
    · rfl
    · exact st_append r m q'
theorem st_fresh {q : Q} (h : q.1 = 0) (b : UInt8) (r : List UInt8) : st q (b :: r) = st (0, 0, 0, 0) (b :: r) := by
  rw [st, st]
  obtain ⟨l, lo, hi, x⟩ := q
  dsimp only at h
  subst h
  rw [sst_start, sst_start]
  by_cases hh : (begins_t0 b.toNat).1 < 0 <;> simp [hh]
theorem enc_len (x : Int) : slen (Utf8.encode x) ≤ 4 := by
  unfold Utf8.encode slen toL
  dsimp only
  repeat' split
  all_goals simp
theorem toL_cat (a b : ByteArray) : toL (cat a b) = toL a ++ toL b := by simp [cat, toL, ofL]
end Go.Proofs.Ytadpggfmogjddaa
