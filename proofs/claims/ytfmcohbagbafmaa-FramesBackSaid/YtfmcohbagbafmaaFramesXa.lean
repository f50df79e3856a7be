/-
  Frames sent are told: the frames brought to what may be; the law.
-/
import Derived.Test.YtfmcohbagbafmaaFramesZ
import Derived.Test.YtfmcohbagbafmaaAmRows
import Derived.Test.YtfmcohbagbafmaaAmSlim
set_option linter.unusedVariables false
set_option linter.unusedSimpArgs false
open Go Go.Am Go.ChangeShapes Go.WideShapes Go.ChangeAt Go.RowKit
namespace Go.Proofs.Ytfmcohbagbafmaa

structure Of where
 b : Bool
 rsv : Int
 op : Int
 msk : Bool
 k0 : Int
 k1 : Int
 k2 : Int
 k3 : Int
 s : ByteArray
def oV (o : Of) : List Value := [.bool o.b, .int .i64 o.rsv, .int .i64 o.op, .bool o.msk, .int .u8 o.k0, .int .u8 o.k1, .int .u8 o.k2, .int .u8 o.k3, .string o.s]
def KOf (o : Of) : Prop := (0 ≤ o.k0 ∧ o.k0 ≤ 255) ∧ (0 ≤ o.k1 ∧ o.k1 ≤ 255) ∧ (0 ≤ o.k2 ∧ o.k2 ≤ 255) ∧ (0 ≤ o.k3 ∧ o.k3 ≤ 255)
theorem rows_of : ∀ {rows : List (List Value)}, (∀ r ∈ rows, AllL [.bool, .int .i64, .int .i64, .bool, .int .u8, .int .u8, .int .u8, .int .u8, .str] r) → ∃ l : List Of, rows = l.map oV ∧ ∀ o ∈ l, KOf o
 | [], h => ⟨[], rfl, fun a ha => by cases ha⟩
 | r :: rows, h => by
  obtain ⟨l, e, hb⟩ := rows_of (rows := rows) (fun r hr => h r (List.mem_cons_of_mem _ hr))
  obtain ⟨_, _, rfl, ⟨b, rfl⟩, _, _, rfl, ⟨x, rfl, _⟩, _, _, rfl, ⟨y, rfl, _⟩, _, _, rfl, ⟨mk, rfl⟩, _, _, rfl, ⟨k0, rfl, w0⟩, _, _, rfl, ⟨k1, rfl, w1⟩, _, _, rfl, ⟨k2, rfl, w2⟩, _, _, rfl, ⟨k3, rfl, w3⟩, _, _, rfl, ⟨s, rfl, ws⟩, h4⟩ := h r List.mem_cons_self
  have h4 : _ = [] := h4
  subst h4
  refine ⟨⟨b, x, y, mk, k0, k1, k2, k3, s⟩ :: l, by rw [e]; rfl, fun a ha => ?_⟩
  rcases List.mem_cons.1 ha with rfl | ha
  ·simp [Lit.wf, IntKind.min, IntKind.max, IntKind.bits, IntKind.signed] at w0 w1 w2 w3
   show (0 ≤ k0 ∧ k0 ≤ 255) ∧ (0 ≤ k1 ∧ k1 ≤ 255) ∧ (0 ≤ k2 ∧ k2 ≤ 255) ∧ (0 ≤ k3 ∧ k3 ≤ 255)
   omega
  ·exact hb a ha

def cl (z : Int) : Int := bif decide (5 < bif decide (z < 0) then 0 else z) then 5 else bif decide (z < 0) then 0 else z
def ops : List Value := [.int .i64 0, .int .i64 1, .int .i64 2, .int .i64 8, .int .i64 9, .int .i64 10]
def opOf (z : Int) : Int := toInt (ops.getD (0 + (cl z).toNat * 1) undef)
theorem cl_bd (z : Int) : 0 ≤ cl z ∧ cl z < 6 := by
 unfold cl
 by_cases h : z < 0
 ·rw [decide_eq_true h]; exact ⟨Int.le_refl 0, by show (0 : Int) < 6; omega⟩
 ·rw [decide_eq_false h, cond_false]
  by_cases h2 : 5 < z
  ·rw [decide_eq_true h2]; exact ⟨by show (0 : Int) ≤ 5; omega, by show (5 : Int) < 6; omega⟩
  ·rw [decide_eq_false h2]; exact ⟨by show 0 ≤ z; omega, by show z < 6; omega⟩
theorem ops_is (z : Int) : ops.getD (0 + (cl z).toNat * 1) undef = .int .i64 (opOf z) ∧ (opOf z = 0 ∨ opOf z = 1 ∨ opOf z = 2 ∨ opOf z = 8 ∨ opOf z = 9 ∨ opOf z = 10) := by
 unfold opOf
 obtain ⟨h0, h1⟩ := cl_bd z
 generalize cl z = c at *
 have : c = 0 ∨ c = 1 ∨ c = 2 ∨ c = 3 ∨ c = 4 ∨ c = 5 := by omega
 rcases this with rfl | rfl | rfl | rfl | rfl | rfl
 ·exact ⟨rfl, .inl rfl⟩
 ·exact ⟨rfl, .inr (.inl rfl)⟩
 ·exact ⟨rfl, .inr (.inr (.inl rfl))⟩
 ·exact ⟨rfl, .inr (.inr (.inr (.inl rfl)))⟩
 ·exact ⟨rfl, .inr (.inr (.inr (.inr (.inl rfl))))⟩
 ·exact ⟨rfl, .inr (.inr (.inr (.inr (.inr rfl))))⟩
def cutN (s : ByteArray) : Int := bif decide (125 < (slen s : Int)) then 125 else (slen s : Int)
theorem cutN_bd (s : ByteArray) : 0 ≤ cutN s ∧ cutN s ≤ slen s ∧ cutN s ≤ 125 := by
 unfold cutN
 by_cases h : 125 < (slen s : Int)
 ·rw [decide_eq_true h]; exact ⟨by show (0 : Int) ≤ 125; omega, by show (125 : Int) ≤ _; omega, by show (125 : Int) ≤ 125; omega⟩
 ·rw [decide_eq_false h]; exact ⟨by show (0 : Int) ≤ (slen s : Int); omega, by show (slen s : Int) ≤ _; omega, by show (slen s : Int) ≤ _; omega⟩
def cutD (s : ByteArray) : ByteArray := sub s 0 (cutN s).toNat
theorem cutD_len (s : ByteArray) : slen (cutD s) ≤ 125 ∧ slen (cutD s) ≤ slen s := by
 have := cutN_bd s
 unfold cutD
 rw [slen_sub]
 omega
def nrm (m : Bool) (o : Of) : Fr :=
 ⟨bif decide (8 ≤ opOf o.op) then true else o.b, opOf o.op, bif m then o.k0 else 0, bif m then o.k1 else 0, bif m then o.k2 else 0, bif m then o.k3 else 0, bif decide (8 ≤ opOf o.op) then cutD o.s else o.s⟩
theorem nrm_len (m : Bool) (o : Of) : slen (nrm m o).d ≤ slen o.s := by
 unfold nrm
 have := (cutD_len o.s).2
 cases decide (8 ≤ opOf o.op)
 ·exact Nat.le_refl _
 ·exact this
theorem nrm_ok {m : Bool} {o : Of} (h : KOf o) (hs : slen o.s ≤ 10000) : FrOk m (nrm m o) := by
 obtain ⟨h0, h1, h2, h3⟩ := h
 have hop := (ops_is o.op).2
 have hl := nrm_len m o
 refine ⟨by unfold opD; exact decide_eq_true hop, ?_, ⟨by omega, by omega, ?_, ?_, by omega, by omega, fun hm => by subst hm; exact ⟨rfl, rfl, rfl, rfl⟩, ?_, ?_, ?_, ?_⟩⟩
 ·by_cases h8 : 8 ≤ opOf o.op
  ·refine .inr ⟨by unfold nrm; rw [decide_eq_true h8]; rfl, ?_⟩
   unfold nrm
   rw [decide_eq_true h8]
   exact (cutD_len o.s).1
  ·exact .inl (by show opOf o.op < 8; omega)
 ·show 0 ≤ opOf o.op; omega
 ·show opOf o.op ≤ 15; omega
 ·cases m
  ·exact ⟨by show (0 : Int) ≤ 0; omega, by show (0 : Int) ≤ 255; omega⟩
  ·exact h0
 ·cases m
  ·exact ⟨by show (0 : Int) ≤ 0; omega, by show (0 : Int) ≤ 255; omega⟩
  ·exact h1
 ·cases m
  ·exact ⟨by show (0 : Int) ≤ 0; omega, by show (0 : Int) ≤ 255; omega⟩
  ·exact h2
 ·cases m
  ·exact ⟨by show (0 : Int) ≤ 0; omega, by show (0 : Int) ≤ 255; omega⟩
  ·exact h3
theorem rest_snoc (m : Bool) (fs : List Fr) (f : Fr) : cat (rest m fs) (bs m f) = rest m (fs ++ [f]) := ext (by
 rw [toL_cat]
 unfold rest
 rw [toL_ofL, toL_ofL]
 simp)
theorem row_snoc (m : Bool) (fs : List Fr) (f : Fr) : fs.flatMap (frV m) ++ frV m f = (fs ++ [f]).flatMap (frV m) := by simp
theorem bs_len (m : Bool) (f : Fr) : slen (bs m f) ≤ slen f.d + 14 := by
 unfold bs
 rw [slen_wr]
 have : (hI f.fin 0 f.op m f.k0 f.k1 f.k2 f.k3 (slen f.d)).length ≤ 14 := by
  unfold hI numI
  by_cases c1 : ((slen f.d : Nat) : Int) ≤ 125
  ·rw [if_pos c1]; cases m <;> simp
  ·by_cases c2 : ((slen f.d : Nat) : Int) ≤ 65535
   ·rw [if_neg c1, if_pos c2]; cases m <;> simp
   ·rw [if_neg c1, if_neg c2]; cases m <;> simp
 omega
theorem awake_safe : awake_S0 := by
 unfold awake_S0
 repeat' first | (apply safeJ; exact ⟨by decide +kernel, by decide +kernel⟩) | apply And.intro
where
 safeJ (m : Bool) (st : Int) (inn : ByteArray) (hf : Bool) (hr ho : Int) (hm : Bool) (k0 k1 k2 k3 hl : Int) (hlst : Bool) (told : Int) (h : Inv (st, inn, hf, hr, ho, hm, k0, k1, k2, k3, hl, hlst, told)) :
  rstep_S0 m st inn hf hr ho hm k0 k1 k2 k3 hl hlst told := (step_val m _ h).1

theorem sends (l : List Of) (m : Bool) (hk : ∀ o ∈ l, KOf o) (hn : l.length ≤ 30) : ∀ (n i : Nat), i + n = l.length → (∀ o ∈ l.take i, slen o.s ≤ 10000) → slen (rest m ((l.take i).map (nrm m))) ≤ 30000 →
  AEnds E 9 0 (fback_h1 l.length (l.flatMap oV) m (rest m ((l.take i).map (nrm m))) i ((l.take i).map (nrm m)).length (((l.take i).map (nrm m)).flatMap (frV m))) (.bool true) []
 | 0, i, hi, hs, hr => by
  have hin : i = l.length := by omega
  have w := fback_w1_6 l.length (l.flatMap oV) m (rest m ((l.take i).map (nrm m))) i ((l.take i).map (nrm m)).length (((l.take i).map (nrm m)).flatMap (frV m))
  have e0 : cat ⟨#[]⟩ (rest m ((l.take i).map (nrm m))) = rest m ((l.take i).map (nrm m)) := ext (by rw [toL_cat]; rfl)
  rw [e0] at w
  have hI0 : Inv ((0, rest m ((l.take i).map (nrm m)), false, 0, 0, false, 0, 0, 0, 0, 0, false, 0) : RX) := inv0 rfl (by show slen (rest m ((l.take i).map (nrm m))) ≤ _; omega)
  obtain ⟨hS, hT⟩ := step_val m _ hI0
  have w := w _ hT (row_flat m _) hS (by omega) (by rw [decide_eq_false (by omega)])
  have k := run l.length (l.flatMap oV) m ((l.take i).map (nrm m)) (by rw [List.length_map, List.length_take]; omega) ((l.take i).map (nrm m)) [] ((0, rest m ((l.take i).map (nrm m)), false, 0, 0, false, 0, 0, 0, 0, 0, false, 0) : RX) ⟨#[]⟩ rfl (fun f hf => by
   obtain ⟨o, ho, rfl⟩ := List.mem_map.1 hf
   exact nrm_ok (hk o (List.mem_of_mem_take ho)) (hs o ho)) rfl rfl (by show slen (rest m ((l.take i).map (nrm m))) ≤ _; omega)
  exact w.ends k
 | n + 1, i, hi, hs, hr => by
  have hlt : i < l.length := by omega
  obtain ⟨o, ho⟩ : ∃ o, l[i]? = some o := ⟨l[i], List.getElem?_eq_getElem hlt⟩
  have hol : o ∈ l := List.mem_of_getElem? ho
  have ga : ∀ j, j < 9 → (l.flatMap oV).getD ((i : Int).toNat * 9 + j) undef = (oV o).getD j undef := fun j hj => by
   rw [Int.toNat_natCast]; exact row_get oV 9 (fun _ => rfl) l i o j ho hj
  have g0 : (l.flatMap oV).getD ((i : Int).toNat * 9 + 0) undef = .bool o.b := ga 0 (by decide)
  have g1 : (l.flatMap oV).getD ((i : Int).toNat * 9 + 1) undef = .int .i64 o.rsv := ga 1 (by decide)
  have g2 : (l.flatMap oV).getD ((i : Int).toNat * 9 + 2) undef = .int .i64 o.op := ga 2 (by decide)
  have g3 : (l.flatMap oV).getD ((i : Int).toNat * 9 + 3) undef = .bool o.msk := ga 3 (by decide)
  have g4 : (l.flatMap oV).getD ((i : Int).toNat * 9 + 4) undef = .int .u8 o.k0 := ga 4 (by decide)
  have g5 : (l.flatMap oV).getD ((i : Int).toNat * 9 + 5) undef = .int .u8 o.k1 := ga 5 (by decide)
  have g6 : (l.flatMap oV).getD ((i : Int).toNat * 9 + 6) undef = .int .u8 o.k2 := ga 6 (by decide)
  have g7 : (l.flatMap oV).getD ((i : Int).toNat * 9 + 7) undef = .int .u8 o.k3 := ga 7 (by decide)
  have g8 : (l.flatMap oV).getD ((i : Int).toNat * 9 + 8) undef = .string o.s := ga 8 (by decide)
  have hA : (l.flatMap oV).length = l.length * 9 := row_len oV 9 (fun _ => rfl) l
  have hA1 : (i : Int).toNat * 9 + 9 ≤ (l.flatMap oV).length := by rw [hA]; omega
  have hA2 : 0 < (l.flatMap oV).length := by rw [hA]; omega
  have htk : l.take (i + 1) = l.take i ++ [o] := by rw [List.take_add_one, ho]; rfl
  have hci : ((l.take i).map (nrm m)).length = i := by rw [List.length_map, List.length_take]; omega
  by_cases c1 : (10000 : Int) < (slen o.s : Int)
  ·have w := fback_w1_0 l.length (l.flatMap oV) m (rest m ((l.take i).map (nrm m))) i ((l.take i).map (nrm m)).length (((l.take i).map (nrm m)).flatMap (frV m))
   simp only [g0, g1, g2, g3, g4, g5, g6, g7, g8, toStr] at w
   apply w
   all_goals first | omega | rfl | exact decide_eq_true (by omega)
  by_cases c2 : (10000 : Int) < (slen (rest m ((l.take i).map (nrm m))) : Int)
  ·have w := fback_w1_1 l.length (l.flatMap oV) m (rest m ((l.take i).map (nrm m))) i ((l.take i).map (nrm m)).length (((l.take i).map (nrm m)).flatMap (frV m))
   simp only [g0, g1, g2, g3, g4, g5, g6, g7, g8, toStr] at w
   apply w
   all_goals first | omega | rfl | exact decide_eq_true (by omega) | exact decide_eq_false (by omega)
  have hF := nrm_ok (m := m) (hk o hol) (show slen o.s ≤ 10000 by omega)
  have hB := bytesT_wr hF.ok (fin := (nrm m o).fin)
  have hB2 : bytesT (nrm m o).fin 0 (nrm m o).op m (nrm m o).k0 (nrm m o).k1 (nrm m o).k2 (nrm m o).k3 (nrm m o).d = (bs m (nrm m o), 0) := hB
  have hbl := bs_len m (nrm m o)
  have hdl := nrm_len m o
  have hlt2 : slen (rest m (((l.take i).map (nrm m)) ++ [nrm m o])) ≤ 30000 := by
   rw [← rest_snoc]
   have : slen (cat (rest m ((l.take i).map (nrm m))) (bs m (nrm m o))) = slen (rest m ((l.take i).map (nrm m))) + slen (bs m (nrm m o)) := by simp [slen, cat, toL, ofL]
   omega
  have ih := sends l m hk hn n (i + 1) (by omega) (by
   rw [htk]
   intro x hx
   rcases List.mem_append.1 hx with h | h
   ·exact hs x h
   ·rw [List.mem_singleton.1 h]; omega) (by rw [htk, List.map_append]; exact hlt2)
  rw [htk, List.map_append, List.length_append] at ih
  have ih2 : AEnds E 9 0 (fback_h1 l.length (l.flatMap oV) m (cat (rest m ((l.take i).map (nrm m))) (bs m (nrm m o))) ((i + 1 : Nat) : Int) (((l.take i).map (nrm m)).length + 1) (((l.take i).map (nrm m)).flatMap (frV m) ++ frV m (nrm m o))) (.bool true) [] := by
   rw [rest_snoc, row_snoc]; exact ih
  have hwr : IntKind.i64.wrap ((i : Int) + 1) = ((i + 1 : Nat) : Int) := by rw [wrap64_in (by omega) (by omega)]; omega
  have hrl := row_len (frV m) 9 (frV_len m) ((l.take i).map (nrm m))
  have htake : List.take (((l.take i).map (nrm m)).length * 9) (List.drop 0 (((l.take i).map (nrm m)).flatMap (frV m))) = ((l.take i).map (nrm m)).flatMap (frV m) := by
   rw [List.drop_zero, List.take_of_length_le (by omega)]
  have hfl : (((l.take i).map (nrm m)).flatMap (frV m) ++ frV m (nrm m o)).all flat = true := by rw [row_snoc]; exact row_flat m _
  obtain ⟨hop1, hop2⟩ := ops_is o.op
  obtain ⟨cb0, cb1⟩ := cl_bd o.op
  obtain ⟨cn0, cn1, cn2⟩ := cutN_bd o.s
  have hpre : ∀ (a : Bool) (b c : Int) (k0 k1 k2 k3 : Int) (d : ByteArray), slen d ≤ 1000000 → fbytesc_pre a b c m k0 k1 k2 k3 d := fun _ _ _ _ _ _ _ d h => h
  refine Gets.ends ?_ ih2
  by_cases h8 : 8 ≤ opOf o.op
  ·have e1 : decide (8 ≤ opOf o.op) = true := decide_eq_true h8
   cases m
   ·have w := fback_w1_2 l.length (l.flatMap oV) false (rest false ((l.take i).map (nrm false))) i ((l.take i).map (nrm false)).length (((l.take i).map (nrm false)).flatMap (frV false))
    simp only [g0, g1, g2, g3, g4, g5, g6, g7, g8, toStr, toInt, Am.toBool, htake, hwr] at w
    have hf : nrm false o = ⟨true, opOf o.op, 0, 0, 0, 0, cutD o.s⟩ := by unfold nrm; rw [e1]; rfl
    rw [hf] at hB2 hfl hdl hbl ⊢
    dsimp only at hbl hdl
    have w := w _ hB2
    apply w
    all_goals first | omega | (dsimp only; omega) | exact hfl | exact hpre _ _ _ _ _ _ _ _ (Nat.le_trans (cutD_len o.s).1 (by omega)) | rfl | exact e1 | exact cb0 | exact cb1 | exact cn0 | exact cn1 | exact decide_eq_true (by omega) | exact decide_eq_false (by omega) | (show isInt .i64 (ops.getD (0 + (cl o.op).toNat * 1) undef) = true; rw [hop1]; rfl) | (show 0 + (cl o.op).toNat * 1 < 6; omega)
   ·have w := fback_w1_4 l.length (l.flatMap oV) true (rest true ((l.take i).map (nrm true))) i ((l.take i).map (nrm true)).length (((l.take i).map (nrm true)).flatMap (frV true))
    simp only [g0, g1, g2, g3, g4, g5, g6, g7, g8, toStr, toInt, Am.toBool, htake, hwr] at w
    have hf : nrm true o = ⟨true, opOf o.op, o.k0, o.k1, o.k2, o.k3, cutD o.s⟩ := by unfold nrm; rw [e1]; rfl
    rw [hf] at hB2 hfl hdl hbl ⊢
    dsimp only at hbl hdl
    have w := w _ hB2
    apply w
    all_goals first | omega | (dsimp only; omega) | exact hfl | exact hpre _ _ _ _ _ _ _ _ (Nat.le_trans (cutD_len o.s).1 (by omega)) | rfl | exact e1 | exact cb0 | exact cb1 | exact cn0 | exact cn1 | exact decide_eq_true (by omega) | exact decide_eq_false (by omega) | (show isInt .i64 (ops.getD (0 + (cl o.op).toNat * 1) undef) = true; rw [hop1]; rfl) | (show 0 + (cl o.op).toNat * 1 < 6; omega)
  ·have e1 : decide (8 ≤ opOf o.op) = false := decide_eq_false h8
   cases m
   ·have w := fback_w1_3 l.length (l.flatMap oV) false (rest false ((l.take i).map (nrm false))) i ((l.take i).map (nrm false)).length (((l.take i).map (nrm false)).flatMap (frV false))
    simp only [g0, g1, g2, g3, g4, g5, g6, g7, g8, toStr, toInt, Am.toBool, htake, hwr] at w
    have hf : nrm false o = ⟨o.b, opOf o.op, 0, 0, 0, 0, o.s⟩ := by unfold nrm; rw [e1]; rfl
    rw [hf] at hB2 hfl hdl hbl ⊢
    dsimp only at hbl hdl
    have w := w _ hB2
    apply w
    all_goals first | omega | (dsimp only; omega) | exact hfl | exact hpre _ _ _ _ _ _ _ _ (by omega) | rfl | exact e1 | exact cb0 | exact cb1 | exact decide_eq_true (by omega) | exact decide_eq_false (by omega) | (show isInt .i64 (ops.getD (0 + (cl o.op).toNat * 1) undef) = true; rw [hop1]; rfl) | (show 0 + (cl o.op).toNat * 1 < 6; omega)
   ·have w := fback_w1_5 l.length (l.flatMap oV) true (rest true ((l.take i).map (nrm true))) i ((l.take i).map (nrm true)).length (((l.take i).map (nrm true)).flatMap (frV true))
    simp only [g0, g1, g2, g3, g4, g5, g6, g7, g8, toStr, toInt, Am.toBool, htake, hwr] at w
    have hf : nrm true o = ⟨o.b, opOf o.op, o.k0, o.k1, o.k2, o.k3, o.s⟩ := by unfold nrm; rw [e1]; rfl
    rw [hf] at hB2 hfl hdl hbl ⊢
    dsimp only at hbl hdl
    have w := w _ hB2
    apply w
    all_goals first | omega | (dsimp only; omega) | exact hfl | exact hpre _ _ _ _ _ _ _ _ (by omega) | rfl | exact e1 | exact cb0 | exact cb1 | exact decide_eq_true (by omega) | exact decide_eq_false (by omega) | (show isInt .i64 (ops.getD (0 + (cl o.op).toNat * 1) undef) = true; rw [hop1]; rfl) | (show 0 + (cl o.op).toNat * 1 < 6; omega)
theorem back_all (a : List (List Value)) (u : ∀ r ∈ a, AllL [.bool, .int .i64, .int .i64, .bool, .int .u8, .int .u8, .int .u8, .int .u8, .str] r) (m : Bool) :
  AEnds E 9 0 (startC E 9 [.iface a.length (.agg a.flatten.toArray), .bool m] []) (.bool true) [] := by
 obtain ⟨l, rfl, hk⟩ := rows_of u
 have e : (l.map oV).flatten = l.flatMap oV := by rw [List.flatMap_def]
 rw [List.length_map, e]
 by_cases h : (30 : Int) < (l.length : Int)
 ·exact fback_w0_0 l.length (l.flatMap oV) m (decide_eq_true h) awake_safe
 ·have w := fback_w0_1 l.length (l.flatMap oV) m (decide_eq_false h) awake_safe
  exact w.ends (sends l m hk (by omega) l.length 0 (by omega) (fun o ho => by cases ho) (by show (0 : Nat) ≤ _; omega))

end Go.Proofs.Ytfmcohbagbafmaa
