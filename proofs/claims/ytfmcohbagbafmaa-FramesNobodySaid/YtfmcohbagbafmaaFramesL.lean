/-
  Contracts of what is told; the statement FramesTell as a plain function.
-/
import Derived.Test.YtfmcohbagbafmaaFramesK
set_option linter.unusedVariables false
set_option linter.unusedSimpArgs false
open Go Go.Am
namespace Go.Proofs.Ytfmcohbagbafmaa

theorem evs_at : ∀ (L : List Ev) (i j : Nat) (h : i < L.length), j < 5 → (evsV L).getD (i * 5 + j) undef = (evV L[i]).getD j undef
  | [], i, j, h, _ => absurd h (Nat.not_lt_zero _)
  | e :: r, 0, j, h, hj => by
    have : evsV (e :: r) = evV e ++ evsV r := rfl
    rw [this, Nat.zero_mul, Nat.zero_add, List.getD_eq_getElem?_getD, List.getElem?_append_left (by show j < 5; exact hj), List.getD_eq_getElem?_getD]
    rfl
  | e :: r, i + 1, j, h, hj => by
    have : evsV (e :: r) = evV e ++ evsV r := rfl
    have hl : (evV e).length = 5 := rfl
    rw [this, List.getD_eq_getElem?_getD, List.getElem?_append_right (by rw [hl]; omega), hl, show (i + 1) * 5 + j - 5 = i * 5 + j by omega, ← List.getD_eq_getElem?_getD]
    exact evs_at r i j (by simpa using h) hj
theorem same_run (L : List Ev) (hL : L.length ≤ 1000000000) : ∀ (n i : Nat), i + n = L.length →
    AEnds E 19 2 (same_h1 L.length L.length (evsV L) (evsV L) i) (.bool true) [some (.cells (evsV L) 30 (some 5)), some (.cells (evsV L) 65 (some 5))]
  | 0, i, hi => by
    have h := same_ok1 L.length L.length (evsV L) (evsV L) i (by unfold same_S1; rw [decide_eq_false (show ¬ ((i : Int) < (L.length : Int)) by omega)]; simp [evs_flat])
    unfold same_t1 at h
    rw [decide_eq_false (show ¬ ((i : Int) < (L.length : Int)) by omega), cond_false] at h
    exact same_end h
  | n + 1, i, hi => by
    have hl : i < L.length := by omega
    have g0 := evs_at L i 0 hl (by omega)
    have g1 := evs_at L i 1 hl (by omega)
    have g2 := evs_at L i 2 hl (by omega)
    have g3 := evs_at L i 3 hl (by omega)
    have g4 := evs_at L i 4 hl (by omega)
    have e0 : (evV L[i]).getD 0 undef = .int .i64 L[i].k := rfl
    have e1 : (evV L[i]).getD 1 undef = .int .i64 L[i].op := rfl
    have e2 : (evV L[i]).getD 2 undef = .bool L[i].fin := rfl
    have e3 : (evV L[i]).getD 3 undef = .int .i64 L[i].len := rfl
    have e4 : (evV L[i]).getD 4 undef = .string L[i].text := rfl
    rw [e0] at g0; rw [e1] at g1; rw [e2] at g2; rw [e3] at g3; rw [e4] at g4
    have hel := evs_len L
    have h := same_ok1 L.length L.length (evsV L) (evsV L) i (by
      unfold same_S1
      simp only [Nat.zero_add, Int.toNat_natCast, g0, g1, g2, g3, g4, hel, evs_flat]
      simp [isInt, isBool, isStr]
      omega)
    unfold same_t1 at h
    simp only [Nat.zero_add, Int.toNat_natCast, g0, g1, g2, g3, g4, toInt, Am.toBool, toStr, beq_self_eq_true, Bool.and_self, Bool.not_true, cond_false] at h
    rw [decide_eq_true (show ((i : Int) < (L.length : Int)) by omega), cond_true, wrap64_in (x := (i : Int) + 1) (by omega) (by omega), show (i : Int) + 1 = ((i + 1 : Nat) : Int) by omega] at h
    exact (same_go1 h).ends (same_run L hL n (i + 1) (by omega))
def same_pre (n1 n2 : Nat) (l1 l2 : List Value) : Prop := ∃ L : List Ev, L.length ≤ 1000000000 ∧ n1 = L.length ∧ n2 = L.length ∧ l1 = evsV L ∧ l2 = evsV L
def same_v (n1 n2 : Nat) (l1 l2 : List Value) : Value := .bool true
def same_h (n1 n2 : Nat) (l1 l2 : List Value) : Heap := [some (.cells l1 30 (some 5)), some (.cells l2 65 (some 5))]
theorem same_call (n1 n2 : Nat) (l1 l2 : List Value) (h : same_pre n1 n2 l1 l2) : CallOk E 19 [.slice (some ⟨0, 0, none⟩) n1 0, .slice (some ⟨1, 0, none⟩) n2 0] [some (.cells l1 30 (some 5)), some (.cells l2 65 (some 5))] (same_v n1 n2 l1 l2) (same_h n1 n2 l1 l2) := by
  obtain ⟨L, hL, rfl, rfl, rfl, rfl⟩ := h
  have h0 := same_ok0 L.length L.length (evsV L) (evsV L) (by unfold same_S0; simp [evs_flat])
  unfold same_t0 at h0
  rw [show (((L.length : Nat) : Int) != ((L.length : Nat) : Int)) = false by simp, cond_false] at h0
  exact callOk_of_ends ((same_go1 h0).ends (same_run L hL L.length 0 (by omega))) (by kernel_rfl) (Nat.le_of_ble_eq_true (by kernel_rfl))

def same_ex (a : List Value) (h : Heap) : Nat × Nat × List Value × List Value := ((sliceLen (a.getD 0 undef)), (sliceLen (a.getD 1 undef)), (cellsOf h 0), (cellsOf h 1))
noncomputable def same_k : Ct := kP same_ex (fun x => [Value.slice (some { block := 0, off := 0 }) x.1 0, Value.slice (some { block := 1, off := 0 }) x.2.1 0]) (fun x => [some (Ob.cells x.2.2.1 30 (some 5)), some (Ob.cells x.2.2.2 65 (some 5))]) (fun x => same_pre (x.1) (x.2.1) (x.2.2.1) (x.2.2.2)) (fun x => same_v (x.1) (x.2.1) (x.2.2.1) (x.2.2.2)) (fun x => same_h (x.1) (x.2.1) (x.2.2.1) (x.2.2.2))
theorem same_k_ok : KFor E 19 same_k := kP_ok (fun x hx => same_call (x.1) (x.2.1) (x.2.2.1) (x.2.2.2) hx)


/-- The document's answer. -/
def allOf (m : Bool) (s : ByteArray) : List Ev × Bool × Bool := allD m (slen s + 1) s []
def rall_pre (s : ByteArray) (m : Bool) : Prop := slen s ≤ 1000000
def rall_v (s : ByteArray) (m : Bool) : Value := .tuple #[.slice (some ⟨0, 0, none⟩) (allOf m s).1.length 0, .bool (allOf m s).2.1, .bool (allOf m s).2.2]
def rall_h (s : ByteArray) (m : Bool) : Heap := [some (.cells (evsV (allOf m s).1) 65 (some 5))]
theorem rall_call (s : ByteArray) (m : Bool) (h : rall_pre s m) : CallOk E 18 [.string s, .bool m] [] (rall_v s m) (rall_h s m) := by
  have h' : slen s ≤ 1000000 := h
  exact callOk_of_ends ((rall_go1 (rall_ok0 s m trivial)).ends (rall_run s m (slen s + 1) s [] (by omega) h (by simp; omega))) (by kernel_rfl) (Nat.le_of_ble_eq_true (by kernel_rfl))

def rall_ex (a : List Value) (h : Heap) : ByteArray × Bool := ((toStr (a.getD 0 undef)), (toBool (a.getD 1 undef)))
noncomputable def rall_k : Ct := kP rall_ex (fun x => [Value.string x.1, Value.bool x.2]) (fun x => []) (fun x => rall_pre (x.1) (x.2)) (fun x => rall_v (x.1) (x.2)) (fun x => rall_h (x.1) (x.2))
theorem rall_k_ok : KFor E 18 rall_k := kP_ok (fun x hx => rall_call (x.1) (x.2) hx)


def tellOf (m : Bool) (x : RX) : List Ev × RX := tell m (mu x + 1) x []
def toldn_pre (m : Bool) (state : Int) (inn : ByteArray) (hf : Bool) (hr ho : Int) (hm : Bool) (k0 k1 k2 k3 hl : Int) (hlst : Bool) (told : Int) : Prop := Inv (state, inn, hf, hr, ho, hm, k0, k1, k2, k3, hl, hlst, told)
def toldn_v (m : Bool) (state : Int) (inn : ByteArray) (hf : Bool) (hr ho : Int) (hm : Bool) (k0 k1 k2 k3 hl : Int) (hlst : Bool) (told : Int) : Value := .slice (some ⟨1, 0, none⟩) (tellOf m (state, inn, hf, hr, ho, hm, k0, k1, k2, k3, hl, hlst, told)).1.length 0
def toldn_h (m : Bool) (state : Int) (inn : ByteArray) (hf : Bool) (hr ho : Int) (hm : Bool) (k0 k1 k2 k3 hl : Int) (hlst : Bool) (told : Int) : Heap := [some (.cells (rdV m (tellOf m (state, inn, hf, hr, ho, hm, k0, k1, k2, k3, hl, hlst, told)).2) 48 none), some (.cells (evsV (tellOf m (state, inn, hf, hr, ho, hm, k0, k1, k2, k3, hl, hlst, told)).1) 30 (some 5))]
theorem toldn_call (m : Bool) (state : Int) (inn : ByteArray) (hf : Bool) (hr ho : Int) (hm : Bool) (k0 k1 k2 k3 hl : Int) (hlst : Bool) (told : Int) (h : toldn_pre m state inn hf hr ho hm k0 k1 k2 k3 hl hlst told) :
    CallOk E 15 [.pointer (some ⟨0, 0, none⟩), .slice none 0 0] [some (.cells [.bool m, .int .i64 state, .string inn, .bool hf, .int .i64 hr, .int .i64 ho, .bool hm, .int .u8 k0, .int .u8 k1, .int .u8 k2, .int .u8 k3, .int .u64 hl, .bool hlst, .int .i64 told] 48 none)] (toldn_v m state inn hf hr ho hm k0 k1 k2 k3 hl hlst told) (toldn_h m state inn hf hr ho hm k0 k1 k2 k3 hl hlst told) := by
  have hS := (step_val m (state, inn, hf, hr, ho, hm, k0, k1, k2, k3, hl, hlst, told) h).1
  have hl2 : slen inn ≤ 1000000 := h.len
  have hmu : mu (state, inn, hf, hr, ho, hm, k0, k1, k2, k3, hl, hlst, told) ≤ 3 * slen inn + 2 := by unfold mu; show 3 * slen inn + _ ≤ _; split <;> omega
  have h0 := toldn_ok0 m state inn hf hr ho hm k0 k1 k2 k3 hl hlst told hS
  unfold toldn_t0 at h0
  have hr := told_run m (state, inn, hf, hr, ho, hm, k0, k1, k2, k3, hl, hlst, told) (mu (state, inn, hf, hr, ho, hm, k0, k1, k2, k3, hl, hlst, told) + 1) (state, inn, hf, hr, ho, hm, k0, k1, k2, k3, hl, hlst, told) [] h (Nat.lt_succ_self _) (by simp; omega) (by intro p hp; cases hp)
  refine callOk_of_ends (Gets.ends ?_ hr) (by kernel_rfl) (Nat.le_of_ble_eq_true (by kernel_rfl))
  exact toldn_go1 h0

def toldn_ex (a : List Value) (h : Heap) : Bool × Int × ByteArray × Bool × Int × Int × Bool × Int × Int × Int × Int × Int × Bool × Int := ((toBool ((cellsOf h 0).getD 0 undef)), (toInt ((cellsOf h 0).getD 1 undef)), (toStr ((cellsOf h 0).getD 2 undef)), (toBool ((cellsOf h 0).getD 3 undef)), (toInt ((cellsOf h 0).getD 4 undef)), (toInt ((cellsOf h 0).getD 5 undef)), (toBool ((cellsOf h 0).getD 6 undef)), (toInt ((cellsOf h 0).getD 7 undef)), (toInt ((cellsOf h 0).getD 8 undef)), (toInt ((cellsOf h 0).getD 9 undef)), (toInt ((cellsOf h 0).getD 10 undef)), (toInt ((cellsOf h 0).getD 11 undef)), (toBool ((cellsOf h 0).getD 12 undef)), (toInt ((cellsOf h 0).getD 13 undef)))
noncomputable def toldn_k : Ct := kP toldn_ex (fun x => [Value.pointer (some { block := 0, off := 0 }), Value.slice none 0 0]) (fun x => [some (Ob.cells [Value.bool x.1, Value.int IntKind.i64 x.2.1, Value.string x.2.2.1, Value.bool x.2.2.2.1, Value.int IntKind.i64 x.2.2.2.2.1, Value.int IntKind.i64 x.2.2.2.2.2.1, Value.bool x.2.2.2.2.2.2.1, Value.int IntKind.u8 x.2.2.2.2.2.2.2.1, Value.int IntKind.u8 x.2.2.2.2.2.2.2.2.1, Value.int IntKind.u8 x.2.2.2.2.2.2.2.2.2.1, Value.int IntKind.u8 x.2.2.2.2.2.2.2.2.2.2.1, Value.int IntKind.u64 x.2.2.2.2.2.2.2.2.2.2.2.1, Value.bool x.2.2.2.2.2.2.2.2.2.2.2.2.1, Value.int IntKind.i64 x.2.2.2.2.2.2.2.2.2.2.2.2.2] 48 none)]) (fun x => toldn_pre (x.1) (x.2.1) (x.2.2.1) (x.2.2.2.1) (x.2.2.2.2.1) (x.2.2.2.2.2.1) (x.2.2.2.2.2.2.1) (x.2.2.2.2.2.2.2.1) (x.2.2.2.2.2.2.2.2.1) (x.2.2.2.2.2.2.2.2.2.1) (x.2.2.2.2.2.2.2.2.2.2.1) (x.2.2.2.2.2.2.2.2.2.2.2.1) (x.2.2.2.2.2.2.2.2.2.2.2.2.1) (x.2.2.2.2.2.2.2.2.2.2.2.2.2)) (fun x => toldn_v (x.1) (x.2.1) (x.2.2.1) (x.2.2.2.1) (x.2.2.2.2.1) (x.2.2.2.2.2.1) (x.2.2.2.2.2.2.1) (x.2.2.2.2.2.2.2.1) (x.2.2.2.2.2.2.2.2.1) (x.2.2.2.2.2.2.2.2.2.1) (x.2.2.2.2.2.2.2.2.2.2.1) (x.2.2.2.2.2.2.2.2.2.2.2.1) (x.2.2.2.2.2.2.2.2.2.2.2.2.1) (x.2.2.2.2.2.2.2.2.2.2.2.2.2)) (fun x => toldn_h (x.1) (x.2.1) (x.2.2.1) (x.2.2.2.1) (x.2.2.2.2.1) (x.2.2.2.2.2.1) (x.2.2.2.2.2.2.1) (x.2.2.2.2.2.2.2.1) (x.2.2.2.2.2.2.2.2.1) (x.2.2.2.2.2.2.2.2.2.1) (x.2.2.2.2.2.2.2.2.2.2.1) (x.2.2.2.2.2.2.2.2.2.2.2.1) (x.2.2.2.2.2.2.2.2.2.2.2.2.1) (x.2.2.2.2.2.2.2.2.2.2.2.2.2))
theorem toldn_k_ok : KFor E 15 toldn_k := kP_ok (fun x hx => toldn_call (x.1) (x.2.1) (x.2.2.1) (x.2.2.2.1) (x.2.2.2.2.1) (x.2.2.2.2.2.1) (x.2.2.2.2.2.2.1) (x.2.2.2.2.2.2.2.1) (x.2.2.2.2.2.2.2.2.1) (x.2.2.2.2.2.2.2.2.2.1) (x.2.2.2.2.2.2.2.2.2.2.1) (x.2.2.2.2.2.2.2.2.2.2.2.1) (x.2.2.2.2.2.2.2.2.2.2.2.2.1) (x.2.2.2.2.2.2.2.2.2.2.2.2.2) hx)


noncomputable def KL : Ctr := ctrOf E [(10, anyA, awake_k), (15, ptrA, toldn_k), (18, anyA, rall_k), (19, anyA, same_k), (22, ptrA, rstep_k)]
theorem KL_ok : KOk E KL := ctr_cons awake_k_ok (ctr_cons toldn_k_ok (ctr_cons rall_k_ok (ctr_cons same_k_ok (ctr_cons rstep_k_ok ctr_nil))))

end Go.Proofs.Ytfmcohbagbafmaa
