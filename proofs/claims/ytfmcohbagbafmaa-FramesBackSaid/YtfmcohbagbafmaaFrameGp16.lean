/-
  Frames' bytes: the program's and the document's are the same; contracts.
-/
import Derived.Test.YtfmcohbagbafmaaFrameEp16
import Derived.Test.YtfmcohbagbafmaaAmSlim
set_option linter.unusedVariables false
set_option linter.unusedSimpArgs false
open Go Go.Am
namespace Go.Proofs.Ytfmcohbagbafmaa

theorem b0_0 (rsv op : Int) (h0 : 0 ≤ rsv) (h1 : rsv ≤ 7) (h2 : 0 ≤ op) (h3 : op ≤ 15) : IntKind.u8.wrap (ior IntKind.i64 (ishl IntKind.i64 rsv 4) op) = 16 * rsv + op := by
 have : ∀ r : Fin 8, ∀ o : Fin 16, IntKind.u8.wrap (ior IntKind.i64 (ishl IntKind.i64 ((r.val : Nat) : Int) 4) ((o.val : Nat) : Int)) = 16 * ((r.val : Nat) : Int) + ((o.val : Nat) : Int) := by decide +kernel
 have := this ⟨rsv.toNat, by omega⟩ ⟨op.toNat, by omega⟩
 simpa [Int.toNat_of_nonneg h0, Int.toNat_of_nonneg h2] using this
theorem or128 (n : Int) (h0 : 0 ≤ n) (h1 : n < 128) : ior IntKind.u8 n 128 = n + 128 := by
 have : ∀ r : Fin 128, ior IntKind.u8 ((r.val : Nat) : Int) 128 = ((r.val : Nat) : Int) + 128 := by decide +kernel
 have := this ⟨n.toNat, by omega⟩
 simpa [Int.toNat_of_nonneg h0] using this
theorem wrapU8v (x : Int) : IntKind.u8.wrap x = x % 256 := by simp [IntKind.wrap, IntKind.bits, IntKind.signed]
theorem shrv (n : Int) (h0 : 0 ≤ n) (k : Nat) (hk : k ≤ 64) : ishr IntKind.u64 n k = n / 2 ^ k := by
 unfold ishr
 rw [Int.toNat_natCast, show min k IntKind.u64.bits = k by show min k 64 = k; omega]
 rw [Int.fdiv_eq_ediv_of_nonneg n (by exact Int.le_of_lt (Int.pow_pos (by omega)))]

def numV (masked : Bool) (n : Int) : List Value :=
 if n ≤ 125 then [.int .u8 ((bif masked then 128 else 0) + n)]
 else if n ≤ 65535 then [.int .u8 ((bif masked then 128 else 0) + 126), .int .u8 (n / 256), .int .u8 (n % 256)]
 else [.int .u8 ((bif masked then 128 else 0) + 127), .int .u8 0, .int .u8 0, .int .u8 0, .int .u8 0, .int .u8 0, .int .u8 (n / 65536), .int .u8 (n / 256 % 256), .int .u8 (n % 256)]
def hdrV (fin : Bool) (rsv op : Int) (masked : Bool) (k0 k1 k2 k3 : Int) (n : Int) : List Value :=
 .int .u8 ((16 * rsv + op) + (bif fin then 128 else 0)) :: (numV masked n ++ (bif masked then [.int .u8 k0, .int .u8 k1, .int .u8 k2, .int .u8 k3] else []))
def badF (rsv op : Int) (masked : Bool) (k0 k1 k2 k3 : Int) : Prop := rsv < 0 ∨ 7 < rsv ∨ op < 0 ∨ 15 < op ∨ (masked = false ∧ ¬ (k0 = 0 ∧ k1 = 0 ∧ k2 = 0 ∧ k3 = 0))
instance (rsv op : Int) (masked : Bool) (k0 k1 k2 k3 : Int) : Decidable (badF rsv op masked k0 k1 k2 k3) := by unfold badF; infer_instance
def bytesT (fin : Bool) (rsv op : Int) (masked : Bool) (k0 k1 k2 k3 : Int) (d : ByteArray) : fbytes_R :=
 if badF rsv op masked k0 k1 k2 k3 then (⟨#[]⟩, 1) else (cat (bytesOf (hdrV fin rsv op masked k0 k1 k2 k3 (slen d))) (maskD [k0, k1, k2, k3] 0 d), 0)

theorem maskD_len (k : List Int) (a : Int) (s : ByteArray) : slen (maskD k a s) = slen s := by
 unfold maskD
 cases decide (a < 0)
 ·rw [cond_false, slen_ofL, maskL_len]; rfl
 ·rfl
theorem bytesOf_len (l : List Value) : slen (bytesOf l) = l.length := by simp [slen, bytesOf, toL, ofL]

set_option maxHeartbeats 2000000 in
theorem fbytes_val (fin : Bool) (rsv op : Int) (masked : Bool) (k0 k1 k2 k3 : Int) (d : ByteArray) (hd : slen d ≤ 1000000) :
  fbytes_S0 fin rsv op masked k0 k1 k2 k3 d ∧ fbytes_t0 fin rsv op masked k0 k1 k2 k3 d = bytesT fin rsv op masked k0 k1 k2 k3 d := by
 have p : mask_pre k0 k1 k2 k3 0 d := by unfold mask_pre; omega
 unfold fbytes_S0 fbytes_t0 bytesT badF
 by_cases c1 : rsv < 0
 ·simp [c1]
 by_cases c2 : 7 < rsv
 ·simp [c1, c2]
 by_cases c3 : op < 0
 ·simp [c1, c2, c3]
 by_cases c4 : 15 < op
 ·simp [c1, c2, c3, c4]
 have eu : IntKind.u64.wrap (slen d : Int) = slen d := wrapU64 (by omega) (by omega)
 have e0 := b0_0 rsv op (by omega) (by omega) (by omega) (by omega)
 have e1 := or128 (16 * rsv + op) (by omega) (by omega)
 have s56 := shrv (slen d : Int) (by omega) 56 (by omega)
 have s48 := shrv (slen d : Int) (by omega) 48 (by omega)
 have s40 := shrv (slen d : Int) (by omega) 40 (by omega)
 have s32 := shrv (slen d : Int) (by omega) 32 (by omega)
 have s24 := shrv (slen d : Int) (by omega) 24 (by omega)
 have s16 := shrv (slen d : Int) (by omega) 16 (by omega)
 have s8 := shrv (slen d : Int) (by omega) 8 (by omega)
 have s0 := shrv (slen d : Int) (by omega) 0 (by omega)
 have ep : ∀ k : Nat, ((2 : Int) ^ k) = (((2 ^ k : Nat)) : Int) := fun k => by simp
 rw [show ((56 : Nat) : Int) = 56 from rfl, show (2 : Int) ^ 56 = 72057594037927936 by decide, show (slen d : Int) / 72057594037927936 = 0 by omega] at s56
 rw [show ((48 : Nat) : Int) = 48 from rfl, show (2 : Int) ^ 48 = 281474976710656 by decide, show (slen d : Int) / 281474976710656 = 0 by omega] at s48
 rw [show ((40 : Nat) : Int) = 40 from rfl, show (2 : Int) ^ 40 = 1099511627776 by decide, show (slen d : Int) / 1099511627776 = 0 by omega] at s40
 rw [show ((32 : Nat) : Int) = 32 from rfl, show (2 : Int) ^ 32 = 4294967296 by decide, show (slen d : Int) / 4294967296 = 0 by omega] at s32
 rw [show ((24 : Nat) : Int) = 24 from rfl, show (2 : Int) ^ 24 = 16777216 by decide, show (slen d : Int) / 16777216 = 0 by omega] at s24
 rw [show ((16 : Nat) : Int) = 16 from rfl, show (2 : Int) ^ 16 = 65536 by decide] at s16
 rw [show ((8 : Nat) : Int) = 8 from rfl, show (2 : Int) ^ 8 = 256 by decide] at s8
 rw [show ((0 : Nat) : Int) = 0 from rfl, show (2 : Int) ^ 0 = 1 by decide, Int.ediv_one] at s0
 have w0 : IntKind.u8.wrap 0 = 0 := by decide
 have w16 : IntKind.u8.wrap ((slen d : Int) / 65536) = (slen d : Int) / 65536 := by rw [wrapU8v]; omega
 have w8 : IntKind.u8.wrap ((slen d : Int) / 256) = (slen d : Int) / 256 % 256 := wrapU8v _
 have wn : IntKind.u8.wrap (slen d : Int) = (slen d : Int) % 256 := wrapU8v _
 simp only [eu, e0, e1, s56, s48, s40, s32, s24, s16, s8, s0, w0, w16, w8, wn, decide_eq_false c1, decide_eq_false c2, decide_eq_false c3, decide_eq_false c4, bytesOf_len, maskD_len]
 unfold hdrV numV
 have hm : masked = false → (¬ (k0 = 0 ∧ k1 = 0 ∧ k2 = 0 ∧ k3 = 0) ↔ (!(k0 == 0 && (k1 == 0 && (k2 == 0 && (k3 == 0 && true))))) = true) := by
  intro _; simp; omega
 by_cases c5 : (slen d : Int) ≤ 125
 ·have m1 : (slen d : Int) % 256 = slen d := by omega
  have m2 := or128 (slen d : Int) (by omega) (by omega)
  simp only [m1, m2, decide_eq_true c5, if_pos c5]
  cases masked
  ·by_cases ck : (k0 = 0 ∧ k1 = 0 ∧ k2 = 0 ∧ k3 = 0)
   ·obtain ⟨rfl, rfl, rfl, rfl⟩ := ck
    cases fin <;> simp [c1, c2, c3, c4, p] <;> omega
   ·rw [(hm rfl).1 ck]
    simp [c1, c2, c3, c4, ck]
  ·cases fin <;> simp [c1, c2, c3, c4, p, Int.add_comm] <;> omega
 ·by_cases c6 : (slen d : Int) ≤ 65535
  ·have m1 : (slen d : Int) / 256 % 256 = slen d / 256 := by omega
   simp only [m1, decide_eq_false c5, if_neg c5, decide_eq_true c6, if_pos c6]
   cases masked
   ·by_cases ck : (k0 = 0 ∧ k1 = 0 ∧ k2 = 0 ∧ k3 = 0)
    ·obtain ⟨rfl, rfl, rfl, rfl⟩ := ck
     cases fin <;> simp [c1, c2, c3, c4, p] <;> omega
    ·rw [(hm rfl).1 ck]
     simp [c1, c2, c3, c4, ck]
   ·cases fin <;> simp [c1, c2, c3, c4, p] <;> omega
  ·simp only [decide_eq_false c5, if_neg c5, decide_eq_false c6, if_neg c6]
   cases masked
   ·by_cases ck : (k0 = 0 ∧ k1 = 0 ∧ k2 = 0 ∧ k3 = 0)
    ·obtain ⟨rfl, rfl, rfl, rfl⟩ := ck
     cases fin <;> simp [c1, c2, c3, c4, p] <;> omega
    ·rw [(hm rfl).1 ck]
     simp [c1, c2, c3, c4, ck]
   ·cases fin <;> simp [c1, c2, c3, c4, p] <;> omega
def fbytesc_pre (fin : Bool) (rsv op : Int) (masked : Bool) (k0 k1 k2 k3 : Int) (d : ByteArray) : Prop := slen d ≤ 1000000
def fbytesc_v (fin : Bool) (rsv op : Int) (masked : Bool) (k0 k1 k2 k3 : Int) (d : ByteArray) : Value := fbytes_V fin rsv op masked k0 k1 k2 k3 d (bytesT fin rsv op masked k0 k1 k2 k3 d)
def fbytesc_h (fin : Bool) (rsv op : Int) (masked : Bool) (k0 k1 k2 k3 : Int) (d : ByteArray) : Heap := []
theorem fbytesc_call (fin : Bool) (rsv op : Int) (masked : Bool) (k0 k1 k2 k3 : Int) (d : ByteArray) (h : fbytesc_pre fin rsv op masked k0 k1 k2 k3 d) : CallOk E 20 [.agg #[.bool fin, .int .i64 rsv, .int .i64 op, .bool masked, .int .u8 k0, .int .u8 k1, .int .u8 k2, .int .u8 k3, .string d]] [] (fbytesc_v fin rsv op masked k0 k1 k2 k3 d) (fbytesc_h fin rsv op masked k0 k1 k2 k3 d) := by
 have hv := fbytes_val fin rsv op masked k0 k1 k2 k3 d h
 have := fbytes_call fin rsv op masked k0 k1 k2 k3 d hv.1
 unfold fbytesc_v fbytesc_h
 rw [← hv.2]
 exact this

def fbytesc_ex (a : List Value) (h : Heap) : Bool × Int × Int × Bool × Int × Int × Int × Int × ByteArray := ((toBool ((aggOf (a.getD 0 undef)).getD 0 undef)), (toInt ((aggOf (a.getD 0 undef)).getD 1 undef)), (toInt ((aggOf (a.getD 0 undef)).getD 2 undef)), (toBool ((aggOf (a.getD 0 undef)).getD 3 undef)), (toInt ((aggOf (a.getD 0 undef)).getD 4 undef)), (toInt ((aggOf (a.getD 0 undef)).getD 5 undef)), (toInt ((aggOf (a.getD 0 undef)).getD 6 undef)), (toInt ((aggOf (a.getD 0 undef)).getD 7 undef)), (toStr ((aggOf (a.getD 0 undef)).getD 8 undef)))
noncomputable def fbytesc_k : Ct := kP fbytesc_ex (fun x => [Value.agg #[Value.bool x.1, Value.int IntKind.i64 x.2.1, Value.int IntKind.i64 x.2.2.1, Value.bool x.2.2.2.1, Value.int IntKind.u8 x.2.2.2.2.1, Value.int IntKind.u8 x.2.2.2.2.2.1, Value.int IntKind.u8 x.2.2.2.2.2.2.1, Value.int IntKind.u8 x.2.2.2.2.2.2.2.1, Value.string x.2.2.2.2.2.2.2.2]]) (fun x => []) (fun x => fbytesc_pre (x.1) (x.2.1) (x.2.2.1) (x.2.2.2.1) (x.2.2.2.2.1) (x.2.2.2.2.2.1) (x.2.2.2.2.2.2.1) (x.2.2.2.2.2.2.2.1) (x.2.2.2.2.2.2.2.2)) (fun x => fbytesc_v (x.1) (x.2.1) (x.2.2.1) (x.2.2.2.1) (x.2.2.2.2.1) (x.2.2.2.2.2.1) (x.2.2.2.2.2.2.1) (x.2.2.2.2.2.2.2.1) (x.2.2.2.2.2.2.2.2)) (fun x => fbytesc_h (x.1) (x.2.1) (x.2.2.1) (x.2.2.2.1) (x.2.2.2.2.1) (x.2.2.2.2.2.1) (x.2.2.2.2.2.2.1) (x.2.2.2.2.2.2.2.1) (x.2.2.2.2.2.2.2.2))
theorem fbytesc_k_ok : KFor E 20 fbytesc_k := kP_ok (fun x hx => fbytesc_call (x.1) (x.2.1) (x.2.2.1) (x.2.2.2.1) (x.2.2.2.2.1) (x.2.2.2.2.2.1) (x.2.2.2.2.2.2.1) (x.2.2.2.2.2.2.2.1) (x.2.2.2.2.2.2.2.2) hx)


end Go.Proofs.Ytfmcohbagbafmaa
