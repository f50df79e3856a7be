/-
  Frames of bytes: the program's and the document's are the same; contracts.
-/
import Derived.Test.YtkpkompmfijgkaaFrameE
set_option linter.unusedVariables false
set_option linter.unusedSimpArgs false
open Go Go.Am
namespace Go.Proofs.Ytkpkompmfijgkaa

theorem hN_bd (s : ByteArray) : 2 ≤ hN s ∧ hN s ≤ 14 := by
  unfold hN wd
  repeat' split
  all_goals omega
theorem hLen_bd (s : ByteArray) : 0 ≤ hLen s ∧ hLen s ≤ 18446744073709551615 := by
  have b2 := big2_bd s
  have b8 := big8_bd s
  have c := chr_bd s 1
  unfold hLen
  repeat' split
  all_goals omega
theorem hOk_le {s : ByteArray} (h : hOk s = true) : hN s ≤ slen s := by
  unfold hOk at h
  simp at h
  exact h.2
def readT (s : ByteArray) : fread_R :=
  bif !hOk s then (false, 0, 0, false, 0, 0, 0, 0, ⟨#[]⟩, 0, 7)
  else bif decide (2147483647 < hLen s) then (false, 0, 0, false, 0, 0, 0, 0, ⟨#[]⟩, 0, 3)
    else bif decide ((slen s : Int) - hN s < hLen s) then (false, 0, 0, false, 0, 0, 0, 0, ⟨#[]⟩, 0, 7)
      else (decide (128 ≤ chr s 0), chr s 0 / 16 % 8, chr s 0 % 16, hMask s, hKey s 0, hKey s 1, hKey s 2, hKey s 3, maskD [hKey s 0, hKey s 1, hKey s 2, hKey s 3] 0 (sub s (hN s).toNat (hN s + hLen s).toNat), hN s + hLen s, 0)

theorem fread_val (s : ByteArray) (hs : slen s ≤ 1000000) : fread_S0 s ∧ fread_t0 s = readT s := by
  have b1 := hN_bd s
  have b2 := hLen_bd s
  have hc : headc_pre s := trivial
  unfold fread_S0 fread_t0 readT headT
  cases h : hOk s
  · simp [hc]
  · have b3 := hOk_le h
    simp only [cond_true, Bool.not_true, cond_false]
    by_cases c1 : 2147483647 < hLen s
    · simp [c1, hc]
    · have e1 : IntKind.i64.wrap ((slen s : Int) - hN s) = slen s - hN s := wrap64_in (by omega) (by omega)
      have e2 : IntKind.u64.wrap ((slen s : Int) - hN s) = slen s - hN s := wrapU64 (by omega) (by omega)
      have e3 : IntKind.i64.wrap (hLen s) = hLen s := wrap64_in (by omega) (by omega)
      have e4 : IntKind.i64.wrap (hN s + hLen s) = hN s + hLen s := wrap64_in (by omega) (by omega)
      simp only [e1, e2, e3, e4]
      by_cases c2 : (slen s : Int) - hN s < hLen s
      · simp [c1, c2, hc]
      · have p (k0 k1 k2 k3 : Int) : mask_pre k0 k1 k2 k3 0 (sub s (hN s).toNat (hN s + hLen s).toNat) := by
          unfold mask_pre; rw [slen_sub]; omega
        simp [c1, c2, hc, p]
        omega
theorem rfread_val (s : ByteArray) (hs : slen s ≤ 1000000) : rfread_S0 s ∧ rfread_t0 s = readT s := by
  have b1 := hN_bd s
  have b2 := hLen_bd s
  have hc : rheadc_pre s := trivial
  unfold rfread_S0 rfread_t0 readT rheadT
  cases h : hOk s
  · simp [hc]
  · have b3 := hOk_le h
    simp only [cond_true, Bool.not_true, cond_false]
    by_cases c1 : 2147483647 < hLen s
    · simp [c1, hc]
    · have e1 : IntKind.i64.wrap ((slen s : Int) - hN s) = slen s - hN s := wrap64_in (by omega) (by omega)
      have e3 : IntKind.i64.wrap (hLen s) = hLen s := wrap64_in (by omega) (by omega)
      have e4 : IntKind.i64.wrap (hN s + hLen s) = hN s + hLen s := wrap64_in (by omega) (by omega)
      simp only [e1, e3, e4]
      by_cases c2 : (slen s : Int) - hN s < hLen s
      · simp [c1, c2, hc]
      · have p (k0 k1 k2 k3 : Int) : rmask_pre k0 k1 k2 k3 0 (sub s (hN s).toNat (hN s + hLen s).toNat) := by
          unfold rmask_pre; rw [slen_sub]; omega
        simp [c1, c2, hc, p]
        omega

def freadc_pre (s : ByteArray) : Prop := slen s ≤ 1000000
def freadc_v (s : ByteArray) : Value := fread_V s (readT s)
def freadc_h (s : ByteArray) : Heap := []
theorem freadc_call (s : ByteArray) (h : freadc_pre s) : CallOk E 16 [.string s] [] (freadc_v s) (freadc_h s) := by
  have := fread_call s (fread_val s h).1
  unfold freadc_v freadc_h
  rw [← (fread_val s h).2]
  exact this

def freadc_ex (a : List Value) (h : Heap) : ByteArray := (toStr (a.getD 0 undef))
noncomputable def freadc_k : Ct := kP freadc_ex (fun x => [Value.string x]) (fun x => []) (fun x => freadc_pre x) (fun x => freadc_v x) (fun x => freadc_h x)
theorem freadc_k_ok : KFor E 16 freadc_k := kP_ok (fun x hx => freadc_call x hx)


def rfreadc_pre (s : ByteArray) : Prop := slen s ≤ 1000000
def rfreadc_v (s : ByteArray) : Value := rfread_V s (readT s)
def rfreadc_h (s : ByteArray) : Heap := []
theorem rfreadc_call (s : ByteArray) (h : rfreadc_pre s) : CallOk E 17 [.string s] [] (rfreadc_v s) (rfreadc_h s) := by
  have := rfread_call s (rfread_val s h).1
  unfold rfreadc_v rfreadc_h
  rw [← (rfread_val s h).2]
  exact this

def rfreadc_ex (a : List Value) (h : Heap) : ByteArray := (toStr (a.getD 0 undef))
noncomputable def rfreadc_k : Ct := kP rfreadc_ex (fun x => [Value.string x]) (fun x => []) (fun x => rfreadc_pre x) (fun x => rfreadc_v x) (fun x => rfreadc_h x)
theorem rfreadc_k_ok : KFor E 17 rfreadc_k := kP_ok (fun x hx => rfreadc_call x hx)


end Go.Proofs.Ytkpkompmfijgkaa
