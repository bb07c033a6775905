/- The document's product in the small field is the program's. Conditions: none. -/
import Derived.Test.YtfbcgpgpfpnpnaaAesP
import Derived.Test.YtfbcgpgpfpnpnaaWMore
import Derived.Laws.BitsLemmas
namespace Go.Proofs.Ytfbcgpgpfpnpnaa.Aes
open Go Go.RowKit Go.Proofs.Ytfbcgpgpfpnpnaa.Row
set_option maxRecDepth 100000
set_option linter.unusedVariables false
set_option linter.unusedSimpArgs false
def mA (a b p i : Nat) : Nat := if b / 2 ^ i % 2 = 1 then p ^^^ (a <<< i) else p
def mB (p i : Nat) : Nat := if p / 2 ^ i % 2 = 1 then p ^^^ (283 <<< (i - 8)) else p
def mAs (a b : Nat) : Nat → Nat
  | 0 => 0
  | i + 1 => mA a b (mAs a b i) i
def mBs (p : Nat) : Nat → Nat
  | 0 => p
  | j + 1 => mB (mBs p j) (15 - j)
def mulN (a b : Nat) : Nat := mBs (mAs a b 8) 8 % 256
theorem mA_lt {a b p i : Nat} (ha : a < 256) (hp : p < 65536) (hi : i < 8) : mA a b p i < 65536 := by
  unfold mA
  split
  · have h1 : a <<< i < 2 ^ 16 := by
      rw [Nat.shiftLeft_eq]
      have : 2 ^ i ≤ 2 ^ 7 := Nat.pow_le_pow_right (by decide) (by omega)
      calc a * 2 ^ i ≤ 255 * 2 ^ 7 := Nat.mul_le_mul (by omega) this
        _ < 2 ^ 16 := by decide
    exact Nat.xor_lt_two_pow (n := 16) hp h1
  · exact hp
theorem mAs_lt {a b : Nat} (ha : a < 256) : ∀ i, i ≤ 8 → mAs a b i < 65536
  | 0, _ => by simp [mAs]
  | i + 1, h => mA_lt ha (mAs_lt ha i (by omega)) (by omega)
theorem mB_lt {p i : Nat} (hp : p < 65536) (hi : i ≤ 15) : mB p i < 65536 := by
  unfold mB
  split
  · have h1 : 283 <<< (i - 8) < 2 ^ 16 := by
      rw [Nat.shiftLeft_eq]
      have : 2 ^ (i - 8) ≤ 2 ^ 7 := Nat.pow_le_pow_right (by decide) (by omega)
      calc 283 * 2 ^ (i - 8) ≤ 283 * 2 ^ 7 := Nat.mul_le_mul (by omega) this
        _ < 2 ^ 16 := by decide
    exact Nat.xor_lt_two_pow (n := 16) hp h1
  · exact hp
theorem mBs_lt {p : Nat} (hp : p < 65536) : ∀ j, mBs p j < 65536
  | 0 => hp
  | j + 1 => mB_lt (mBs_lt hp j) (by omega)
/-! linear in both -/
theorem bit_xor (p q i : Nat) : ((p ^^^ q) / 2 ^ i % 2 = 1) ↔ ((p / 2 ^ i % 2 = 1) ↔ ¬ (q / 2 ^ i % 2 = 1)) := by
  have h := Nat.testBit_xor p q i
  rw [Nat.testBit_eq_decide_div_mod_eq, Nat.testBit_eq_decide_div_mod_eq, Nat.testBit_eq_decide_div_mod_eq] at h
  by_cases h1 : p / 2 ^ i % 2 = 1 <;> by_cases h2 : q / 2 ^ i % 2 = 1 <;> simp_all
theorem xor_abcd (a b c d : Nat) : (a ^^^ b) ^^^ (c ^^^ d) = (a ^^^ c) ^^^ (b ^^^ d) := by ac_rfl
theorem mA_xor (a a' b p p' i : Nat) : mA (a ^^^ a') b (p ^^^ p') i = mA a b p i ^^^ mA a' b p' i := by
  unfold mA
  split
  · rw [Nat.shiftLeft_xor_distrib, xor_abcd]
  · rfl
theorem mAs_xor (a a' b : Nat) : ∀ i, mAs (a ^^^ a') b i = mAs a b i ^^^ mAs a' b i
  | 0 => by simp [mAs]
  | i + 1 => by rw [mAs, mAs_xor a a' b i, mA_xor]; rfl
theorem mA_xor2 (a b b' p p' i : Nat) : mA a (b ^^^ b') (p ^^^ p') i = mA a b p i ^^^ mA a b' p' i := by
  unfold mA
  have h := bit_xor b b' i
  by_cases h1 : b / 2 ^ i % 2 = 1 <;> by_cases h2 : b' / 2 ^ i % 2 = 1
  · rw [if_neg (by rw [h]; simp [h1, h2]), if_pos h1, if_pos h2, xor_abcd, Nat.xor_self, Nat.xor_zero]
  · rw [if_pos (by rw [h]; simp [h1, h2]), if_pos h1, if_neg h2, Nat.xor_assoc, Nat.xor_comm p', ← Nat.xor_assoc]
  · rw [if_pos (by rw [h]; simp [h1, h2]), if_neg h1, if_pos h2, Nat.xor_assoc]
  · rw [if_neg (by rw [h]; simp [h1, h2]), if_neg h1, if_neg h2]
theorem mAs_xor2 (a b b' : Nat) : ∀ i, mAs a (b ^^^ b') i = mAs a b i ^^^ mAs a b' i
  | 0 => by simp [mAs]
  | i + 1 => by rw [mAs, mAs_xor2 a b b' i, mA_xor2]; rfl
theorem mB_xor (p p' i : Nat) : mB (p ^^^ p') i = mB p i ^^^ mB p' i := by
  unfold mB
  have h := bit_xor p p' i
  by_cases h1 : p / 2 ^ i % 2 = 1 <;> by_cases h2 : p' / 2 ^ i % 2 = 1
  · rw [if_neg (by rw [h]; simp [h1, h2]), if_pos h1, if_pos h2, xor_abcd, Nat.xor_self, Nat.xor_zero]
  · rw [if_pos (by rw [h]; simp [h1, h2]), if_pos h1, if_neg h2, Nat.xor_assoc, Nat.xor_comm p', ← Nat.xor_assoc]
  · rw [if_pos (by rw [h]; simp [h1, h2]), if_neg h1, if_pos h2, Nat.xor_assoc]
  · rw [if_neg (by rw [h]; simp [h1, h2]), if_neg h1, if_neg h2]
theorem mBs_xor (p p' : Nat) : ∀ j, mBs (p ^^^ p') j = mBs p j ^^^ mBs p' j
  | 0 => rfl
  | j + 1 => by rw [mBs, mBs_xor p p' j, mB_xor]; rfl
theorem mulN_xor (a a' b : Nat) : mulN (a ^^^ a') b = mulN a b ^^^ mulN a' b := by
  unfold mulN
  rw [mAs_xor, mBs_xor]
  exact Nat.xor_mod_two_pow (n := 8)
theorem mulN_xor2 (a b b' : Nat) : mulN a (b ^^^ b') = mulN a b ^^^ mulN a b' := by
  unfold mulN
  rw [mAs_xor2, mBs_xor]
  exact Nat.xor_mod_two_pow (n := 8)
theorem mulN_lt (a b : Nat) : mulN a b < 256 := Nat.mod_lt _ (by decide)
/-- the product, on bytes -/
def mul8 (a b : UInt8) : UInt8 := UInt8.ofNat (mulN a.toNat b.toNat)
theorem mul8_toNat (a b : UInt8) : (mul8 a b).toNat = mulN a.toNat b.toNat := by
  rw [mul8, UInt8.toNat_ofNat']
  exact Nat.mod_eq_of_lt (mulN_lt _ _)
theorem mul8_xor (a a' b : UInt8) : mul8 (a ^^^ a') b = mul8 a b ^^^ mul8 a' b := by
  apply UInt8.toNat_inj.1
  rw [UInt8.toNat_xor, mul8_toNat, mul8_toNat, mul8_toNat, UInt8.toNat_xor, mulN_xor]
theorem mul8_xor2 (a b b' : UInt8) : mul8 a (b ^^^ b') = mul8 a b ^^^ mul8 a b' := by
  apply UInt8.toNat_inj.1
  rw [UInt8.toNat_xor, mul8_toNat, mul8_toNat, mul8_toNat, UInt8.toNat_xor, mulN_xor2]
/-- What holds of 0 and the powers of two, and of an exclusive or of two where it holds of each, holds of each byte. -/
def bit8 (a : UInt8) (j : Nat) : UInt8 := UInt8.ofNat (a.toNat / 2 ^ j % 2 * 2 ^ j)
theorem bits8_all : ∀ n : Nat, n < 256 → UInt8.ofNat n = bit8 (UInt8.ofNat n) 0 ^^^ bit8 (UInt8.ofNat n) 1 ^^^ bit8 (UInt8.ofNat n) 2 ^^^ bit8 (UInt8.ofNat n) 3 ^^^ bit8 (UInt8.ofNat n) 4 ^^^ bit8 (UInt8.ofNat n) 5 ^^^ bit8 (UInt8.ofNat n) 6 ^^^ bit8 (UInt8.ofNat n) 7 := by decide +kernel
theorem bit8_or (a : UInt8) (j : Nat) : bit8 a j = 0 ∨ bit8 a j = UInt8.ofNat (2 ^ j) := by
  unfold bit8
  have h : a.toNat / 2 ^ j % 2 = 0 ∨ a.toNat / 2 ^ j % 2 = 1 := by omega
  rcases h with h | h
  · left; rw [h, Nat.zero_mul]; rfl
  · right; rw [h, Nat.one_mul]
theorem by_bits (P : UInt8 → Prop) (hx : ∀ a b, P a → P b → P (a ^^^ b)) (h0 : P 0) (h : ∀ j, j < 8 → P (UInt8.ofNat (2 ^ j))) (a : UInt8) : P a := by
  have hb : ∀ j, j < 8 → P (bit8 a j) := fun j hj => by
    rcases bit8_or a j with e | e
    · rw [e]; exact h0
    · rw [e]; exact h j hj
  have e := bits8_all a.toNat a.toNat_lt
  rw [UInt8.ofNat_toNat] at e
  rw [e]
  exact hx _ _ (hx _ _ (hx _ _ (hx _ _ (hx _ _ (hx _ _ (hx _ _ (hb 0 (by decide)) (hb 1 (by decide))) (hb 2 (by decide))) (hb 3 (by decide))) (hb 4 (by decide))) (hb 5 (by decide))) (hb 6 (by decide))) (hb 7 (by decide))
theorem mul8_times_basis : ∀ j : Nat, j < 8 → ∀ n : Nat, n < 256 → mul8 (UInt8.ofNat (2 ^ j)) (UInt8.ofNat n) = times (UInt8.ofNat (2 ^ j)) (UInt8.ofNat n) := by decide +kernel
theorem mul8_times_zero : ∀ n : Nat, n < 256 → mul8 0 (UInt8.ofNat n) = times 0 (UInt8.ofNat n) := by decide +kernel
theorem mul8_times (a b : UInt8) : mul8 a b = times a b := by
  refine by_bits (fun a => mul8 a b = times a b) (fun a a' h h' => ?_) ?_ (fun j hj => ?_) a
  · show mul8 (a ^^^ a') b = times (a ^^^ a') b
    rw [mul8_xor, times_xor, h, h']
  · have := mul8_times_zero b.toNat b.toNat_lt
    rwa [UInt8.ofNat_toNat] at this
  · have := mul8_times_basis j hj b.toNat b.toNat_lt
    rwa [UInt8.ofNat_toNat] at this
theorem times_xor2 (a b b' : UInt8) : times a (b ^^^ b') = times a b ^^^ times a b' := by rw [← mul8_times, ← mul8_times, ← mul8_times, mul8_xor2]
theorem times_comm_basis : ∀ i : Nat, i < 8 → ∀ j : Nat, j < 8 → times (UInt8.ofNat (2 ^ i)) (UInt8.ofNat (2 ^ j)) = times (UInt8.ofNat (2 ^ j)) (UInt8.ofNat (2 ^ i)) := by decide +kernel
theorem times_zero_basis : ∀ j : Nat, j < 8 → times 0 (UInt8.ofNat (2 ^ j)) = 0 ∧ times (UInt8.ofNat (2 ^ j)) 0 = 0 := by decide +kernel
theorem times_zero_r (a : UInt8) : times a 0 = 0 := by simp [times, tm]
theorem times_zero_l (a : UInt8) : times 0 a = 0 := by
  have := times_xor 0 0 a
  rw [UInt8.xor_self] at this
  rw [this, UInt8.xor_self]
theorem times_comm (a b : UInt8) : times a b = times b a := by
  refine by_bits (fun a => times a b = times b a) (fun a a' h h' => ?_) ?_ (fun i hi => ?_) a
  · show times (a ^^^ a') b = times b (a ^^^ a')
    rw [times_xor, times_xor2, h, h']
  · show times 0 b = times b 0
    rw [times_zero_l, times_zero_r]
  · refine by_bits (fun b => times (UInt8.ofNat (2 ^ i)) b = times b (UInt8.ofNat (2 ^ i))) (fun b b' h h' => ?_) ?_ (fun j hj => times_comm_basis i hi j hj) b
    · show times _ (b ^^^ b') = times (b ^^^ b') _
      rw [times_xor, times_xor2, h, h']
    · show times _ 0 = times 0 _
      rw [times_zero_l, times_zero_r]
theorem times_assoc_basis : ∀ i : Nat, i < 8 → ∀ j : Nat, j < 8 → ∀ k : Nat, k < 8 → times (times (UInt8.ofNat (2 ^ i)) (UInt8.ofNat (2 ^ j))) (UInt8.ofNat (2 ^ k)) = times (UInt8.ofNat (2 ^ i)) (times (UInt8.ofNat (2 ^ j)) (UInt8.ofNat (2 ^ k))) := by decide +kernel
theorem times_assoc (a b c : UInt8) : times (times a b) c = times a (times b c) := by
  refine by_bits (fun a => times (times a b) c = times a (times b c)) (fun a a' h h' => ?_) ?_ (fun i hi => ?_) a
  · show times (times (a ^^^ a') b) c = times (a ^^^ a') (times b c)
    rw [times_xor, times_xor, times_xor, h, h']
  · show times (times 0 b) c = times 0 (times b c)
    rw [times_zero_l, times_zero_l, times_zero_l]
  · refine by_bits (fun b => times (times (UInt8.ofNat (2 ^ i)) b) c = times (UInt8.ofNat (2 ^ i)) (times b c)) (fun b b' h h' => ?_) ?_ (fun j hj => ?_) b
    · show times (times _ (b ^^^ b')) c = times _ (times (b ^^^ b') c)
      rw [times_xor2, times_xor, times_xor, times_xor2, h, h']
    · show times (times _ 0) c = times _ (times 0 c)
      rw [times_zero_r, times_zero_l, times_zero_r]
    · refine by_bits (fun c => times (times (UInt8.ofNat (2 ^ i)) (UInt8.ofNat (2 ^ j))) c = times (UInt8.ofNat (2 ^ i)) (times (UInt8.ofNat (2 ^ j)) c)) (fun c c' h h' => ?_) ?_ (fun k hk => times_assoc_basis i hi j hj k hk) c
      · show times _ (c ^^^ c') = times _ (times _ (c ^^^ c'))
        rw [times_xor2, times_xor2, times_xor2, h, h']
      · show times _ 0 = times _ (times _ 0)
        rw [times_zero_r, times_zero_r, times_zero_r]
end Go.Proofs.Ytfbcgpgpfpnpnaa.Aes
