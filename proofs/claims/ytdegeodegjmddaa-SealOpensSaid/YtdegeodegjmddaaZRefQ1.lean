/- The document's product in the small field is the program's. Conditions: none. The contract of hamperref09.Mul. Conditions: none. The contracts of hamperref09.turned, StandIn and table. Conditions: none. The document's key words are the program's: plain law. Conditions: keys of 32 bytes. The document's rounds are the program's: plain law. Conditions: blocks of 16 bytes. -/
import Derived.Test.YtdegeodegjmddaaZAesP
import Derived.Test.YtdegeodegjmddaaZWQ
import Derived.Laws.BitsLemmas
import Derived.Test.YtdegeodegjmddaaZRowQ
import Derived.Test.YtdegeodegjmddaaZAesQ
import Derived.Test.YtdegeodegjmddaaZOwnQ
set_option linter.unusedVariables false
set_option linter.unusedSimpArgs false
namespace Go.Proofs.Ytdegeodegjmddaa.Aes
open Go Go.RowKit Go.Proofs.Ytdegeodegjmddaa.Row
set_option maxRecDepth 100000
set_option linter.unusedVariables false
set_option linter.unusedSimpArgs false
def mA (a b p i : Nat) : Nat := if b / 2 ^ i % 2 = 1 then p ^^^ (a <<< i) else p
def mB (p i : Nat) : Nat := if p / 2 ^ i % 2 = 1 then p ^^^ (283 <<< (i - 8)) else p
def mAs (a b : Nat) : Nat → Nat
  | 0 => 0
  | i + 1 => mA a b (mAs a b i) i
def mBs (p : Nat) : Nat → Nat
  | 0 => p
  | j + 1 => mB (mBs p j) (15 - j)
def mulN (a b : Nat) : Nat := mBs (mAs a b 8) 8 % 256
theorem mA_lt {a b p i : Nat} (ha : a < 256) (hp : p < 65536) (hi : i < 8) : mA a b p i < 65536 := by
  unfold mA
  split
  · have h1 : a <<< i < 2 ^ 16 := by
      rw [Nat.shiftLeft_eq]
      have : 2 ^ i ≤ 2 ^ 7 := Nat.pow_le_pow_right (by decide) (by omega)
      calc a * 2 ^ i ≤ 255 * 2 ^ 7 := Nat.mul_le_mul (by omega) this
        _ < 2 ^ 16 := by decide
    exact Nat.xor_lt_two_pow (n := 16) hp h1
  · exact hp
theorem mAs_lt {a b : Nat} (ha : a < 256) : ∀ i, i ≤ 8 → mAs a b i < 65536
  | 0, _ => by simp [mAs]
  | i + 1, h => mA_lt ha (mAs_lt ha i (by omega)) (by omega)
theorem mB_lt {p i : Nat} (hp : p < 65536) (hi : i ≤ 15) : mB p i < 65536 := by
  unfold mB
  split
  · have h1 : 283 <<< (i - 8) < 2 ^ 16 := by
      rw [Nat.shiftLeft_eq]
      have : 2 ^ (i - 8) ≤ 2 ^ 7 := Nat.pow_le_pow_right (by decide) (by omega)
      calc 283 * 2 ^ (i - 8) ≤ 283 * 2 ^ 7 := Nat.mul_le_mul (by omega) this
        _ < 2 ^ 16 := by decide
    exact Nat.xor_lt_two_pow (n := 16) hp h1
  · exact hp
theorem mBs_lt {p : Nat} (hp : p < 65536) : ∀ j, mBs p j < 65536
  | 0 => hp
  | j + 1 => mB_lt (mBs_lt hp j) (by omega)
/-! linear in both -/
theorem bit_xor (p q i : Nat) : ((p ^^^ q) / 2 ^ i % 2 = 1) ↔ ((p / 2 ^ i % 2 = 1) ↔ ¬ (q / 2 ^ i % 2 = 1)) := by
  have h := Nat.testBit_xor p q i
  rw [Nat.testBit_eq_decide_div_mod_eq, Nat.testBit_eq_decide_div_mod_eq, Nat.testBit_eq_decide_div_mod_eq] at h
  by_cases h1 : p / 2 ^ i % 2 = 1 <;> by_cases h2 : q / 2 ^ i % 2 = 1 <;> simp_all
theorem xor_abcd (a b c d : Nat) : (a ^^^ b) ^^^ (c ^^^ d) = (a ^^^ c) ^^^ (b ^^^ d) := by ac_rfl
theorem mA_xor (a a' b p p' i : Nat) : mA (a ^^^ a') b (p ^^^ p') i = mA a b p i ^^^ mA a' b p' i := by
  unfold mA
  split
  · rw [Nat.shiftLeft_xor_distrib, xor_abcd]
  · rfl
theorem mAs_xor (a a' b : Nat) : ∀ i, mAs (a ^^^ a') b i = mAs a b i ^^^ mAs a' b i
  | 0 => by simp [mAs]
  | i + 1 => by rw [mAs, mAs_xor a a' b i, mA_xor]; rfl
theorem mA_xor2 (a b b' p p' i : Nat) : mA a (b ^^^ b') (p ^^^ p') i = mA a b p i ^^^ mA a b' p' i := by
  unfold mA
  have h := bit_xor b b' i
  by_cases h1 : b / 2 ^ i % 2 = 1 <;> by_cases h2 : b' / 2 ^ i % 2 = 1
  · rw [if_neg (by rw [h]; simp [h1, h2]), if_pos h1, if_pos h2, xor_abcd, Nat.xor_self, Nat.xor_zero]
  · rw [if_pos (by rw [h]; simp [h1, h2]), if_pos h1, if_neg h2, Nat.xor_assoc, Nat.xor_comm p', ← Nat.xor_assoc]
  · rw [if_pos (by rw [h]; simp [h1, h2]), if_neg h1, if_pos h2, Nat.xor_assoc]
  · rw [if_neg (by rw [h]; simp [h1, h2]), if_neg h1, if_neg h2]
theorem mAs_xor2 (a b b' : Nat) : ∀ i, mAs a (b ^^^ b') i = mAs a b i ^^^ mAs a b' i
  | 0 => by simp [mAs]
  | i + 1 => by rw [mAs, mAs_xor2 a b b' i, mA_xor2]; rfl
theorem mB_xor (p p' i : Nat) : mB (p ^^^ p') i = mB p i ^^^ mB p' i := by
  unfold mB
  have h := bit_xor p p' i
  by_cases h1 : p / 2 ^ i % 2 = 1 <;> by_cases h2 : p' / 2 ^ i % 2 = 1
  · rw [if_neg (by rw [h]; simp [h1, h2]), if_pos h1, if_pos h2, xor_abcd, Nat.xor_self, Nat.xor_zero]
  · rw [if_pos (by rw [h]; simp [h1, h2]), if_pos h1, if_neg h2, Nat.xor_assoc, Nat.xor_comm p', ← Nat.xor_assoc]
  · rw [if_pos (by rw [h]; simp [h1, h2]), if_neg h1, if_pos h2, Nat.xor_assoc]
  · rw [if_neg (by rw [h]; simp [h1, h2]), if_neg h1, if_neg h2]
theorem mBs_xor (p p' : Nat) : ∀ j, mBs (p ^^^ p') j = mBs p j ^^^ mBs p' j
  | 0 => rfl
  | j + 1 => by rw [mBs, mBs_xor p p' j, mB_xor]; rfl
theorem mulN_xor (a a' b : Nat) : mulN (a ^^^ a') b = mulN a b ^^^ mulN a' b := by
  unfold mulN
  rw [mAs_xor, mBs_xor]
  exact Nat.xor_mod_two_pow (n := 8)
theorem mulN_xor2 (a b b' : Nat) : mulN a (b ^^^ b') = mulN a b ^^^ mulN a b' := by
  unfold mulN
  rw [mAs_xor2, mBs_xor]
  exact Nat.xor_mod_two_pow (n := 8)
theorem mulN_lt (a b : Nat) : mulN a b < 256 := Nat.mod_lt _ (by decide)
/-- the product, on bytes -/
def mul8 (a b : UInt8) : UInt8 := UInt8.ofNat (mulN a.toNat b.toNat)
theorem mul8_toNat (a b : UInt8) : (mul8 a b).toNat = mulN a.toNat b.toNat := by
  rw [mul8, UInt8.toNat_ofNat']
  exact Nat.mod_eq_of_lt (mulN_lt _ _)
theorem mul8_xor (a a' b : UInt8) : mul8 (a ^^^ a') b = mul8 a b ^^^ mul8 a' b := by
  apply UInt8.toNat_inj.1
  rw [UInt8.toNat_xor, mul8_toNat, mul8_toNat, mul8_toNat, UInt8.toNat_xor, mulN_xor]
theorem mul8_xor2 (a b b' : UInt8) : mul8 a (b ^^^ b') = mul8 a b ^^^ mul8 a b' := by
  apply UInt8.toNat_inj.1
  rw [UInt8.toNat_xor, mul8_toNat, mul8_toNat, mul8_toNat, UInt8.toNat_xor, mulN_xor2]
/-- What holds of 0 and the powers of two, and of an exclusive or of two where it holds of each, holds of each byte. -/
def bit8 (a : UInt8) (j : Nat) : UInt8 := UInt8.ofNat (a.toNat / 2 ^ j % 2 * 2 ^ j)
theorem bits8_all : ∀ n : Nat, n < 256 → UInt8.ofNat n = bit8 (UInt8.ofNat n) 0 ^^^ bit8 (UInt8.ofNat n) 1 ^^^ bit8 (UInt8.ofNat n) 2 ^^^ bit8 (UInt8.ofNat n) 3 ^^^ bit8 (UInt8.ofNat n) 4 ^^^ bit8 (UInt8.ofNat n) 5 ^^^ bit8 (UInt8.ofNat n) 6 ^^^ bit8 (UInt8.ofNat n) 7 := by decide +kernel
theorem bit8_or (a : UInt8) (j : Nat) : bit8 a j = 0 ∨ bit8 a j = UInt8.ofNat (2 ^ j) := by
  unfold bit8
  have h : a.toNat / 2 ^ j % 2 = 0 ∨ a.toNat / 2 ^ j % 2 = 1 := by omega
  rcases h with h | h
  · left; rw [h, Nat.zero_mul]; rfl
  · right; rw [h, Nat.one_mul]
theorem by_bits (P : UInt8 → Prop) (hx : ∀ a b, P a → P b → P (a ^^^ b)) (h0 : P 0) (h : ∀ j, j < 8 → P (UInt8.ofNat (2 ^ j))) (a : UInt8) : P a := by
  have hb : ∀ j, j < 8 → P (bit8 a j) := fun j hj => by
    rcases bit8_or a j with e | e
    · rw [e]; exact h0
    · rw [e]; exact h j hj
  have e := bits8_all a.toNat a.toNat_lt
  rw [UInt8.ofNat_toNat] at e
  rw [e]
  exact hx _ _ (hx _ _ (hx _ _ (hx _ _ (hx _ _ (hx _ _ (hx _ _ (hb 0 (by decide)) (hb 1 (by decide))) (hb 2 (by decide))) (hb 3 (by decide))) (hb 4 (by decide))) (hb 5 (by decide))) (hb 6 (by decide))) (hb 7 (by decide))
theorem mul8_times_basis : ∀ j : Nat, j < 8 → ∀ n : Nat, n < 256 → mul8 (UInt8.ofNat (2 ^ j)) (UInt8.ofNat n) = times (UInt8.ofNat (2 ^ j)) (UInt8.ofNat n) := by decide +kernel
theorem mul8_times_zero : ∀ n : Nat, n < 256 → mul8 0 (UInt8.ofNat n) = times 0 (UInt8.ofNat n) := by decide +kernel
theorem mul8_times (a b : UInt8) : mul8 a b = times a b := by
  refine by_bits (fun a => mul8 a b = times a b) (fun a a' h h' => ?_) ?_ (fun j hj => ?_) a
  · show mul8 (a ^^^ a') b = times (a ^^^ a') b
    rw [mul8_xor, times_xor, h, h']
  · have := mul8_times_zero b.toNat b.toNat_lt
    rwa [UInt8.ofNat_toNat] at this
  · have := mul8_times_basis j hj b.toNat b.toNat_lt
    rwa [UInt8.ofNat_toNat] at this
theorem times_xor2 (a b b' : UInt8) : times a (b ^^^ b') = times a b ^^^ times a b' := by rw [← mul8_times, ← mul8_times, ← mul8_times, mul8_xor2]
theorem times_comm_basis : ∀ i : Nat, i < 8 → ∀ j : Nat, j < 8 → times (UInt8.ofNat (2 ^ i)) (UInt8.ofNat (2 ^ j)) = times (UInt8.ofNat (2 ^ j)) (UInt8.ofNat (2 ^ i)) := by decide +kernel
theorem times_zero_basis : ∀ j : Nat, j < 8 → times 0 (UInt8.ofNat (2 ^ j)) = 0 ∧ times (UInt8.ofNat (2 ^ j)) 0 = 0 := by decide +kernel
theorem times_zero_r (a : UInt8) : times a 0 = 0 := by simp [times, tm]
theorem times_zero_l (a : UInt8) : times 0 a = 0 := by
  have := times_xor 0 0 a
  rw [UInt8.xor_self] at this
  rw [this, UInt8.xor_self]
theorem times_comm (a b : UInt8) : times a b = times b a := by
  refine by_bits (fun a => times a b = times b a) (fun a a' h h' => ?_) ?_ (fun i hi => ?_) a
  · show times (a ^^^ a') b = times b (a ^^^ a')
    rw [times_xor, times_xor2, h, h']
  · show times 0 b = times b 0
    rw [times_zero_l, times_zero_r]
  · refine by_bits (fun b => times (UInt8.ofNat (2 ^ i)) b = times b (UInt8.ofNat (2 ^ i))) (fun b b' h h' => ?_) ?_ (fun j hj => times_comm_basis i hi j hj) b
    · show times _ (b ^^^ b') = times (b ^^^ b') _
      rw [times_xor, times_xor2, h, h']
    · show times _ 0 = times 0 _
      rw [times_zero_l, times_zero_r]
theorem times_assoc_basis : ∀ i : Nat, i < 8 → ∀ j : Nat, j < 8 → ∀ k : Nat, k < 8 → times (times (UInt8.ofNat (2 ^ i)) (UInt8.ofNat (2 ^ j))) (UInt8.ofNat (2 ^ k)) = times (UInt8.ofNat (2 ^ i)) (times (UInt8.ofNat (2 ^ j)) (UInt8.ofNat (2 ^ k))) := by decide +kernel
theorem times_assoc (a b c : UInt8) : times (times a b) c = times a (times b c) := by
  refine by_bits (fun a => times (times a b) c = times a (times b c)) (fun a a' h h' => ?_) ?_ (fun i hi => ?_) a
  · show times (times (a ^^^ a') b) c = times (a ^^^ a') (times b c)
    rw [times_xor, times_xor, times_xor, h, h']
  · show times (times 0 b) c = times 0 (times b c)
    rw [times_zero_l, times_zero_l, times_zero_l]
  · refine by_bits (fun b => times (times (UInt8.ofNat (2 ^ i)) b) c = times (UInt8.ofNat (2 ^ i)) (times b c)) (fun b b' h h' => ?_) ?_ (fun j hj => ?_) b
    · show times (times _ (b ^^^ b')) c = times _ (times (b ^^^ b') c)
      rw [times_xor2, times_xor, times_xor, times_xor2, h, h']
    · show times (times _ 0) c = times _ (times 0 c)
      rw [times_zero_r, times_zero_l, times_zero_r]
    · refine by_bits (fun c => times (times (UInt8.ofNat (2 ^ i)) (UInt8.ofNat (2 ^ j))) c = times (UInt8.ofNat (2 ^ i)) (times (UInt8.ofNat (2 ^ j)) c)) (fun c c' h h' => ?_) ?_ (fun k hk => times_assoc_basis i hi j hj k hk) c
      · show times _ (c ^^^ c') = times _ (times _ (c ^^^ c'))
        rw [times_xor2, times_xor2, times_xor2, h, h']
      · show times _ 0 = times _ (times _ 0)
        rw [times_zero_r, times_zero_r, times_zero_r]
end Go.Proofs.Ytdegeodegjmddaa.Aes

namespace Go.Proofs.Ytdegeodegjmddaa.Given
open Go.RowKit Go.Proofs.YtdegeodegjmddaaW.PrintWords Go.Proofs.YtdegeodegjmddaaW.PrintLast Go.Proofs.YtdegeodegjmddaaW.PrintMore
open Go.Proofs.Ytdegeodegjmddaa.Row Go.Proofs.Ytdegeodegjmddaa.Aes Go.Proofs.Ytdegeodegjmddaa.Row.At
set_option maxRecDepth 100000
set_option linter.unusedVariables false
set_option linter.unusedSimpArgs false
theorem bitI (q m : Nat) : ((((q : Int) / 2 ^ m).tmod 2) == 1) = decide (q / 2 ^ m % 2 = 1) := by
  have e : ((q : Int) / 2 ^ m) = ((q / 2 ^ m : Nat) : Int) := by norm_cast
  rw [e, Int.tmod_eq_emod_of_nonneg (Int.natCast_nonneg _)]
  generalize q / 2 ^ m = x
  by_cases h : x % 2 = 1
  · rw [decide_eq_true h, beq_iff_eq]
    omega
  · rw [decide_eq_false h, beq_eq_false_iff_ne]
    omega
theorem xorI (p a i : Nat) (hp : p < 65536) (ha : a < 512) (hi : i < 8) : bits .xor .u32 (p : Int) ((a : Int) * 2 ^ i % 4294967296) = ((p ^^^ (a <<< i) : Nat) : Int) := by
  have hs : a <<< i < 65536 := by
    rw [Nat.shiftLeft_eq]
    have : 2 ^ i ≤ 2 ^ 7 := Nat.pow_le_pow_right (by decide) (by omega)
    calc a * 2 ^ i ≤ 511 * 2 ^ 7 := Nat.mul_le_mul (by omega) this
      _ < 65536 := by decide
  have e : ((a : Int) * 2 ^ i % 4294967296) = ((a <<< i : Nat) : Int) := by
    rw [Nat.shiftLeft_eq] at hs ⊢
    have e2 : ((a : Int) * 2 ^ i) = ((a * 2 ^ i : Nat) : Int) := by norm_cast
    rw [e2]
    omega
  rw [e, u32_xor_nat _ _ (by omega) (by omega)]
theorem mul_walk (a b : Nat) (ha : a < 256) (hb : b < 256) (w : World) :
    Calls Try.prog 73 #[.int .u8 a, .int .u8 b] w fun e w' => e = .returned (.int .u8 (mulN a b : Nat)) ∧ w' = w := by
  have HA := Aside0.mk (And.intro ha hb)
  have b0 : (0 : Int) ≤ (b : Int) := by omega
  have b1 : (b : Int) < 256 := by omega
  have a0 : (0 : Int) ≤ (a : Int) := by omega
  have a1 : (a : Int) < 256 := by omega
  clear ha hb
  go_enter Try.func73, Try.ntmps73
  go_wp2
  go_loopg [5, 6] 8 (fun gg s5 s6 wr => ∃ i : Nat, i + gg = 8 ∧ s6 = .int .u32 i ∧ s5 = .int .u32 (mAs a b i : Nat) ∧ w = wr)
  case atStart => exact ⟨0, by omega, rfl, rfl, rfl⟩
  case round =>
    obtain ⟨i, hi, rfl, rfl, rfl⟩ := hrel
    have hp := mAs_lt (b := b) HA.out.1 i (by omega)
    obtain ⟨p, hpe⟩ : ∃ p, p = mAs a b i := ⟨_, rfl⟩
    rw [← hpe] at hp ⊢
    have HP := Aside0.mk (And.intro hpe hp)
    clear hpe hp
    cases gk with
    | zero =>
      have hi8 : i = 8 := by omega
      subst hi8
      clear hi
      go_wp2
      go_loopg [5, 7] 8 (fun gg s5 s7 wr => ∃ j : Nat, j + gg = 8 ∧ s7 = .int .u32 ((15 - j : Nat) : Int) ∧ s5 = .int .u32 (mBs p j : Nat) ∧ w = wr)
      case atStart => exact ⟨0, by omega, rfl, rfl, rfl⟩
      case round =>
        obtain ⟨j, hj, rfl, rfl, rfl⟩ := hrel
        have hq := mBs_lt HP.out.2 j
        obtain ⟨q, hqe⟩ : ∃ q, q = mBs p j := ⟨_, rfl⟩
        rw [← hqe] at hq ⊢
        have HQ := Aside0.mk (And.intro hqe hq)
        clear hqe hq
        cases gk with
        | zero =>
          have hj8 : j = 8 := by omega
          subst hj8
          clear hj
          go_wp2
          go_ret
          refine ⟨?_, rfl⟩
          rw [mulN, ← HP.out.1, ← HQ.out.1]
          rfl
        | succ gk2 =>
          obtain ⟨m, hm⟩ : ∃ m, m = 15 - j := ⟨_, rfl⟩
          rw [← hm]
          have m8 : (8 : Int) ≤ (m : Int) := by omega
          have m15 : (m : Int) ≤ 15 := by omega
          have HM := Aside0.mk (And.intro hm hj)
          have hq1 : q < 65536 := HQ.out.2
          have hq0 : (q : Int) < 65536 := by omega
          have hbit := bitI q m
          have hxb : Aside0 (bits .xor .u32 (q : Int) (283 * 2 ^ (m - 8) % 4294967296) = ((q ^^^ (283 <<< (m - 8)) : Nat) : Int)) := ⟨xorI q 283 (m - 8) hq1 (by decide) (by omega)⟩
          have hs1 : Aside0 (((m : Int) - 1) = ((15 - (j + 1) : Nat) : Int)) := ⟨by omega⟩
          clear hm hj hq1
          by_cases hc : q / 2 ^ m % 2 = 1
          · have hbt : ((((q : Int) / 2 ^ m).tmod 2) == 1) = true := by rw [hbit]; exact decide_eq_true hc
            have HE : Aside0 (mBs p (j + 1) = q ^^^ (283 <<< (m - 8))) := ⟨by rw [mBs, ← HQ.out.1, mB, ← HM.out.1, if_pos hc]⟩
            clear hbit hc
            go_wp2
            go_roundg gk2
            case measure => omega
            case rel => exact ⟨j + 1, by have := HM.out.2; omega, by rw [hs1.out], by rw [HE.out, ← hxb.out], rfl⟩
          · have hbt : ((((q : Int) / 2 ^ m).tmod 2) == 1) = false := by rw [hbit]; exact decide_eq_false hc
            have HE : Aside0 (mBs p (j + 1) = q) := ⟨by rw [mBs, ← HQ.out.1, mB, ← HM.out.1, if_neg hc]⟩
            clear hbit hc
            go_wp2
            go_roundg gk2
            case measure => omega
            case rel => exact ⟨j + 1, by have := HM.out.2; omega, by rw [hs1.out], by rw [HE.out], rfl⟩
    | succ gk1 =>
      have hlt : (i : Int) < 8 := by omega
      have hp1 : p < 65536 := HP.out.2
      have hbit := bitI b i
      have hxb : Aside0 (bits .xor .u32 (p : Int) ((a : Int) * 2 ^ i % 4294967296) = ((p ^^^ (a <<< i) : Nat) : Int)) := ⟨xorI p a i hp1 (by have := HA.out.1; omega) (by omega)⟩
      have HI := Aside0.mk hi
      clear hi hp1
      by_cases hc : b / 2 ^ i % 2 = 1
      · have hbt : ((((b : Int) / 2 ^ i).tmod 2) == 1) = true := by rw [hbit]; exact decide_eq_true hc
        have HE : Aside0 (mAs a b (i + 1) = p ^^^ (a <<< i)) := ⟨by rw [mAs, ← HP.out.1, mA, if_pos hc]⟩
        clear hbit hc
        go_wp2
        go_roundg gk1
        case measure => omega
        case rel => exact ⟨i + 1, by have := HI.out; omega, rfl, by rw [HE.out, ← hxb.out], rfl⟩
      · have hbt : ((((b : Int) / 2 ^ i).tmod 2) == 1) = false := by rw [hbit]; exact decide_eq_false hc
        have HE : Aside0 (mAs a b (i + 1) = p) := ⟨by rw [mAs, ← HP.out.1, mA, if_neg hc]⟩
        clear hbit hc
        go_wp2
        go_roundg gk1
        case measure => omega
        case rel => exact ⟨i + 1, by have := HI.out; omega, rfl, by rw [HE.out], rfl⟩
/-- the product of two bytes -/
theorem mul_any (a b : UInt8) (w : World) : Calls Try.prog 73 #[.int .u8 (a.toNat : Int), .int .u8 (b.toNat : Int)] w fun e w' => e = .returned (.int .u8 ((times a b).toNat : Int)) ∧ w' = w := by
  have := mul_walk a.toNat b.toNat a.toNat_lt b.toNat_lt w
  rw [← mul8_toNat, mul8_times] at this
  exact this
end Go.Proofs.Ytdegeodegjmddaa.Given

namespace Go.Proofs.Ytdegeodegjmddaa.Given
open Go.RowKit Go.Proofs.YtdegeodegjmddaaW.PrintWords Go.Proofs.YtdegeodegjmddaaW.PrintLast Go.Proofs.YtdegeodegjmddaaW.PrintMore
open Go.Proofs.Ytdegeodegjmddaa.Row Go.Proofs.Ytdegeodegjmddaa.Aes Go.Proofs.Ytdegeodegjmddaa.Row.At
set_option maxRecDepth 100000
set_option linter.unusedVariables false
set_option linter.unusedSimpArgs false
theorem rot1_all : ∀ n : Nat, n < 256 → bits .or .u8 ((n : Int) * 2 % 256) ((n : Int) / 128) = ((rotl (UInt8.ofNat n) 1).toNat : Int) := by decide +kernel
theorem rot2_all : ∀ n : Nat, n < 256 → bits .or .u8 ((n : Int) * 4 % 256) ((n : Int) / 64) = ((rotl (UInt8.ofNat n) 2).toNat : Int) := by decide +kernel
theorem rot3_all : ∀ n : Nat, n < 256 → bits .or .u8 ((n : Int) * 8 % 256) ((n : Int) / 32) = ((rotl (UInt8.ofNat n) 3).toNat : Int) := by decide +kernel
theorem rot4_all : ∀ n : Nat, n < 256 → bits .or .u8 ((n : Int) * 16 % 256) ((n : Int) / 16) = ((rotl (UInt8.ofNat n) 4).toNat : Int) := by decide +kernel
theorem turned_1 (x : UInt8) (w : World) : Calls Try.prog 84 #[.int .u8 (x.toNat : Int), .int .u32 1] w fun e w' => e = .returned (.int .u8 ((rotl x 1).toNat : Int)) ∧ w' = w := by
  have h := rot1_all x.toNat x.toNat_lt
  rw [UInt8.ofNat_toNat] at h
  have H := Aside0.mk h
  clear h
  go_enter Try.func84, Try.ntmps84
  go_wp2
  go_ret
  exact ⟨by rw [← H.out]; rfl, rfl⟩
theorem turnedA_2 (x : UInt8) (w : World) : Calls Try.prog 84 #[.int .u8 (x.toNat : Int), .int .u32 2] w fun e w' => e = .returned (.int .u8 ((rotl x 2).toNat : Int)) ∧ w' = w := by
  have h := rot2_all x.toNat x.toNat_lt
  rw [UInt8.ofNat_toNat] at h
  have H := Aside0.mk h
  clear h
  go_enter Try.func84, Try.ntmps84
  go_wp2
  go_ret
  exact ⟨by rw [← H.out]; rfl, rfl⟩
theorem turned_3 (x : UInt8) (w : World) : Calls Try.prog 84 #[.int .u8 (x.toNat : Int), .int .u32 3] w fun e w' => e = .returned (.int .u8 ((rotl x 3).toNat : Int)) ∧ w' = w := by
  have h := rot3_all x.toNat x.toNat_lt
  rw [UInt8.ofNat_toNat] at h
  have H := Aside0.mk h
  clear h
  go_enter Try.func84, Try.ntmps84
  go_wp2
  go_ret
  exact ⟨by rw [← H.out]; rfl, rfl⟩
theorem turned_4 (x : UInt8) (w : World) : Calls Try.prog 84 #[.int .u8 (x.toNat : Int), .int .u32 4] w fun e w' => e = .returned (.int .u8 ((rotl x 4).toNat : Int)) ∧ w' = w := by
  have h := rot4_all x.toNat x.toNat_lt
  rw [UInt8.ofNat_toNat] at h
  have H := Aside0.mk h
  clear h
  go_enter Try.func84, Try.ntmps84
  go_wp2
  go_ret
  exact ⟨by rw [← H.out]; rfl, rfl⟩
/-- the last number below x whose product with a is 1 -/
def invM (a : Nat) : Nat → Nat
  | 0 => 0
  | x + 1 => if mulN a x = 1 then x else invM a x
theorem invM_lt (a : Nat) : ∀ x, x ≤ 256 → invM a x < 256
  | 0, _ => by simp [invM]
  | x + 1, h => by
    rw [invM]
    split
    · omega
    · exact invM_lt a x (by omega)
def invU (a : UInt8) : UInt8 := UInt8.ofNat (invM a.toNat 256)
theorem standIn_any (a : UInt8) (w : World) : Calls Try.prog 78 #[.int .u8 (a.toNat : Int)] w fun e w' => e = .returned (.int .u8 ((standIn (invU a)).toNat : Int)) ∧ w' = w := by
  have HQ : Aside0 (((invM a.toNat 256 : Nat) : Int) = ((invU a).toNat : Int)) := ⟨by
    rw [invU, UInt8.toNat_ofNat']
    have := invM_lt a.toNat 256 (Nat.le_refl _)
    omega⟩
  have HS : Aside0 (((standIn (invU a)).toNat : Int) = bits .xor .u8 (bits .xor .u8 (bits .xor .u8 (bits .xor .u8 (bits .xor .u8 ((invU a).toNat : Int) ((rotl (invU a) 1).toNat : Int)) ((rotl (invU a) 2).toNat : Int)) ((rotl (invU a) 3).toNat : Int)) ((rotl (invU a) 4).toNat : Int)) 99) := ⟨by
    rw [show (99 : Int) = ((99 : UInt8).toNat : Int) from rfl, u8x, u8x, u8x, u8x, u8x]
    rfl⟩
  obtain ⟨A, hA⟩ : ∃ A, A = a.toNat := ⟨_, rfl⟩
  have ha : A < 256 := by rw [hA]; exact a.toNat_lt
  have HA := Aside0.mk ha
  rw [← hA] at HQ ⊢
  obtain ⟨q, hq⟩ : ∃ q, q = invU a := ⟨_, rfl⟩
  rw [← hq] at HQ HS ⊢
  have HI0 : Aside0 (invM A 1 = 0) := ⟨by rw [invM]; split <;> simp [invM]⟩
  clear hA ha hq
  go_enter Try.func78, Try.ntmps78
  go_wp2
  go_loopg [3, 4] 255 (fun gg s3 s4 wr => ∃ x : Nat, 1 ≤ x ∧ x + gg = 256 ∧ s4 = .int .i64 x ∧ s3 = .int .u8 (invM A x : Nat) ∧ w = wr)
  case atStart => exact ⟨1, by omega, by omega, rfl, by rw [HI0.out]; rfl, rfl⟩
  case round =>
    obtain ⟨x, hx1, hx, rfl, rfl, rfl⟩ := hrel
    cases gk with
    | zero =>
      have hx2 : x = 256 := by omega
      subst hx2
      rw [HQ.out]
      clear hx hx1
      go_wp2_with (go_at_call 84; (first | (with_reducible refine (turned_1 _ _).mono ?_) | (with_reducible refine (turnedA_2 _ _).mono ?_) | (with_reducible refine (turned_3 _ _).mono ?_) | (with_reducible refine (turned_4 _ _).mono ?_)); rintro e w' ⟨rfl, rfl⟩)
      go_ret
      exact ⟨by rw [HS.out]; rfl, rfl⟩
    | succ gk1 =>
      have hlt : (x : Int) < 256 := by omega
      have h0x : (0 : Int) ≤ (x : Int) := by omega
      obtain ⟨m, hm⟩ : ∃ m, m = mulN A x := ⟨_, rfl⟩
      have HM : Aside0 (∀ w, Calls Try.prog 73 #[.int .u8 (A : Int), .int .u8 (x : Int)] w fun e w' => e = .returned (.int .u8 (m : Int)) ∧ w' = w) := ⟨fun w => by rw [hm]; exact mul_walk A x HA.out (by omega) w⟩
      have HX := Aside0.mk (And.intro hx hx1)
      have HMM := Aside0.mk hm
      clear hx hx1 hm
      by_cases h1 : m = 1
      · have HE : Aside0 (invM A (x + 1) = x) := ⟨by rw [invM, ← HMM.out, if_pos h1]⟩
        have hb : ((m : Int) == 1) = true := by rw [h1]; rfl
        clear h1
        go_wp2_with (go_at_call 73; (with_reducible refine (HM.out _).mono ?_); rintro e w' ⟨rfl, rfl⟩)
        go_roundg gk1
        case measure => omega
        case rel => exact ⟨x + 1, by omega, by have := HX.out; omega, rfl, by rw [HE.out], rfl⟩
      · have HE : Aside0 (invM A (x + 1) = invM A x) := ⟨by rw [invM, ← HMM.out, if_neg h1]⟩
        have hb : ((m : Int) == 1) = false := by rw [beq_eq_false_iff_ne]; omega
        clear h1
        go_wp2_with (go_at_call 73; (with_reducible refine (HM.out _).mono ?_); rintro e w' ⟨rfl, rfl⟩)
        go_roundg gk1
        case measure => omega
        case rel => exact ⟨x + 1, by omega, by have := HX.out; omega, rfl, by rw [HE.out], rfl⟩
/-! the stand-ins are the program's -/
theorem pq_inv_all : ∀ n : Nat, n < 255 → ((pqs 255 (1, 1))[n]?).map (fun x => decide (times x.2 x.1 = 1)) = some true := by decide +kernel
theorem pq_cover_all : ∀ n : Nat, n < 256 → n ≠ 0 → ((pqs 254 (1, 1)).any fun x => x.1.toNat == n) = true := by decide +kernel
theorem sbox_pq_all : ((pqs 254 (1, 1)).all fun x => gb sbox x.1.toNat == standIn x.2) = true := by decide +kernel
theorem sbox_zero : gb sbox 0 = standIn 0 := by decide +kernel
theorem times_one_all : ∀ n : Nat, n < 256 → times 1 (UInt8.ofNat n) = UInt8.ofNat n := by decide +kernel
theorem times_one (x : UInt8) : times 1 x = x := by
  have := times_one_all x.toNat x.toNat_lt
  rwa [UInt8.ofNat_toNat] at this
theorem inv_unique (a q x : UInt8) (hq : times q a = 1) (hx : times a x = 1) : x = q := by
  rw [← times_one x, ← hq, times_assoc, hx, times_comm, times_one]
theorem invM_hit (a q : Nat) (hq : q < 256) (h : mulN a q = 1) (hu : ∀ x, x < 256 → mulN a x = 1 → x = q) : ∀ x, x ≤ 256 → invM a x = if q < x then q else 0
  | 0, _ => by simp [invM]
  | x + 1, hx => by
    rw [invM]
    by_cases h1 : mulN a x = 1
    · rw [if_pos h1, hu x (by omega) h1, if_pos (by omega)]
    · rw [if_neg h1, invM_hit a q hq h hu x (by omega)]
      have hne : q ≠ x := fun e => h1 (by rw [← e]; exact h)
      by_cases h2 : q < x
      · rw [if_pos h2, if_pos (by omega)]
      · rw [if_neg h2, if_neg (by omega)]
theorem invM_miss (a : Nat) (hu : ∀ x, x < 256 → mulN a x ≠ 1) : ∀ x, x ≤ 256 → invM a x = 0
  | 0, _ => rfl
  | x + 1, hx => by rw [invM, if_neg (hu x (by omega)), invM_miss a hu x (by omega)]
theorem mulN_times (a x : Nat) (ha : a < 256) (hx : x < 256) : mulN a x = (times (UInt8.ofNat a) (UInt8.ofNat x)).toNat := by
  rw [← mul8_times, mul8_toNat, UInt8.toNat_ofNat', UInt8.toNat_ofNat', Nat.mod_eq_of_lt ha, Nat.mod_eq_of_lt hx]
theorem sbox_any (a : UInt8) : gb sbox a.toNat = standIn (invU a) := by
  by_cases h0 : a.toNat = 0
  · have ha : a = 0 := UInt8.toNat_inj.1 h0
    have e : invU a = 0 := by
      rw [invU, ha, show (0 : UInt8).toNat = 0 from rfl, invM_miss 0 (fun x hx => ?_) 256 (Nat.le_refl _)]
      · rfl
      · rw [mulN_times 0 x (by decide) hx, show UInt8.ofNat 0 = 0 from rfl, times_zero_l]
        decide
    rw [e, h0, sbox_zero]
  · obtain ⟨x, hx, hxa⟩ := List.any_eq_true.1 (pq_cover_all a.toNat a.toNat_lt h0)
    have hs := List.all_eq_true.1 sbox_pq_all x hx
    have hxa2 : x.1 = a := UInt8.toNat_inj.1 (by simpa using hxa)
    obtain ⟨n, hn, hxn⟩ := List.getElem_of_mem hx
    have hn2 : n < 255 := by
      have hl : ∀ n y, (pqs n y).length = n + 1 := by
        intro n
        induction n with
        | zero => intro y; rfl
        | succ n ih => intro y; rw [pqs, List.length_cons, ih]
      rw [hl] at hn
      omega
    have hinv := pq_inv_all n hn2
    have hget : (pqs 255 (1, 1))[n]? = some x := by
      have h1 := pqs_at 255 n (by omega) 0
      have h2 := pqs_at 254 n (by omega) 0
      rw [show pq 0 = (1, 1) from rfl] at h1 h2
      rw [h1, ← h2, List.getElem?_eq_getElem hn, hxn]
    rw [hget] at hinv
    have hq : times x.2 a = 1 := by rw [← hxa2]; simpa using hinv
    have hq2 : times a x.2 = 1 := by rw [times_comm]; exact hq
    have hm : invM a.toNat 256 = x.2.toNat := by
      rw [invM_hit a.toNat x.2.toNat x.2.toNat_lt ?_ ?_ 256 (Nat.le_refl _), if_pos x.2.toNat_lt]
      · rw [mulN_times _ _ a.toNat_lt x.2.toNat_lt, UInt8.ofNat_toNat, UInt8.ofNat_toNat, hq2]
        rfl
      · intro y hy hy1
        rw [mulN_times _ _ a.toNat_lt hy, UInt8.ofNat_toNat] at hy1
        have hy2 : times a (UInt8.ofNat y) = 1 := UInt8.toNat_inj.1 hy1
        have := inv_unique a x.2 _ hq hy2
        rw [← this, UInt8.toNat_ofNat', Nat.mod_eq_of_lt hy]
    have e : invU a = x.2 := by rw [invU, hm, UInt8.ofNat_toNat]
    rw [e, ← hxa2]
    simpa using hs
theorem sbox_length : sbox.length = 256 := by
  show ((standCells.drop 240).take 256).length = 256
  rw [List.length_take, List.length_drop, standCells_length]
  rfl
/-- all stand-ins -/
theorem table_any (w : World) : Calls Try.prog 71 #[] w fun e w' => ∃ g cap, e = .returned (.slice (some ⟨g, 0, none⟩) 256 cap) ∧ Row.Own w' w.heap.size 5 (.slice (some ⟨g, 0, none⟩) 256 cap) (b8s sbox) ∧ Below w.heap.size w w' := by
  go_enter Try.func71, Try.ntmps71
  go_wp2
  go_loopg [1, 2] 256 (fun gg s1 s2 wr => ∃ x : Nat, x + gg = 256 ∧ s2 = .int .i64 x ∧ Row.Own wr w.heap.size 5 s1 (b8s (sbox.take x)) ∧ Below w.heap.size w wr)
  case atStart => exact ⟨0, by omega, rfl, Row.Own.nil _ _ _, Below.refl _ _⟩
  case round =>
    obtain ⟨x, hx, rfl, ho, hb⟩ := hrel
    have HO := Aside0.mk ho
    have HB := Aside0.mk hb
    clear ho hb
    cases gk with
    | zero =>
      have hx2 : x = 256 := by omega
      subst hx2
      clear hx
      have hl : (b8s (sbox.take 256)).length = 256 := by rw [b8s_length, List.length_take, sbox_length]; rfl
      obtain ⟨g, cap, rfl, _, _⟩ := HO.out.form hl (by decide)
      have e : sbox.take 256 = sbox := List.take_of_length_le (by rw [sbox_length]; exact Nat.le_refl _)
      rw [e] at HO
      clear hl e
      go_wp2
      go_ret
      exact ⟨g, cap, rfl, HO.out, HB.out⟩
    | succ gk1 =>
      have hlt : (x : Int) < 256 := by omega
      have h0x : (0 : Int) ≤ (x : Int) := by omega
      have hxn : x < 256 := by omega
      have HSI : Aside0 (∀ w, Calls Try.prog 78 #[.int .u8 (x : Int)] w fun e w' => e = .returned (.int .u8 ((gb sbox x).toNat : Int)) ∧ w' = w) := ⟨fun w => by
        have h := standIn_any (UInt8.ofNat x) w
        have e : (UInt8.ofNat x).toNat = x := by rw [UInt8.toNat_ofNat']; omega
        rw [← sbox_any, e] at h
        exact h⟩
      have HXX := Aside0.mk (And.intro hx hxn)
      have HS1 : Aside0 (w.heap.size ≤ wr.heap.size) := ⟨HB.out.size⟩
      have HLL : Aside0 ((b8s (sbox.take x)).length = x) := ⟨by rw [b8s_length, List.length_take, sbox_length]; omega⟩
      clear hx hxn
      go_wp2_with (first
        | (go_at_call 78; (with_reducible refine (HSI.out _).mono ?_); rintro e w' ⟨rfl, rfl⟩)
        | ((with_reducible refine gate_builtin (b := .append) (xs := #[.tmp 7, .tmp 11]) rfl ?_); at_builtin; refine HO.out.push8 HS1.out rfl _ _ rfl rfl rfl (by rw [HLL.out]; have := HXX.out; omega) ?_; intro v7 w2 h7 b7; have n0 := Aside0.mk h7; have n1 := Aside0.mk (HB.out.trans b7); clear HO HB h7 b7; have HO := n0; have HB := n1; clear n0 n1))
      go_roundg gk1
      case measure => omega
      case rel =>
        refine ⟨x + 1, by have := HXX.out; omega, rfl, ?_, HB.out⟩
        have h := HO.out
        have e : sbox.take (x + 1) = sbox.take x ++ [gb sbox x] := by
          have hl : x < sbox.length := by rw [sbox_length]; exact HXX.out.2
          rw [← List.take_append_getElem hl]
          congr 2
          simp [gb, List.getD_eq_getElem?_getD, hl]
        rw [e]
        simpa [b8s, b8] using h
end Go.Proofs.Ytdegeodegjmddaa.Given

namespace Go.Proofs.Ytdegeodegjmddaa.Aes
open Go Go.RowKit Go.Proofs.Ytdegeodegjmddaa.Row Go.Proofs.Ytdegeodegjmddaa.Row.At
set_option maxRecDepth 100000
set_option linter.unusedVariables false
set_option linter.unusedSimpArgs false
theorem gb_take (l : List UInt8) (i j : Nat) (h : j < i) : gb (l.take i) j = gb l j := by
  simp only [gb, List.getD_eq_getElem?_getD, List.getElem?_take, h, if_true]
theorem gb_dropT (l : List UInt8) (q j : Nat) : gb (l.drop q) j = gb l (q + j) := by
  simp only [gb, List.getD_eq_getElem?_getD, List.getElem?_drop]
theorem take4 (W : List UInt8) (p : Nat) (h : p + 4 ≤ W.length) : (W.drop p).take 4 = [gb W p, gb W (p + 1), gb W (p + 2), gb W (p + 3)] := by
  refine ext8 (by rw [List.length_take, List.length_drop]; simp; omega) fun j hj => ?_
  have hj4 : j < 4 := by rw [List.length_take] at hj; omega
  rw [gb_take _ _ _ hj4, gb_dropT]
  rcases j with _ | _ | _ | _ | j
  · rfl
  · rfl
  · rfl
  · rfl
  · omega
theorem fill4 (a b c d : UInt8) (f : Nat → UInt8) : fill [a, b, c, d] 0 f 4 = [f 0, f 1, f 2, f 3] := rfl
theorem subF_sbox (w : List UInt8) (k : Nat) : subF w k = gb sbox (gb w k).toNat := by
  have h := (gb w k).toNat_lt
  rw [subF, sbox, gb_take _ _ _ (by omega), gb_dropT]
theorem fill_take (W : List UInt8) (b : Nat) (f : Nat → UInt8) (h : b + 4 ≤ W.length) : (fill W b f 4).take (b + 4) = W.take b ++ (List.range 4).map f := by
  refine ext8 (by rw [List.length_take, fill_length, List.length_append, List.length_take]; simp; omega) fun j hj => ?_
  have hj4 : j < b + 4 := by rw [List.length_take] at hj; omega
  rw [gb_take _ _ _ hj4]
  by_cases hb : j < b
  · rw [fill_out W b f j 4 (.inl hb)]
    have : (W.take b).length = b := by rw [List.length_take]; omega
    simp only [gb, List.getD_eq_getElem?_getD]
    rw [List.getElem?_append_left (by omega), List.getElem?_take, if_pos hb]
  · rw [fill_in W b f j 4 (by omega) hj4 (by omega)]
    have hl : (W.take b).length = b := by rw [List.length_take]; omega
    simp only [gb, List.getD_eq_getElem?_getD]
    rw [List.getElem?_append_right (by omega), hl]
    have : j - b < 4 := by omega
    simp [this]
theorem ex_take8 (kb : List UInt8) (hk : kb.length = 32) : ∀ i, i ≤ 8 → (ex kb i).take (4 * i) = kb.take (4 * i)
  | 0, _ => by simp
  | i + 1, h => by
    have ih := ex_take8 kb hk i (by omega)
    have hl := ex_length kb hk i (by omega)
    rw [ex, if_pos (by omega)]
    have e : i * 4 = 4 * i := by omega
    rw [e]
    have hm : ((kb.drop (4 * i)).take 4).length = 4 := by rw [List.length_take, List.length_drop, hk]; omega
    have ht : ((ex kb i).take (4 * i)).length = 4 * i := by rw [List.length_take, hl]; omega
    rw [spl, show 4 * (i + 1) = 4 * i + 4 by omega]
    rw [List.take_append, List.take_of_length_le (by rw [List.length_append, ht, hm]; omega)]
    rw [List.length_append, ht, hm, Nat.sub_self, List.take_zero, List.append_nil, ih, List.take_add]
theorem ex_eight (kb : List UInt8) (hk : kb.length = 32) : (ex kb 8).take (4 * 8) = kb := by
  rw [ex_take8 kb hk 8 (Nat.le_refl _), List.take_of_length_le (by omega)]
theorem ex_next (kb : List UInt8) (hk : kb.length = 32) (n : Nat) (h8 : 8 ≤ n) (hn : n < 60) : (ex kb (n + 1)).take (4 * (n + 1)) = (ex kb n).take (4 * n) ++ (List.range 4).map (nextF (ex kb n) n) := by
  have hl := ex_length kb hk n (by omega)
  rw [ex, if_neg (by omega), show n * 4 = 4 * n by omega, show 4 * (n + 1) = 4 * n + 4 by omega]
  exact fill_take _ _ _ (by omega)
/-- the word ahead, by its four bytes -/
theorem wordA_four (W : List UInt8) (n p : Nat) (hp : p + 4 = 4 * n) (hl : 4 * n ≤ W.length) : wordA W n = [gb W p, gb W (p + 1), gb W (p + 2), gb W (p + 3)] := by
  have e : (n - 1) * 4 = p := by omega
  rw [wordA, e]
  exact take4 W p (by omega)
theorem wordD_0 (W : List UInt8) (n p : Nat) (hp : p + 4 = 4 * n) (hl : 4 * n ≤ W.length) (h : n % 8 = 0) :
    wordD W n = [gb sbox (gb W (p + 1)).toNat ^^^ pow ((n - 1) / 8), gb sbox (gb W (p + 2)).toNat, gb sbox (gb W (p + 3)).toNat, gb sbox (gb W p).toNat] := by
  have hB : wordB W n = [gb W (p + 1), gb W (p + 2), gb W (p + 3), gb W p] := by
    rw [wordB, if_pos h, wordA_four W n p hp hl]
    rfl
  have hC : wordC W n = [gb sbox (gb W (p + 1)).toNat, gb sbox (gb W (p + 2)).toNat, gb sbox (gb W (p + 3)).toNat, gb sbox (gb W p).toNat] := by
    rw [wordC, if_pos (by omega), hB, fill4, subF_sbox, subF_sbox, subF_sbox, subF_sbox]
    rfl
  rw [wordD, if_pos h, hC]
  rfl
theorem wordD_4 (W : List UInt8) (n p : Nat) (hp : p + 4 = 4 * n) (hl : 4 * n ≤ W.length) (h : n % 8 = 4) :
    wordD W n = [gb sbox (gb W p).toNat, gb sbox (gb W (p + 1)).toNat, gb sbox (gb W (p + 2)).toNat, gb sbox (gb W (p + 3)).toNat] := by
  have hB : wordB W n = [gb W p, gb W (p + 1), gb W (p + 2), gb W (p + 3)] := by
    rw [wordB, if_neg (by omega), wordA_four W n p hp hl]
  rw [wordD, if_neg (by omega), wordC, if_pos (by omega), hB, fill4, subF_sbox, subF_sbox, subF_sbox, subF_sbox]
  rfl
theorem wordD_else (W : List UInt8) (n p : Nat) (hp : p + 4 = 4 * n) (hl : 4 * n ≤ W.length) (h0 : n % 8 ≠ 0) (h4 : n % 8 ≠ 4) :
    wordD W n = [gb W p, gb W (p + 1), gb W (p + 2), gb W (p + 3)] := by
  rw [wordD, if_neg h0, wordC, if_neg (by omega), wordB, if_neg h0, wordA_four W n p hp hl]
theorem pow_next (n : Nat) (h8 : 8 ≤ n) (h : n % 8 = 0) : pow (n / 8) = times (pow ((n - 1) / 8)) 2 := by
  rw [show n / 8 = (n - 1) / 8 + 1 by omega, pow]
theorem rkey_ex (kb : List UInt8) (hk : kb.length = 32) (n j : Nat) (hn : n < 15) (hj : j < 16) : gb (rkey (cipher kb) n) j = gb (ex kb 60) (16 * n + j) := by
  have hl := ex_length kb hk 60 (Nat.le_refl _)
  rw [rkey, gb_take _ _ _ hj, gb_dropT, cipher, keyCells]
  have hlt : n * 16 + j < ((ex kb 60).take (4 * 60)).length := by rw [List.length_take, hl]; omega
  simp only [gb, List.getD_eq_getElem?_getD]
  rw [List.getElem?_append_left hlt, List.getElem?_take, if_pos (by omega), show n * 16 + j = 16 * n + j by omega]
end Go.Proofs.Ytdegeodegjmddaa.Aes

namespace Go.Proofs.Ytdegeodegjmddaa.Aes
open Go Go.RowKit Go.Proofs.Ytdegeodegjmddaa.Row Go.Proofs.Ytdegeodegjmddaa.Row.At Go.Proofs.Ytdegeodegjmddaa.Given
set_option maxRecDepth 100000
set_option linter.unusedVariables false
set_option linter.unusedSimpArgs false
/-! enciphering -/
theorem Part.len {f : Nat → UInt8} {s l : List UInt8} {i : Nat} (h : Part f s i l) : l.length = 16 := h.1
theorem Part.later {f : Nat → UInt8} {s l : List UInt8} {i j : Nat} (h : Part f s i l) (hj : j < 16) (hij : i ≤ j) : gb l j = gb s j := by rw [h.2 j hj, if_neg (by omega)]
def subRow (s : List UInt8) (j : Nat) : UInt8 := gb sbox (gb s (j % 4 + 4 * ((j / 4 + j % 4) % 4))).toNat
theorem subRow_all (s : List UInt8) : mk16 (subRow s) = rowL (swapL s sbox) 1 := by
  refine ext8 (by rw [mk16_length, rowL, mk16_length]) fun j hj => ?_
  rw [mk16_length] at hj
  rw [mk16_at _ j hj, rowL, mk16_at _ j hj, rowF, swapL, mk16_at _ _ (by omega), swapF, subRow, Nat.mul_one]
def keyF (W x : List UInt8) (n j : Nat) : UInt8 := gb x j ^^^ gb W (16 * n + j)
theorem keyF_all (kb x : List UInt8) (hk : kb.length = 32) (n : Nat) (hn : n < 15) : mk16 (keyF (ex kb 60) x n) = withL x (rkey (cipher kb) n) := by
  refine ext8 (by rw [mk16_length, withL, mk16_length]) fun j hj => ?_
  rw [mk16_length] at hj
  rw [mk16_at _ j hj, withL, mk16_at _ j hj, withF, keyF, rkey_ex kb hk n j hn hj]
theorem enc_0 (kb s : List UInt8) : encRound (cipher kb) s 0 = withL s (rkey (cipher kb) 0) := rfl
theorem enc_mid (kb s : List UInt8) (hk : kb.length = 32) (n : Nat) (h0 : 1 ≤ n) (hn : n < 14) : encRound (cipher kb) s n = withL (colL (rowL (swapL s sbox) 1) encB) (rkey (cipher kb) n) := by
  rw [encRound, encCol, if_neg (by omega), encMix, if_neg (by omega), toT_cipher kb hk]
  rfl
theorem enc_last (kb s : List UInt8) (hk : kb.length = 32) : encRound (cipher kb) s 14 = withL (rowL (swapL s sbox) 1) (rkey (cipher kb) 14) := by
  rw [encRound, encCol, if_pos (by omega), encMix, if_neg (by omega), toT_cipher kb hk]
theorem times_one_r (x : UInt8) : times x 1 = x := by rw [times_comm, times_one]
theorem colF_at (x by_ : List UInt8) (c r : Nat) (hr : r < 4) : colF x by_ (4 * c + r) = col4 (fun k => gb x (4 * c + k)) by_ r := by
  rw [colF_eq, show (4 * c + r) / 4 = c by omega, show (4 * c + r) % 4 = r by omega]
theorem enc_c0 (x : List UInt8) (c : Nat) : colF x encB (4 * c) = times 2 (gb x (4 * c)) ^^^ times 3 (gb x (4 * c + 1)) ^^^ gb x (4 * c + 2) ^^^ gb x (4 * c + 3) := by
  have := colF_at x encB c 0 (by decide)
  rw [Nat.add_zero] at this
  rw [this]
  show times _ 2 ^^^ times _ 3 ^^^ times _ 1 ^^^ times _ 1 = _
  rw [times_one_r, times_one_r, times_comm _ 2, times_comm _ 3]
  rfl
theorem enc_c1 (x : List UInt8) (c : Nat) : colF x encB (4 * c + 1) = gb x (4 * c) ^^^ times 2 (gb x (4 * c + 1)) ^^^ times 3 (gb x (4 * c + 2)) ^^^ gb x (4 * c + 3) := by
  rw [colF_at x encB c 1 (by decide)]
  show times _ 1 ^^^ times _ 2 ^^^ times _ 3 ^^^ times _ 1 = _
  rw [times_one_r, times_one_r, times_comm _ 2, times_comm _ 3]
  rfl
theorem enc_c2 (x : List UInt8) (c : Nat) : colF x encB (4 * c + 2) = gb x (4 * c) ^^^ gb x (4 * c + 1) ^^^ times 2 (gb x (4 * c + 2)) ^^^ times 3 (gb x (4 * c + 3)) := by
  rw [colF_at x encB c 2 (by decide)]
  show times _ 1 ^^^ times _ 1 ^^^ times _ 2 ^^^ times _ 3 = _
  rw [times_one_r, times_one_r, times_comm _ 2, times_comm _ 3]
  rfl
theorem enc_c3 (x : List UInt8) (c : Nat) : colF x encB (4 * c + 3) = times 3 (gb x (4 * c)) ^^^ gb x (4 * c + 1) ^^^ gb x (4 * c + 2) ^^^ times 2 (gb x (4 * c + 3)) := by
  rw [colF_at x encB c 3 (by decide)]
  show times _ 3 ^^^ times _ 1 ^^^ times _ 1 ^^^ times _ 2 = _
  rw [times_one_r, times_one_r, times_comm _ 2, times_comm _ 3]
  rfl
/-! deciphering -/
theorem dec_c0 (x : List UInt8) (c : Nat) : colF x decB (4 * c) = times 14 (gb x (4 * c)) ^^^ times 11 (gb x (4 * c + 1)) ^^^ times 13 (gb x (4 * c + 2)) ^^^ times 9 (gb x (4 * c + 3)) := by
  have := colF_at x decB c 0 (by decide)
  rw [Nat.add_zero] at this
  rw [this]
  show times _ 14 ^^^ times _ 11 ^^^ times _ 13 ^^^ times _ 9 = _
  rw [times_comm _ 14, times_comm _ 11, times_comm _ 13, times_comm _ 9]
  rfl
theorem dec_c1 (x : List UInt8) (c : Nat) : colF x decB (4 * c + 1) = times 9 (gb x (4 * c)) ^^^ times 14 (gb x (4 * c + 1)) ^^^ times 11 (gb x (4 * c + 2)) ^^^ times 13 (gb x (4 * c + 3)) := by
  rw [colF_at x decB c 1 (by decide)]
  show times _ 9 ^^^ times _ 14 ^^^ times _ 11 ^^^ times _ 13 = _
  rw [times_comm _ 14, times_comm _ 11, times_comm _ 13, times_comm _ 9]
  rfl
theorem dec_c2 (x : List UInt8) (c : Nat) : colF x decB (4 * c + 2) = times 13 (gb x (4 * c)) ^^^ times 9 (gb x (4 * c + 1)) ^^^ times 14 (gb x (4 * c + 2)) ^^^ times 11 (gb x (4 * c + 3)) := by
  rw [colF_at x decB c 2 (by decide)]
  show times _ 13 ^^^ times _ 9 ^^^ times _ 14 ^^^ times _ 11 = _
  rw [times_comm _ 14, times_comm _ 11, times_comm _ 13, times_comm _ 9]
  rfl
theorem dec_c3 (x : List UInt8) (c : Nat) : colF x decB (4 * c + 3) = times 11 (gb x (4 * c)) ^^^ times 13 (gb x (4 * c + 1)) ^^^ times 9 (gb x (4 * c + 2)) ^^^ times 14 (gb x (4 * c + 3)) := by
  rw [colF_at x decB c 3 (by decide)]
  show times _ 11 ^^^ times _ 13 ^^^ times _ 9 ^^^ times _ 14 = _
  rw [times_comm _ 14, times_comm _ 11, times_comm _ 13, times_comm _ 9]
  rfl
theorem dec_first (kb s : List UInt8) (hk : kb.length = 32) : decRound (cipher kb) s 0 = swapL (rowL (withL s (rkey (cipher kb) 14)) 3) inv := by
  rw [decRound, decMix, if_neg (by omega), decCol, if_pos (by omega), fromT_cipher kb hk]
theorem dec_mid (kb s : List UInt8) (hk : kb.length = 32) (m : Nat) (h0 : 1 ≤ m) (hm : m < 14) : decRound (cipher kb) s (14 - m) = swapL (rowL (colL (withL s (rkey (cipher kb) m)) decB) 3) inv := by
  rw [decRound, show 14 - (14 - m) = m by omega, decMix, if_neg (by omega), decCol, if_neg (by omega), fromT_cipher kb hk]
  rfl
theorem dec_end (kb s : List UInt8) : decRound (cipher kb) s 14 = withL s (rkey (cipher kb) 0) := rfl
def dst (i : Nat) : Nat := i % 4 + 4 * ((i / 4 + i % 4) % 4)
theorem dst_lt (i : Nat) (h : i < 16) : dst i < 16 := by unfold dst; omega
theorem dst_inj : ∀ i : Nat, i < 16 → ∀ j : Nat, j < 16 → dst i = dst j → i = j := by decide
theorem dst_src : ∀ j : Nat, j < 16 → dst (j % 4 + 4 * ((j / 4 + j % 4 * 3) % 4)) = j := by decide
/-- What the loop that goes back through the rows has made so far. -/
def PartD (s : List UInt8) (i : Nat) (l : List UInt8) : Prop := l.length = 16 ∧ ∀ k, k < i → gb l (dst k) = gb inv (gb s k).toNat
theorem PartD.start (s : List UInt8) : PartD s 0 (List.replicate 16 0) := ⟨by simp, fun k h => by omega⟩
theorem PartD.next {s l : List UInt8} {i : Nat} (h : PartD s i l) (hi : i < 16) : PartD s (i + 1) (l.set (dst i) (gb inv (gb s i).toNat)) := by
  refine ⟨by rw [List.length_set]; exact h.1, fun k hk => ?_⟩
  rw [gb_set _ _ _ _ (by rw [h.1]; exact dst_lt i hi)]
  by_cases e : i = k
  · subst e; rw [if_pos rfl]
  · rw [if_neg (fun e2 => e (dst_inj i hi k (by omega) e2)), h.2 k (by omega)]
theorem PartD.done {s l : List UInt8} (h : PartD s 16 l) : l = swapL (rowL s 3) inv := by
  refine ext8 (by rw [h.1, swapL_length]) fun j hj => ?_
  rw [h.1] at hj
  rw [swapL, mk16_at _ j hj, swapF, rowL, mk16_at _ j hj, rowF]
  have h1 := h.2 (j % 4 + 4 * ((j / 4 + j % 4 * 3) % 4)) (by omega)
  rw [dst_src j hj] at h1
  exact h1
theorem inv_length : inv.length = 256 := by
  show ((standCells.drop 496).take 256).length = 256
  rw [List.length_take, List.length_drop, standCells_length]
  rfl
theorem sbox_inj (a b : UInt8) (h : gb sbox a.toNat = gb sbox b.toNat) : a = b := by
  rw [← inv_sbox a, h, inv_sbox b]
/-- What the loop over all stand-ins has turned back so far. -/
def PartB (i : Nat) (l : List UInt8) : Prop := l.length = 256 ∧ ∀ k, k < i → gb l (gb sbox k).toNat = UInt8.ofNat k
theorem PartB.start : PartB 0 (List.replicate 256 0) := ⟨by simp, fun k h => by omega⟩
theorem PartB.next {l : List UInt8} {i : Nat} (h : PartB i l) (hi : i < 256) : PartB (i + 1) (l.set (gb sbox i).toNat (UInt8.ofNat i)) := by
  refine ⟨by rw [List.length_set]; exact h.1, fun k hk => ?_⟩
  rw [gb_set _ _ _ _ (by rw [h.1]; exact (gb sbox i).toNat_lt)]
  by_cases e : i = k
  · subst e; rw [if_pos rfl]
  · rw [if_neg (fun e2 => e ?_), h.2 k (by omega)]
    have e3 : gb sbox (UInt8.ofNat i).toNat = gb sbox (UInt8.ofNat k).toNat := by
      rw [UInt8.toNat_ofNat', UInt8.toNat_ofNat', Nat.mod_eq_of_lt hi, Nat.mod_eq_of_lt (by omega)]
      exact UInt8.toNat_inj.1 e2
    have e4 := congrArg UInt8.toNat (sbox_inj _ _ e3)
    rw [UInt8.toNat_ofNat', UInt8.toNat_ofNat', Nat.mod_eq_of_lt hi, Nat.mod_eq_of_lt (by omega)] at e4
    exact e4
theorem PartB.done {l : List UInt8} (h : PartB 256 l) : l = inv := by
  refine ext8 (by rw [h.1, inv_length]) fun j hj => ?_
  rw [h.1] at hj
  have e := (inv_sbox_all j hj).2
  have h1 := h.2 (gb inv j).toNat (gb inv j).toNat_lt
  rw [e, UInt8.toNat_ofNat', Nat.mod_eq_of_lt hj, UInt8.ofNat_toNat] at h1
  exact h1
end Go.Proofs.Ytdegeodegjmddaa.Aes
