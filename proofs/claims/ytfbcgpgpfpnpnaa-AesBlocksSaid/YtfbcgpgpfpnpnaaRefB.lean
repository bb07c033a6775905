/- The contract of hamperref09.Mul. Conditions: none. -/
import Derived.Test.YtfbcgpgpfpnpnaaRefA
import Derived.Test.YtfbcgpgpfpnpnaaBuf
namespace Go.Proofs.Ytfbcgpgpfpnpnaa.Given
open Go.RowKit Go.Proofs.YtfbcgpgpfpnpnaaW.PrintWords Go.Proofs.YtfbcgpgpfpnpnaaW.PrintLast Go.Proofs.YtfbcgpgpfpnpnaaW.PrintMore
open Go.Proofs.Ytfbcgpgpfpnpnaa.Row Go.Proofs.Ytfbcgpgpfpnpnaa.Aes Go.Proofs.Ytfbcgpgpfpnpnaa.Row.At
set_option maxRecDepth 100000
set_option linter.unusedVariables false
set_option linter.unusedSimpArgs false
theorem bitI (q m : Nat) : ((((q : Int) / 2 ^ m).tmod 2) == 1) = decide (q / 2 ^ m % 2 = 1) := by
  have e : ((q : Int) / 2 ^ m) = ((q / 2 ^ m : Nat) : Int) := by norm_cast
  rw [e, Int.tmod_eq_emod_of_nonneg (Int.natCast_nonneg _)]
  generalize q / 2 ^ m = x
  by_cases h : x % 2 = 1
  · rw [decide_eq_true h, beq_iff_eq]
    omega
  · rw [decide_eq_false h, beq_eq_false_iff_ne]
    omega
theorem xorI (p a i : Nat) (hp : p < 65536) (ha : a < 512) (hi : i < 8) : bits .xor .u32 (p : Int) ((a : Int) * 2 ^ i % 4294967296) = ((p ^^^ (a <<< i) : Nat) : Int) := by
  have hs : a <<< i < 65536 := by
    rw [Nat.shiftLeft_eq]
    have : 2 ^ i ≤ 2 ^ 7 := Nat.pow_le_pow_right (by decide) (by omega)
    calc a * 2 ^ i ≤ 511 * 2 ^ 7 := Nat.mul_le_mul (by omega) this
      _ < 65536 := by decide
  have e : ((a : Int) * 2 ^ i % 4294967296) = ((a <<< i : Nat) : Int) := by
    rw [Nat.shiftLeft_eq] at hs ⊢
    have e2 : ((a : Int) * 2 ^ i) = ((a * 2 ^ i : Nat) : Int) := by norm_cast
    rw [e2]
    omega
  rw [e, u32_xor_nat _ _ (by omega) (by omega)]
theorem mul_walk (a b : Nat) (ha : a < 256) (hb : b < 256) (w : World) :
    Calls Try.prog 40 #[.int .u8 a, .int .u8 b] w fun e w' => e = .returned (.int .u8 (mulN a b : Nat)) ∧ w' = w := by
  have HA := Aside0.mk (And.intro ha hb)
  have b0 : (0 : Int) ≤ (b : Int) := by omega
  have b1 : (b : Int) < 256 := by omega
  have a0 : (0 : Int) ≤ (a : Int) := by omega
  have a1 : (a : Int) < 256 := by omega
  clear ha hb
  go_enter Try.func40, Try.ntmps40
  go_wp2
  go_loopg [5, 6] 8 (fun gg s5 s6 wr => ∃ i : Nat, i + gg = 8 ∧ s6 = .int .u32 i ∧ s5 = .int .u32 (mAs a b i : Nat) ∧ w = wr)
  case atStart => exact ⟨0, by omega, rfl, rfl, rfl⟩
  case round =>
    obtain ⟨i, hi, rfl, rfl, rfl⟩ := hrel
    have hp := mAs_lt (b := b) HA.out.1 i (by omega)
    obtain ⟨p, hpe⟩ : ∃ p, p = mAs a b i := ⟨_, rfl⟩
    rw [← hpe] at hp ⊢
    have HP := Aside0.mk (And.intro hpe hp)
    clear hpe hp
    cases gk with
    | zero =>
      have hi8 : i = 8 := by omega
      subst hi8
      clear hi
      go_wp2
      go_loopg [5, 7] 8 (fun gg s5 s7 wr => ∃ j : Nat, j + gg = 8 ∧ s7 = .int .u32 ((15 - j : Nat) : Int) ∧ s5 = .int .u32 (mBs p j : Nat) ∧ w = wr)
      case atStart => exact ⟨0, by omega, rfl, rfl, rfl⟩
      case round =>
        obtain ⟨j, hj, rfl, rfl, rfl⟩ := hrel
        have hq := mBs_lt HP.out.2 j
        obtain ⟨q, hqe⟩ : ∃ q, q = mBs p j := ⟨_, rfl⟩
        rw [← hqe] at hq ⊢
        have HQ := Aside0.mk (And.intro hqe hq)
        clear hqe hq
        cases gk with
        | zero =>
          have hj8 : j = 8 := by omega
          subst hj8
          clear hj
          go_wp2
          go_ret
          refine ⟨?_, rfl⟩
          rw [mulN, ← HP.out.1, ← HQ.out.1]
          rfl
        | succ gk2 =>
          obtain ⟨m, hm⟩ : ∃ m, m = 15 - j := ⟨_, rfl⟩
          rw [← hm]
          have m8 : (8 : Int) ≤ (m : Int) := by omega
          have m15 : (m : Int) ≤ 15 := by omega
          have HM := Aside0.mk (And.intro hm hj)
          have hq1 : q < 65536 := HQ.out.2
          have hq0 : (q : Int) < 65536 := by omega
          have hbit := bitI q m
          have hxb : Aside0 (bits .xor .u32 (q : Int) (283 * 2 ^ (m - 8) % 4294967296) = ((q ^^^ (283 <<< (m - 8)) : Nat) : Int)) := ⟨xorI q 283 (m - 8) hq1 (by decide) (by omega)⟩
          have hs1 : Aside0 (((m : Int) - 1) = ((15 - (j + 1) : Nat) : Int)) := ⟨by omega⟩
          clear hm hj hq1
          by_cases hc : q / 2 ^ m % 2 = 1
          · have hbt : ((((q : Int) / 2 ^ m).tmod 2) == 1) = true := by rw [hbit]; exact decide_eq_true hc
            have HE : Aside0 (mBs p (j + 1) = q ^^^ (283 <<< (m - 8))) := ⟨by rw [mBs, ← HQ.out.1, mB, ← HM.out.1, if_pos hc]⟩
            clear hbit hc
            go_wp2
            go_roundg gk2
            case measure => omega
            case rel => exact ⟨j + 1, by have := HM.out.2; omega, by rw [hs1.out], by rw [HE.out, ← hxb.out], rfl⟩
          · have hbt : ((((q : Int) / 2 ^ m).tmod 2) == 1) = false := by rw [hbit]; exact decide_eq_false hc
            have HE : Aside0 (mBs p (j + 1) = q) := ⟨by rw [mBs, ← HQ.out.1, mB, ← HM.out.1, if_neg hc]⟩
            clear hbit hc
            go_wp2
            go_roundg gk2
            case measure => omega
            case rel => exact ⟨j + 1, by have := HM.out.2; omega, by rw [hs1.out], by rw [HE.out], rfl⟩
    | succ gk1 =>
      have hlt : (i : Int) < 8 := by omega
      have hp1 : p < 65536 := HP.out.2
      have hbit := bitI b i
      have hxb : Aside0 (bits .xor .u32 (p : Int) ((a : Int) * 2 ^ i % 4294967296) = ((p ^^^ (a <<< i) : Nat) : Int)) := ⟨xorI p a i hp1 (by have := HA.out.1; omega) (by omega)⟩
      have HI := Aside0.mk hi
      clear hi hp1
      by_cases hc : b / 2 ^ i % 2 = 1
      · have hbt : ((((b : Int) / 2 ^ i).tmod 2) == 1) = true := by rw [hbit]; exact decide_eq_true hc
        have HE : Aside0 (mAs a b (i + 1) = p ^^^ (a <<< i)) := ⟨by rw [mAs, ← HP.out.1, mA, if_pos hc]⟩
        clear hbit hc
        go_wp2
        go_roundg gk1
        case measure => omega
        case rel => exact ⟨i + 1, by have := HI.out; omega, rfl, by rw [HE.out, ← hxb.out], rfl⟩
      · have hbt : ((((b : Int) / 2 ^ i).tmod 2) == 1) = false := by rw [hbit]; exact decide_eq_false hc
        have HE : Aside0 (mAs a b (i + 1) = p) := ⟨by rw [mAs, ← HP.out.1, mA, if_neg hc]⟩
        clear hbit hc
        go_wp2
        go_roundg gk1
        case measure => omega
        case rel => exact ⟨i + 1, by have := HI.out; omega, rfl, by rw [HE.out], rfl⟩
/-- the product of two bytes -/
theorem mul_any (a b : UInt8) (w : World) : Calls Try.prog 40 #[.int .u8 (a.toNat : Int), .int .u8 (b.toNat : Int)] w fun e w' => e = .returned (.int .u8 ((times a b).toNat : Int)) ∧ w' = w := by
  have := mul_walk a.toNat b.toNat a.toNat_lt b.toNat_lt w
  rw [← mul8_toNat, mul8_times] at this
  exact this
end Go.Proofs.Ytfbcgpgpfpnpnaa.Given
