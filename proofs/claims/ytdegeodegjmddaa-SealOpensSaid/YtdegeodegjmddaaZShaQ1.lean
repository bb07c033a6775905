/- Contracts of sha's primes, root, square and cube. Conditions: as each theorem names them. Contracts of sha's square, cube, primes. Conditions: as each theorem names them. A hash in memory; the contract of sha.New. Conditions: none. Turns of 32 bits; contracts of sha.turned and sha.down. Conditions: none. -/
import Derived.Test.YtdegeodegjmddaaZRowQ
import Derived.Test.YtdegeodegjmddaaShelf
set_option linter.unusedVariables false
set_option linter.unusedSimpArgs false
namespace Go.Proofs.Ytdegeodegjmddaa.Given
open Go.RowKit Go.Proofs.YtdegeodegjmddaaW.PrintWords Go.Proofs.YtdegeodegjmddaaW.PrintLast Go.Proofs.YtdegeodegjmddaaW.PrintMore
open Go.Proofs.Ytdegeodegjmddaa.Row Go.Proofs.Ytdegeodegjmddaa.Row.At
set_option maxRecDepth 100000
set_option linter.unusedVariables false
set_option linter.unusedSimpArgs false
/-- the first 64 primes -/
def primeL : List Nat := [2, 3, 5, 7, 11, 13, 17, 19, 23, 29, 31, 37, 41, 43, 47, 53, 59, 61, 67, 71, 73, 79, 83, 89, 97, 101, 103, 107, 109, 113, 127, 131, 137, 139, 149, 151, 157, 163, 167, 173, 179, 181, 191, 193, 197, 199, 211, 223, 227, 229, 233, 239, 241, 251, 257, 263, 269, 271, 277, 281, 283, 293, 307, 311]
theorem primeL_length : primeL.length = 64 := rfl
/-- the greatest number of b bits, above x, that is fine -/
def rootN (q : Nat → Bool) : Nat → Nat → Nat
  | 0, x => x
  | b + 1, x => rootN q b (if q (x + 2 ^ b) then x + 2 ^ b else x)
def sqQ (p x : Nat) : Bool := decide (x * x ≤ p * 18446744073709551616)
def cuQ (p x : Nat) : Bool := decide (x * x * x ≤ p * 79228162514264337593543950336)
set_option maxHeartbeats 1000000 in
theorem square1_any (p x g : Nat) (w : World) (hp : p < 4294967296) (hx : x < 68719476736) (hg : At w g 87 [.int .u64 p]) :
    Calls Try.prog 95 #[.int .u64 x, .pointer (some ⟨g, 0, none⟩)] w fun e w' => e = .returned (.bool (sqQ p x)) ∧ w' = w := by
  have c1 := hg.cell 0 _ rfl
  have HM := Aside0.mk (Try.bits_Mul64 x x (by omega) (by omega))
  obtain ⟨hi, hhi⟩ : ∃ hi, hi = x * x / 18446744073709551616 := ⟨_, rfl⟩
  obtain ⟨lo, hlo⟩ : ∃ lo, lo = x * x % 18446744073709551616 := ⟨_, rfl⟩
  rw [← hhi, ← hlo] at HM
  have hsum : x * x = hi * 18446744073709551616 + lo := by omega
  have hll : lo < 18446744073709551616 := by omega
  have hq : sqQ p x = decide (hi < p ∨ hi = p ∧ lo = 0) := by
    unfold sqQ
    rw [hsum]
    apply decide_eq_decide.2
    omega
  have HQ := Aside0.mk hq
  clear hhi hlo hsum hll hq
  by_cases h1 : hi < p
  · have h2 : (hi : Int) < (p : Int) := by omega
    have hr : decide (hi < p ∨ hi = p ∧ lo = 0) = true := decide_eq_true (.inl h1)
    rw [hr] at HQ
    clear hr h1
    go_enter Try.func95, Try.ntmps95
    go_wp2_with (go_at_call 96; refine (HM.out _).mono ?_; rintro e w' ⟨rfl, rfl⟩)
    go_ret
    exact ⟨by rw [HQ.out]; rfl, rfl⟩
  · by_cases h3 : hi = p
    · subst h3
      have h2 : ¬ ((hi : Int) < (hi : Int)) := by omega
      by_cases h4 : lo = 0
      · subst h4
        have hr : decide (hi < hi ∨ hi = hi ∧ 0 = 0) = true := by simp
        rw [hr] at HQ
        clear hr h1
        go_enter Try.func95, Try.ntmps95
        go_wp2_with (go_at_call 96; refine (HM.out _).mono ?_; rintro e w' ⟨rfl, rfl⟩)
        go_ret
        exact ⟨by rw [HQ.out]; rfl, rfl⟩
      · have h5 : ¬ ((lo : Int) = 0) := by omega
        have hr : decide (hi < hi ∨ hi = hi ∧ lo = 0) = false := by simp [h4]
        rw [hr] at HQ
        have E5 := Aside0.mk (beq_eq_false_iff_ne.2 h5)
        clear hr h1 h4
        go_enter Try.func95, Try.ntmps95
        go_wp2_with (go_at_call 96; refine (HM.out _).mono ?_; rintro e w' ⟨rfl, rfl⟩)
        go_ret
        refine ⟨?_, rfl⟩
        rw [HQ.out]
        show Ending.returned (Value.bool ((lo : Int) == 0)) = _
        rw [E5.out]
    · have h2 : ¬ ((hi : Int) < (p : Int)) := by omega
      have h5 : ¬ ((hi : Int) = (p : Int)) := by omega
      have hr : decide (hi < p ∨ hi = p ∧ lo = 0) = false := by simp [h1, h3]
      rw [hr] at HQ
      have E1 := Aside0.mk (decide_eq_false h1)
      clear hr h1 h3
      go_enter Try.func95, Try.ntmps95
      go_wp2_with (go_at_call 96; refine (HM.out _).mono ?_; rintro e w' ⟨rfl, rfl⟩)
      go_ret
      refine ⟨?_, rfl⟩
      rw [HQ.out]
      show Ending.returned (Value.bool (decide (hi < p))) = _
      rw [E1.out]
set_option maxHeartbeats 1000000 in
theorem cube1_any (p x g : Nat) (w : World) (hp : p < 4294967296) (hx : x < 68719476736) (hg : At w g 87 [.int .u64 p]) :
    Calls Try.prog 97 #[.int .u64 x, .pointer (some ⟨g, 0, none⟩)] w fun e w' => e = .returned (.bool (cuQ p x)) ∧ w' = w := by
  have c1 := hg.cell 0 _ rfl
  have HM := Aside0.mk (Try.bits_Mul64 x x (by omega) (by omega))
  obtain ⟨hi, hhi⟩ : ∃ hi, hi = x * x / 18446744073709551616 := ⟨_, rfl⟩
  obtain ⟨lo, hlo⟩ : ∃ lo, lo = x * x % 18446744073709551616 := ⟨_, rfl⟩
  rw [← hhi, ← hlo] at HM
  have hll : lo < 18446744073709551616 := by omega
  have HM2 := Aside0.mk (Try.bits_Mul64 lo x hll (by omega))
  obtain ⟨t0, ht0⟩ : ∃ t0, t0 = lo * x / 18446744073709551616 := ⟨_, rfl⟩
  obtain ⟨low, hlow⟩ : ∃ low, low = lo * x % 18446744073709551616 := ⟨_, rfl⟩
  rw [← ht0, ← hlow] at HM2
  have hsum : x * x = hi * 18446744073709551616 + lo := by omega
  have hsum2 : lo * x = t0 * 18446744073709551616 + low := by omega
  have hsum3 : x * x * x = (hi * x + t0) * 18446744073709551616 + low := by
    rw [hsum, Nat.add_mul, hsum2, Nat.add_mul, Nat.mul_right_comm]
    omega
  have hhi8 : hi < 256 := by
    have : x * x < 68719476736 * 68719476736 := Nat.mul_lt_mul_of_lt_of_lt hx hx
    omega
  have hhx : hi * x < 256 * 68719476736 := Nat.mul_lt_mul_of_lt_of_lt hhi8 hx
  have ht0b : t0 < 68719476736 := by
    have : lo * x < 18446744073709551616 * 68719476736 := Nat.mul_lt_mul_of_lt_of_lt hll hx
    omega
  have hlowb : low < 18446744073709551616 := by omega
  obtain ⟨hx2, hhx2⟩ : ∃ y, y = hi * x := ⟨_, rfl⟩
  rw [← hhx2] at hsum3 hhx
  have hm1 : IntKind.u64.wrap ((hi : Int) * (x : Int)) = (hx2 : Int) := by rw [← Int.natCast_mul, ← hhx2, IntKind.wrap_u64]; omega
  obtain ⟨top, htop⟩ : ∃ top, top = hx2 + t0 := ⟨_, rfl⟩
  have hm2 : IntKind.u64.wrap ((t0 : Int) + (hx2 : Int)) = (top : Int) := by rw [IntKind.wrap_u64]; omega
  have hm3 : IntKind.u64.wrap ((p : Int) * 4294967296) = ((p * 4294967296 : Nat) : Int) := by rw [IntKind.wrap_u64]; omega
  have hq : cuQ p x = decide (top < p * 4294967296 ∨ top = p * 4294967296 ∧ low = 0) := by
    unfold cuQ
    rw [hsum3]
    apply decide_eq_decide.2
    omega
  have HQ := Aside0.mk hq
  obtain ⟨pp, hpp⟩ : ∃ pp, pp = p * 4294967296 := ⟨_, rfl⟩
  rw [← hpp] at hm3 HQ
  clear hhi hlo hsum hsum2 hsum3 hll hq ht0 hlow hhi8 hhx ht0b hlowb hhx2 htop hpp
  by_cases h1 : top < pp
  · have h2 : (top : Int) < (pp : Int) := by omega
    have hr : decide (top < pp ∨ top = pp ∧ low = 0) = true := decide_eq_true (.inl h1)
    rw [hr] at HQ
    clear hr h1
    go_enter Try.func97, Try.ntmps97
    go_wp2_with (first | (go_at_call 96; have n1 := HM.out; clear HM; refine (n1 _).mono ?_; rintro e w' ⟨rfl, rfl⟩; clear n1) | (go_at_call 96; refine (HM2.out _).mono ?_; rintro e w' ⟨rfl, rfl⟩))
    go_ret
    exact ⟨by rw [HQ.out]; rfl, rfl⟩
  · by_cases h3 : top = pp
    · subst h3
      have h2 : ¬ ((top : Int) < (top : Int)) := by omega
      by_cases h4 : low = 0
      · subst h4
        have hr : decide (top < top ∨ top = top ∧ 0 = 0) = true := by simp
        rw [hr] at HQ
        clear hr h1
        go_enter Try.func97, Try.ntmps97
        go_wp2_with (first | (go_at_call 96; have n1 := HM.out; clear HM; refine (n1 _).mono ?_; rintro e w' ⟨rfl, rfl⟩; clear n1) | (go_at_call 96; refine (HM2.out _).mono ?_; rintro e w' ⟨rfl, rfl⟩))
        go_ret
        exact ⟨by rw [HQ.out]; rfl, rfl⟩
      · have h5 : ¬ ((low : Int) = 0) := by omega
        have hr : decide (top < top ∨ top = top ∧ low = 0) = false := by simp [h4]
        rw [hr] at HQ
        have E5 := Aside0.mk (beq_eq_false_iff_ne.2 h5)
        clear hr h1 h4
        go_enter Try.func97, Try.ntmps97
        go_wp2_with (first | (go_at_call 96; have n1 := HM.out; clear HM; refine (n1 _).mono ?_; rintro e w' ⟨rfl, rfl⟩; clear n1) | (go_at_call 96; refine (HM2.out _).mono ?_; rintro e w' ⟨rfl, rfl⟩))
        go_ret
        refine ⟨?_, rfl⟩
        rw [HQ.out]
        show Ending.returned (Value.bool ((low : Int) == 0)) = _
        rw [E5.out]
    · have h2 : ¬ ((top : Int) < (pp : Int)) := by omega
      have h5 : ¬ ((top : Int) = (pp : Int)) := by omega
      have hr : decide (top < pp ∨ top = pp ∧ low = 0) = false := by simp [h1, h3]
      rw [hr] at HQ
      have E1 := Aside0.mk (decide_eq_false h1)
      clear hr h1 h3
      go_enter Try.func97, Try.ntmps97
      go_wp2_with (first | (go_at_call 96; have n1 := HM.out; clear HM; refine (n1 _).mono ?_; rintro e w' ⟨rfl, rfl⟩; clear n1) | (go_at_call 96; refine (HM2.out _).mono ?_; rintro e w' ⟨rfl, rfl⟩))
      go_ret
      refine ⟨?_, rfl⟩
      rw [HQ.out]
      show Ending.returned (Value.bool (decide (top < pp))) = _
      rw [E1.out]
theorem rootN_lt (q : Nat → Bool) : ∀ b x, x % 2 ^ b = 0 → x + 2 ^ b ≤ 2 ^ 36 → rootN q b x < 2 ^ 36 := by
  intro b
  induction b with
  | zero => intro x _ h; simp only [rootN]; omega
  | succ b ih =>
    intro x hm h
    simp only [rootN]
    have e : 2 ^ (b + 1) = 2 ^ b + 2 ^ b := by omega
    have hd : x % 2 ^ b = 0 := by
      obtain ⟨k, hk⟩ := Nat.dvd_of_mod_eq_zero hm
      rw [hk, e, show (2 ^ b + 2 ^ b) * k = 2 ^ b * (2 * k) from by rw [← Nat.two_mul, Nat.mul_comm 2, Nat.mul_assoc], Nat.mul_mod_right]
    split
    · exact ih _ (by rw [Nat.add_mod_right]; exact hd) (by omega)
    · exact ih _ hd (by omega)
set_option maxHeartbeats 1000000 in
theorem root_sq (p g : Nat) (w : World) (hp : p < 4294967296) (hg : At w g 87 [.int .u64 p]) :
    Calls Try.prog 94 #[.func (.func 95) #[] #[.pointer (some ⟨g, 0, none⟩)]] w fun e w' => e = .returned (.int .u64 (rootN (sqQ p) 36 0)) ∧ w' = w := by
  have HP := Aside0.mk hp
  have HG := Aside0.mk hg
  clear hp hg
  obtain ⟨R, hR⟩ : ∃ R, R = rootN (sqQ p) 36 0 := ⟨_, rfl⟩
  rw [← hR]
  have HR := Aside0.mk hR
  clear hR
  go_enter Try.func94, Try.ntmps94
  go_wp2
  go_loopg [3, 4] 36 (fun gg s3 s4 wx => ∃ x : Nat, gg ≤ 36 ∧ s3 = .int .u64 x ∧ s4 = .int .i64 ((gg : Int) - 1) ∧ x + 2 ^ gg ≤ 68719476736 ∧ rootN (sqQ p) gg x = R ∧ wx = w)
  case atStart => exact ⟨0, by omega, rfl, rfl, by decide, HR.out.symm, rfl⟩
  case round =>
    obtain ⟨x, hgg, rfl, rfl, hb, hr, rfl⟩ := hrel
    have HB := Aside0.mk hb
    have HRR := Aside0.mk hr
    clear hb hr
    cases gk with
    | zero =>
      go_wp2
      go_ret
      exact ⟨by rw [← HRR.out]; rfl, rfl⟩
    | succ gk =>
      have q1 : ((gk + 1 : Nat) : Int) - 1 = (gk : Int) := by omega
      rw [q1]
      have q2 : (0 : Int) ≤ (gk : Int) := by omega
      have e2 : 2 ^ (gk + 1) = 2 ^ gk + 2 ^ gk := by omega
      have HE := Aside0.mk e2
      clear e2
      obtain ⟨y, hy⟩ : ∃ y, y = 2 ^ gk := ⟨_, rfl⟩
      have hyb : x + y ≤ 68719476736 - y := by have := HB.out; have := HE.out; omega
      have hy0 : 0 < y := by rw [hy]; exact Nat.pow_pos (by decide)
      obtain ⟨z, hz⟩ : ∃ z, z = x + y := ⟨_, rfl⟩
      have hy1 : IntKind.u64.wrap ((2 : Int) ^ gk) = (y : Int) := by
        have : ((2 : Int) ^ gk) = (y : Int) := by rw [hy]; simp
        rw [this, IntKind.wrap_u64]
        omega
      have hy2 : IntKind.u64.wrap ((x : Int) + (y : Int)) = (z : Int) := by rw [IntKind.wrap_u64]; omega
      have HZ := Aside0.mk hz
      have HY := Aside0.mk hy
      have HYB := Aside0.mk (And.intro hyb hy0)
      have hzlt : z < 68719476736 := by omega
      have HZL := Aside0.mk hzlt
      clear hz hy hyb hy0 hzlt
      cases hfine : sqQ p z
      · have HFI := Aside0.mk hfine
        clear hfine
        go_wp2_with (go_at_call 95; refine (square1_any p z g _ HP.out HZL.out HG.out).mono ?_; rintro e w' ⟨rfl, rfl⟩; rw [HFI.out])
        go_roundg gk
        case measure => omega
        case rel =>
          refine ⟨x, by omega, rfl, by congr 1, by have h1 := HB.out; have h2 := HE.out; have h3 := HYB.out; have h4 := HY.out; omega, ?_, rfl⟩
          rw [← HRR.out]
          simp only [rootN]
          rw [← HY.out, ← HZ.out, HFI.out]
          rfl
      · have HFI := Aside0.mk hfine
        clear hfine
        go_wp2_with (go_at_call 95; refine (square1_any p z g _ HP.out HZL.out HG.out).mono ?_; rintro e w' ⟨rfl, rfl⟩; rw [HFI.out])
        go_roundg gk
        case measure => omega
        case rel =>
          refine ⟨z, by omega, rfl, by congr 1, by have := HB.out; have := HE.out; have := HZ.out; have := HY.out; omega, ?_, rfl⟩
          rw [← HRR.out]
          simp only [rootN]
          rw [← HY.out, ← HZ.out, HFI.out]
          rfl
set_option maxHeartbeats 1000000 in
theorem root_cu (p g : Nat) (w : World) (hp : p < 4294967296) (hg : At w g 87 [.int .u64 p]) :
    Calls Try.prog 94 #[.func (.func 97) #[] #[.pointer (some ⟨g, 0, none⟩)]] w fun e w' => e = .returned (.int .u64 (rootN (cuQ p) 36 0)) ∧ w' = w := by
  have HP := Aside0.mk hp
  have HG := Aside0.mk hg
  clear hp hg
  obtain ⟨R, hR⟩ : ∃ R, R = rootN (cuQ p) 36 0 := ⟨_, rfl⟩
  rw [← hR]
  have HR := Aside0.mk hR
  clear hR
  go_enter Try.func94, Try.ntmps94
  go_wp2
  go_loopg [3, 4] 36 (fun gg s3 s4 wx => ∃ x : Nat, gg ≤ 36 ∧ s3 = .int .u64 x ∧ s4 = .int .i64 ((gg : Int) - 1) ∧ x + 2 ^ gg ≤ 68719476736 ∧ rootN (cuQ p) gg x = R ∧ wx = w)
  case atStart => exact ⟨0, by omega, rfl, rfl, by decide, HR.out.symm, rfl⟩
  case round =>
    obtain ⟨x, hgg, rfl, rfl, hb, hr, rfl⟩ := hrel
    have HB := Aside0.mk hb
    have HRR := Aside0.mk hr
    clear hb hr
    cases gk with
    | zero =>
      go_wp2
      go_ret
      exact ⟨by rw [← HRR.out]; rfl, rfl⟩
    | succ gk =>
      have q1 : ((gk + 1 : Nat) : Int) - 1 = (gk : Int) := by omega
      rw [q1]
      have q2 : (0 : Int) ≤ (gk : Int) := by omega
      have e2 : 2 ^ (gk + 1) = 2 ^ gk + 2 ^ gk := by omega
      have HE := Aside0.mk e2
      clear e2
      obtain ⟨y, hy⟩ : ∃ y, y = 2 ^ gk := ⟨_, rfl⟩
      have hyb : x + y ≤ 68719476736 - y := by have := HB.out; have := HE.out; omega
      have hy0 : 0 < y := by rw [hy]; exact Nat.pow_pos (by decide)
      obtain ⟨z, hz⟩ : ∃ z, z = x + y := ⟨_, rfl⟩
      have hy1 : IntKind.u64.wrap ((2 : Int) ^ gk) = (y : Int) := by
        have : ((2 : Int) ^ gk) = (y : Int) := by rw [hy]; simp
        rw [this, IntKind.wrap_u64]
        omega
      have hy2 : IntKind.u64.wrap ((x : Int) + (y : Int)) = (z : Int) := by rw [IntKind.wrap_u64]; omega
      have HZ := Aside0.mk hz
      have HY := Aside0.mk hy
      have HYB := Aside0.mk (And.intro hyb hy0)
      have hzlt : z < 68719476736 := by omega
      have HZL := Aside0.mk hzlt
      clear hz hy hyb hy0 hzlt
      cases hfine : cuQ p z
      · have HFI := Aside0.mk hfine
        clear hfine
        go_wp2_with (go_at_call 97; refine (cube1_any p z g _ HP.out HZL.out HG.out).mono ?_; rintro e w' ⟨rfl, rfl⟩; rw [HFI.out])
        go_roundg gk
        case measure => omega
        case rel =>
          refine ⟨x, by omega, rfl, by congr 1, by have h1 := HB.out; have h2 := HE.out; have h3 := HYB.out; have h4 := HY.out; omega, ?_, rfl⟩
          rw [← HRR.out]
          simp only [rootN]
          rw [← HY.out, ← HZ.out, HFI.out]
          rfl
      · have HFI := Aside0.mk hfine
        clear hfine
        go_wp2_with (go_at_call 97; refine (cube1_any p z g _ HP.out HZL.out HG.out).mono ?_; rintro e w' ⟨rfl, rfl⟩; rw [HFI.out])
        go_roundg gk
        case measure => omega
        case rel =>
          refine ⟨z, by omega, rfl, by congr 1, by have := HB.out; have := HE.out; have := HZ.out; have := HY.out; omega, ?_, rfl⟩
          rw [← HRR.out]
          simp only [rootN]
          rw [← HY.out, ← HZ.out, HFI.out]
          rfl
end Go.Proofs.Ytdegeodegjmddaa.Given

namespace Go.Proofs.Ytdegeodegjmddaa.Given
open Go.RowKit Go.Proofs.YtdegeodegjmddaaW.PrintWords Go.Proofs.YtdegeodegjmddaaW.PrintLast Go.Proofs.YtdegeodegjmddaaW.PrintMore
open Go.Proofs.Ytdegeodegjmddaa.Row Go.Proofs.Ytdegeodegjmddaa.Row.At
set_option maxRecDepth 100000
set_option linter.unusedVariables false
set_option linter.unusedSimpArgs false
theorem square_any (p : Nat) (w : World) (hp : p < 4294967296) :
    Calls Try.prog 86 #[.int .u64 p] w fun e w' => e = .returned (.int .u32 (IntKind.u32.wrap (rootN (sqQ p) 36 0 : Nat))) ∧ Below w.heap.size w w' := by
  have HP := Aside0.mk hp
  have HG : Aside0 (At (w.alloc (.cells #[.int .u64 p] 87 (0, 0))) w.heap.size 87 [.int .u64 p]) := ⟨At.newAt rfl⟩
  obtain ⟨R, hR⟩ : ∃ R, R = rootN (sqQ p) 36 0 := ⟨_, rfl⟩
  rw [← hR]
  have HR := Aside0.mk hR
  clear hp hR
  go_enter Try.func86, Try.ntmps86
  go_wp2_with (go_at_call 94; refine (root_sq p _ _ HP.out HG.out).mono ?_; rintro e w' ⟨rfl, rfl⟩; rw [← HR.out])
  go_ret
  exact ⟨rfl, (Below.refl _ w).alloc (Nat.le_refl _) _⟩
theorem cube_any (p : Nat) (w : World) (hp : p < 4294967296) :
    Calls Try.prog 87 #[.int .u64 p] w fun e w' => e = .returned (.int .u32 (IntKind.u32.wrap (rootN (cuQ p) 36 0 : Nat))) ∧ Below w.heap.size w w' := by
  have HP := Aside0.mk hp
  have HG : Aside0 (At (w.alloc (.cells #[.int .u64 p] 87 (0, 0))) w.heap.size 87 [.int .u64 p]) := ⟨At.newAt rfl⟩
  obtain ⟨R, hR⟩ : ∃ R, R = rootN (cuQ p) 36 0 := ⟨_, rfl⟩
  rw [← hR]
  have HR := Aside0.mk hR
  clear hp hR
  go_enter Try.func87, Try.ntmps87
  go_wp2_with (go_at_call 94; refine (root_cu p _ _ HP.out HG.out).mono ?_; rintro e w' ⟨rfl, rfl⟩; rw [← HR.out])
  go_ret
  exact ⟨rfl, (Below.refl _ w).alloc (Nat.le_refl _) _⟩
/-- numbers as cells -/
def n64s (l : List Nat) : List Value := l.map fun (n : Nat) => .int .u64 (n : Int)
theorem n64s_length (l : List Nat) : (n64s l).length = l.length := by simp [n64s]
theorem n64s_get (l : List Nat) (j : Nat) (h : j < l.length) : (n64s l)[j]? = some (.int .u64 ((l.getD j 0 : Nat) : Int)) := by
  simp [n64s, h, List.getD_eq_getElem?_getD]
theorem n64s_set (l : List Nat) (j n : Nat) : (n64s l).set j (.int .u64 (n : Int)) = n64s (l.set j n) := by simp [n64s, List.map_set]
theorem n64s_one (l : List Nat) : ∀ v ∈ n64s l, v.oneCell' = true := by
  intro v hv
  simp only [n64s, List.mem_map] at hv
  obtain ⟨_, _, rfl⟩ := hv
  rfl
def startP (i : Nat) : Nat := if i = 0 then 2 else primeL.getD (i - 1) 0 + 1
theorem prime_gap : ∀ i, i < 64 → startP i ≤ primeL.getD i 0 ∧ primeL.getD i 0 < 1000 ∧ 2 ≤ primeL.getD i 0 := by decide +kernel
theorem prime_not : ∀ i, i < 64 → ∀ n, n < 312 → startP i ≤ n → n < primeL.getD i 0 → ∃ j, j < i ∧ n % primeL.getD j 0 = 0 := by decide +kernel
theorem prime_is : ∀ i, i < 64 → ∀ j, j < i → primeL.getD i 0 % primeL.getD j 0 ≠ 0 := by decide +kernel
theorem prime_top : ∀ i, i < 64 → primeL.getD i 0 < 312 := by decide +kernel
/-- the row while it is filled -/
def rowP (i : Nat) : List Nat := primeL.take i ++ List.replicate (64 - i) 0
theorem rowP_length (i : Nat) (h : i ≤ 64) : (rowP i).length = 64 := by
  simp only [rowP, List.length_append, List.length_take, List.length_replicate, primeL_length]
  omega
theorem rowP_get (i j : Nat) (h : j < i) (hi : i ≤ 64) : (rowP i).getD j 0 = primeL.getD j 0 := by
  have hl := primeL_length
  rw [List.getD_eq_getElem?_getD, List.getD_eq_getElem?_getD, rowP, List.getElem?_append_left (by rw [List.length_take]; omega), List.getElem?_take, if_pos h]
theorem rowP_set (i : Nat) (h : i < 64) : (rowP i).set i (primeL.getD i 0) = rowP (i + 1) := by
  have hl := primeL_length
  have e : 64 - i = (64 - (i + 1)) + 1 := by omega
  have ht : (primeL.take i).length = i := by rw [List.length_take]; omega
  rw [rowP, rowP, e, List.replicate_succ, List.set_append_right _ _ (by omega), ht, Nat.sub_self, List.set_cons_zero, ← List.take_append_getElem (by omega : i < primeL.length), List.append_assoc]
  congr 2
  simp [List.getD_eq_getElem?_getD, hl, h]
theorem info64 : (Try.prog.info? 114).map (·.size) = some 64 := by kernel_rfl
attribute [-simp] Try.isAgg114 Try.sizeOf114
set_option maxHeartbeats 1000000 in
theorem primes_any (w : World) :
    Calls Try.prog 85 #[] w fun e w' => e = .returned (.agg (n64s primeL).toArray) ∧ Below w.heap.size w w' := by
  go_enter Try.func85, Try.ntmps85
  go_wp2
  have HA : Aside0 (At ((w.alloc (.cells (n64s (List.replicate 64 0)).toArray 114 (0, 0))).alloc (.cells (n64s (List.replicate 64 0)).toArray 114 (0, 0))) (w.heap.size + 1) 114 (n64s (rowP 0))) := ⟨At.newAt (by simp)⟩
  have HZ : Aside0 (At ((w.alloc (.cells (n64s (List.replicate 64 0)).toArray 114 (0, 0))).alloc (.cells (n64s (List.replicate 64 0)).toArray 114 (0, 0))) w.heap.size 114 (n64s (List.replicate 64 0))) := ⟨(At.new w _ _).alloc _⟩
  have HB : Aside0 (Below w.heap.size w ((w.alloc (.cells (n64s (List.replicate 64 0)).toArray 114 (0, 0))).alloc (.cells (n64s (List.replicate 64 0)).toArray 114 (0, 0)))) := ⟨((Below.refl _ w).alloc (Nat.le_refl _) _).alloc (by simp) _⟩
  go_loopg [2, 5] 64 (fun gg s2 s5 wx => ∃ i : Nat, i + gg = 64 ∧ s5 = .int .i64 i ∧ s2 = .int .u64 (startP i) ∧ At wx (w.heap.size + 1) 114 (n64s (rowP i)) ∧ At wx w.heap.size 114 (n64s (List.replicate 64 0)) ∧ Below w.heap.size w wx)
  case atStart => exact ⟨0, by omega, rfl, rfl, HA.out, HZ.out, HB.out⟩
  case round =>
    obtain ⟨i, hi, rfl, rfl, ha, hz, hb⟩ := hrel
    clear HA HZ HB
    have HA := Aside0.mk ha
    have HZ := Aside0.mk hz
    have HB := Aside0.mk hb
    clear ha hz hb
    cases gk with
    | zero =>
      have hi64 : i = 64 := by omega
      subst hi64
      have e64 : rowP 64 = primeL := by decide +kernel
      rw [e64] at HA
      go_wp2_with (first
        | ((with_reducible refine gate_dst (N := 27) rfl ?_); refine HA.out.load _ _ rfl rfl rfl _ Try.underlying114 rfl (by rw [n64s_length, primeL_length]; exact info64) ?_)
        | (refine HZ.out.store _ _ _ (n64s primeL) rfl rfl rfl rfl (by rw [n64s_length, n64s_length, primeL_length, List.length_replicate]) (by rw [n64s_length, primeL_length]; exact info64) (n64s_one _) ?_))
      refine bodyPost_ret ((HZ.out.setRow _).ret rfl _ _ rfl Try.underlying114 rfl (by rw [n64s_length, primeL_length]; exact info64)) rfl ⟨rfl, At.row_below HB.out (by omega) _⟩
    | succ go =>
      have hi64 : i < 64 := by omega
      obtain ⟨hg1, hg2, hg3⟩ := prime_gap i hi64
      have htop := prime_top i hi64
      have HI := Aside0.mk hi64
      obtain ⟨q, hq⟩ : ∃ q, q = primeL.getD i 0 := ⟨_, rfl⟩
      rw [← hq] at hg1 hg2 hg3 htop
      have HQ := Aside0.mk hq
      have HG := Aside0.mk (And.intro hg1 (And.intro hg2 (And.intro hg3 htop)))
      have hlt : (i : Int) < 64 := by omega
      clear hi64 hg1 hg2 hg3 htop hq
      go_wp2
      go_loopg [2, 4] ((q - startP i) * 100 + i) (fun gg s2 s4 wx => ∃ n j : Nat, gg = (q - n) * 100 + (i - j) ∧ s2 = .int .u64 n ∧ s4 = .int .i64 j ∧ j ≤ i ∧ startP i ≤ n ∧ n ≤ q ∧ (∀ k, k < j → n % primeL.getD k 0 ≠ 0) ∧ wx = wr)
      case atStart => exact ⟨startP i, 0, by simp, rfl, rfl, by omega, Nat.le_refl _, HG.out.1, fun k hk => by omega, rfl⟩
      case round =>
        obtain ⟨n, j, hgg, rfl, rfl, hj, hs, hnq, hall, rfl⟩ := hrel
        have HGG := Aside0.mk hgg
        have HALL := Aside0.mk hall
        have HSN := Aside0.mk (And.intro hs hnq)
        clear hgg hall hs hnq
        by_cases hji : j = i
        · subst hji
          have hn : n = q := by
            rcases Nat.lt_or_ge n q with h | h
            · obtain ⟨k, hk, hz⟩ := prime_not j HI.out n (by have := HG.out.2.2.2; omega) HSN.out.1 (by rw [← HQ.out]; exact h)
              exact absurd hz (HALL.out k hk)
            · have := HSN.out.2; omega
          subst hn
          have hge : ¬ ((j : Int) < (j : Int)) := by omega
          have c1 := HA.out.cell j _ (n64s_get _ j (by rw [rowP_length _ (by have := HI.out; omega)]; exact HI.out))
          have f1 := HA.out.frozen j
          clear hj
          go_wp2
          have hw : IntKind.u64.wrap ((n : Int) + 1) = ((n + 1 : Nat) : Int) := by have := HG.out.2.2.2; rw [IntKind.wrap_u64]; omega
          go_roundg go
          case measure => omega
          case rel =>
            refine ⟨j + 1, by omega, by congr 1, ?_, ?_, HZ.out.other _ _ (by dsimp; omega), HB.out.setCell (by dsimp; omega) _⟩
            · have e : startP (j + 1) = n + 1 := by unfold startP; rw [if_neg (by omega), HQ.out]; rfl
              rw [e, hw]
            · have h2 := HA.out.set j (.int .u64 (n : Int))
              rw [n64s_set] at h2
              have h3 := rowP_set j HI.out
              rw [← HQ.out] at h3
              rw [h3] at h2
              exact h2
        · have hjl : j < i := by omega
          have hlt2 : (j : Int) < (i : Int) := by omega
          have hi64 := HI.out
          have hrl := rowP_length i (by omega)
          have c1 := HA.out.cell j _ (n64s_get _ j (by omega))
          rw [rowP_get i j hjl (by omega)] at c1
          obtain ⟨hp1, hp2, hp3⟩ := prime_gap j (by omega)
          obtain ⟨p, hp⟩ : ∃ p, p = primeL.getD j 0 := ⟨_, rfl⟩
          rw [← hp] at c1 hp2 hp3
          have HP := Aside0.mk hp
          have hj64 : (j : Int) < 64 := by omega
          have hp0 : ¬ ((p : Int) = 0) := by omega
          have hw : IntKind.u64.wrap ((n : Int) + 1) = ((n + 1 : Nat) : Int) := by have := HG.out.2.2.2; have := HSN.out.2; rw [IntKind.wrap_u64]; omega
          have HJ := Aside0.mk (And.intro hjl hj)
          have HI6 := Aside0.mk hi64
          clear hp hp1 hp2 hrl hjl hj hji hi64
          by_cases hm : n % p = 0
          · have hm2 : (n : Int) % (p : Int) = 0 := by rw [← Int.natCast_emod, hm]; rfl
            have hm1 : (n : Int).tmod (p : Int) = 0 := by rw [Int.tmod_eq_emod_of_nonneg (by omega)]; exact hm2
            have hnq : n < q := by
              rcases Nat.lt_or_ge n q with h | h
              · exact h
              · have : n = q := by have := HSN.out.2; omega
                exact absurd (by rw [this, HP.out, HQ.out] at hm; exact hm) (prime_is i HI.out j HJ.out.1)
            have HNQ := Aside0.mk hnq
            clear hm hnq hp3
            go_wp2
            go_roundg ((q - (n + 1)) * 100 + (i - 0))
            case measure => have h1 := HNQ.out; have h2 := HGG.out; have h3 := HJ.out; have h4 := HI6.out; omega
            case rel => exact ⟨n + 1, 0, rfl, rfl, rfl, by omega, by have := HSN.out.1; omega, HNQ.out, fun k hk => by omega, rfl⟩
          · have hm2 : ¬ ((n : Int) % (p : Int) = 0) := by rw [← Int.natCast_emod]; omega
            have hm1 : ¬ ((n : Int).tmod (p : Int) = 0) := by rw [Int.tmod_eq_emod_of_nonneg (by omega)]; exact hm2
            have HM := Aside0.mk hm
            clear hm hp3
            go_wp2
            go_roundg ((q - n) * 100 + (i - (j + 1)))
            case measure => have h2 := HGG.out; have h3 := HJ.out; omega
            case rel =>
              refine ⟨n, j + 1, rfl, rfl, ?_, by have := HJ.out.1; omega, HSN.out.1, HSN.out.2, fun k hk => ?_, rfl⟩
              · rfl
              · by_cases hkj : k < j
                · exact HALL.out k hkj
                · obtain rfl : k = j := by omega
                  rw [← HP.out]; exact HM.out
end Go.Proofs.Ytdegeodegjmddaa.Given

namespace Go.Proofs.Ytdegeodegjmddaa.Given
open Go.RowKit Go.Proofs.YtdegeodegjmddaaW.PrintWords Go.Proofs.YtdegeodegjmddaaW.PrintLast Go.Proofs.YtdegeodegjmddaaW.PrintMore
open Go.Proofs.Ytdegeodegjmddaa.Row Go.Proofs.Ytdegeodegjmddaa.Row.At
set_option maxRecDepth 100000
set_option linter.unusedVariables false
set_option linter.unusedSimpArgs false
def u32s (l : List UInt32) : List Value := l.map u32
def gw (l : List UInt32) (j : Nat) : UInt32 := l.getD j 0
@[simp] theorem u32s_length (l : List UInt32) : (u32s l).length = l.length := by simp [u32s]
theorem u32s_get (l : List UInt32) (j : Nat) (h : j < l.length) : (u32s l)[j]? = some (.int .u32 ((gw l j).toNat : Int)) := by
  simp [u32s, u32, gw, h, List.getD_eq_getElem?_getD]
theorem u32s_set (l : List UInt32) (j : Nat) (b : UInt32) : (u32s l).set j (.int .u32 (b.toNat : Int)) = u32s (l.set j b) := by
  simp [u32s, u32, List.map_set]
theorem u32s_one (l : List UInt32) : ∀ v ∈ u32s l, v.oneCell' = true := by
  intro v hv
  simp only [u32s, List.mem_map] at hv
  obtain ⟨_, _, rfl⟩ := hv
  rfl
theorem gw_set (l : List UInt32) (i j : Nat) (b : UInt32) (h : i < l.length) : gw (l.set i b) j = if i = j then b else gw l j := by
  by_cases e : i = j
  · subst e; simp [gw, List.getD_eq_getElem?_getD, h]
  · simp [gw, List.getD_eq_getElem?_getD, e]
/-- the cells of a hash: its numbers, what is not gone through yet, how many bytes there were, the cube roots' bits -/
def hCells (s : List UInt32) (rest : ByteArray) (many : Nat) (cu : List UInt32) : List Value := u32s s ++ (.string rest :: .int .u64 (many : Int) :: u32s cu)
theorem hCells_length (s : List UInt32) (r : ByteArray) (m : Nat) (c : List UInt32) (hs : s.length = 8) (hc : c.length = 64) : (hCells s r m c).length = 74 := by
  simp [hCells, hs, hc]
theorem hCells_state (s : List UInt32) (r : ByteArray) (m : Nat) (c : List UInt32) (j : Nat) (hs : s.length = 8) (hj : j < 8) : (hCells s r m c)[j]? = some (.int .u32 ((gw s j).toNat : Int)) := by
  rw [hCells, List.getElem?_append_left (by rw [u32s_length]; omega), u32s_get _ _ (by omega)]
theorem hCells_rest (s : List UInt32) (r : ByteArray) (m : Nat) (c : List UInt32) (hs : s.length = 8) : (hCells s r m c)[8]? = some (.string r) := by
  rw [hCells, List.getElem?_append_right (by rw [u32s_length]; omega), u32s_length, hs]; rfl
theorem hCells_many (s : List UInt32) (r : ByteArray) (m : Nat) (c : List UInt32) (hs : s.length = 8) : (hCells s r m c)[9]? = some (.int .u64 (m : Int)) := by
  rw [hCells, List.getElem?_append_right (by rw [u32s_length]; omega), u32s_length, hs]; rfl
theorem hCells_cube (s : List UInt32) (r : ByteArray) (m : Nat) (c : List UInt32) (j : Nat) (hs : s.length = 8) (hj : j < c.length) : (hCells s r m c)[10 + j]? = some (.int .u32 ((gw c j).toNat : Int)) := by
  rw [hCells, List.getElem?_append_right (by rw [u32s_length]; omega), u32s_length, hs]
  rw [show 10 + j - 8 = j + 1 + 1 from by omega, List.getElem?_cons_succ, List.getElem?_cons_succ, u32s_get _ _ hj]
theorem hCells_set_state (s : List UInt32) (r : ByteArray) (m : Nat) (c : List UInt32) (j : Nat) (b : UInt32) (hs : s.length = 8) (hj : j < 8) : (hCells s r m c).set j (.int .u32 (b.toNat : Int)) = hCells (s.set j b) r m c := by
  rw [hCells, List.set_append_left _ _ (by rw [u32s_length]; omega), u32s_set]; rfl
theorem hCells_set_rest (s : List UInt32) (r r' : ByteArray) (m : Nat) (c : List UInt32) (hs : s.length = 8) : (hCells s r m c).set 8 (.string r') = hCells s r' m c := by
  rw [hCells, List.set_append_right _ _ (by rw [u32s_length]; omega), u32s_length, hs]; rfl
theorem hCells_set_many (s : List UInt32) (r : ByteArray) (m m' : Nat) (c : List UInt32) (hs : s.length = 8) : (hCells s r m c).set 9 (.int .u64 (m' : Int)) = hCells s r m' c := by
  rw [hCells, List.set_append_right _ _ (by rw [u32s_length]; omega), u32s_length, hs]; rfl
theorem hCells_set_cube (s : List UInt32) (r : ByteArray) (m : Nat) (c : List UInt32) (j : Nat) (b : UInt32) (hs : s.length = 8) : (hCells s r m c).set (10 + j) (.int .u32 (b.toNat : Int)) = hCells s r m (c.set j b) := by
  rw [hCells, List.set_append_right _ _ (by rw [u32s_length]; omega), u32s_length, hs, show 10 + j - 8 = j + 1 + 1 from by omega, List.set_cons_succ, List.set_cons_succ, u32s_set]; rfl
/-- the bits of the square roots, of the cube roots -/
def H0 : List UInt32 := [0x6a09e667, 0xbb67ae85, 0x3c6ef372, 0xa54ff53a, 0x510e527f, 0x9b05688c, 0x1f83d9ab, 0x5be0cd19]
def KK : List UInt32 := [0x428a2f98, 0x71374491, 0xb5c0fbcf, 0xe9b5dba5, 0x3956c25b, 0x59f111f1, 0x923f82a4, 0xab1c5ed5, 0xd807aa98, 0x12835b01, 0x243185be, 0x550c7dc3, 0x72be5d74, 0x80deb1fe, 0x9bdc06a7, 0xc19bf174, 0xe49b69c1, 0xefbe4786, 0x0fc19dc6, 0x240ca1cc, 0x2de92c6f, 0x4a7484aa, 0x5cb0a9dc, 0x76f988da, 0x983e5152, 0xa831c66d, 0xb00327c8, 0xbf597fc7, 0xc6e00bf3, 0xd5a79147, 0x06ca6351, 0x14292967, 0x27b70a85, 0x2e1b2138, 0x4d2c6dfc, 0x53380d13, 0x650a7354, 0x766a0abb, 0x81c2c92e, 0x92722c85, 0xa2bfe8a1, 0xa81a664b, 0xc24b8b70, 0xc76c51a3, 0xd192e819, 0xd6990624, 0xf40e3585, 0x106aa070, 0x19a4c116, 0x1e376c08, 0x2748774c, 0x34b0bcb5, 0x391c0cb3, 0x4ed8aa4a, 0x5b9cca4f, 0x682e6ff3, 0x748f82ee, 0x78a5636f, 0x84c87814, 0x8cc70208, 0x90befffa, 0xa4506ceb, 0xbef9a3f7, 0xc67178f2]
theorem H0_length : H0.length = 8 := rfl
theorem KK_length : KK.length = 64 := rfl
theorem sq_is : ∀ i, i < 8 → IntKind.u32.wrap ((rootN (sqQ (primeL.getD i 0)) 36 0 : Nat) : Int) = ((gw H0 i).toNat : Int) := by decide +kernel
theorem cu_is : ∀ i, i < 64 → IntKind.u32.wrap ((rootN (cuQ (primeL.getD i 0)) 36 0 : Nat) : Int) = ((gw KK i).toNat : Int) := by decide +kernel
theorem at_go1 {g : Nat} {t : TypeId} {cs : List Value} {w w' : World} (h : At w g t cs) (hb : Below w.heap.size w w') : At w' g t cs := h.below hb h.lt
theorem infoH : (Try.prog.info? 113).map (fun i => (i.zero, i.size)) = some (some (.agg (hCells (List.replicate 8 0) ⟨#[]⟩ 0 (List.replicate 64 0)).toArray), 74) := by kernel_rfl
theorem index64 (l : List Nat) (i : Nat) (h : i < 64) (hl : l.length = 64) (w : World) : (Instr.index 114 (.agg (n64s l).toArray) (.int .i64 (i : Int))).run Try.prog w = .ok (.int .u64 ((l.getD i 0 : Nat) : Int)) w := by
  have h1 : (0 : Int) ≤ (i : Int) ∧ (i : Int) < 64 := by omega
  have h2 := n64s_get l i (by omega)
  have h3 : (n64s l)[i]?.getD undef = .int .u64 ((l.getD i 0 : Nat) : Int) := by rw [h2]; rfl
  simp [Instr.index, go_sem, h1, part, h2]
  omega
def stN (i : Nat) : List UInt32 := H0.take i ++ List.replicate (8 - i) 0
def kkN (i : Nat) : List UInt32 := KK.take i ++ List.replicate (64 - i) 0
theorem stN_length (i : Nat) : (stN i).length = 8 := by simp only [stN, List.length_append, List.length_take, List.length_replicate, H0_length]; omega
theorem kkN_length (i : Nat) (h : i ≤ 64) : (kkN i).length = 64 := by simp only [kkN, List.length_append, List.length_take, List.length_replicate, KK_length]; omega
theorem stN_set (i : Nat) (h : i < 8) : (stN i).set i (gw H0 i) = stN (i + 1) := by
  have hl := H0_length
  have e : 8 - i = (8 - (i + 1)) + 1 := by omega
  have ht : (H0.take i).length = i := by rw [List.length_take]; omega
  rw [stN, stN, e, List.replicate_succ, List.set_append_right _ _ (by omega), ht, Nat.sub_self, List.set_cons_zero, ← List.take_append_getElem (by omega : i < H0.length), List.append_assoc]
  congr 2
  simp [gw, List.getD_eq_getElem?_getD, hl, h]
theorem stN_ge (i : Nat) (h : 8 ≤ i) : stN i = H0 := by
  have hl := H0_length
  rw [stN, List.take_of_length_le (by omega), show 8 - i = 0 from by omega]; simp
theorem kkN_set (i : Nat) (h : i < 64) : (kkN i).set i (gw KK i) = kkN (i + 1) := by
  have hl := KK_length
  have e : 64 - i = (64 - (i + 1)) + 1 := by omega
  have ht : (KK.take i).length = i := by rw [List.length_take]; omega
  rw [kkN, kkN, e, List.replicate_succ, List.set_append_right _ _ (by omega), ht, Nat.sub_self, List.set_cons_zero, ← List.take_append_getElem (by omega : i < KK.length), List.append_assoc]
  congr 2
  simp [gw, List.getD_eq_getElem?_getD, hl, h]
attribute [-simp] Try.isAgg113 Try.sizeOf113 Try.isAgg114 Try.sizeOf114
set_option maxHeartbeats 1000000 in
theorem shaNew_any (w : World) :
    Calls Try.prog 79 #[] w fun e w' => e = .returned (.pointer (some ⟨w.heap.size, 0, none⟩)) ∧ At w' w.heap.size 113 (hCells H0 ⟨#[]⟩ 0 KK) ∧ Below w.heap.size w w' := by
  have z1 := (zero_of_info infoH).1
  have HH0 : Aside0 (At (w.alloc (.cells (hCells (stN 0) ⟨#[]⟩ 0 (kkN 0)).toArray 113 (0, 0))) w.heap.size 113 (hCells (stN 0) ⟨#[]⟩ 0 (kkN 0))) := ⟨At.newAt rfl⟩
  have HB0 : Aside0 (Below w.heap.size w (w.alloc (.cells (hCells (stN 0) ⟨#[]⟩ 0 (kkN 0)).toArray 113 (0, 0)))) := ⟨(Below.refl _ w).alloc (Nat.le_refl _) _⟩
  have e1 : hCells (List.replicate 8 0) ⟨#[]⟩ 0 (List.replicate 64 0) = hCells (stN 0) ⟨#[]⟩ 0 (kkN 0) := rfl
  rw [e1] at z1
  obtain ⟨hc, hhc⟩ : ∃ hc, hc = hCells (stN 0) ⟨#[]⟩ 0 (kkN 0) := ⟨_, rfl⟩
  rw [← hhc] at z1 HH0 HB0
  have HHC := Aside0.mk hhc
  clear e1 hhc
  go_enter Try.func79, Try.ntmps79
  go_wp2_with (go_at_call 85; refine (primes_any _).mono ?_; rintro e w1 ⟨rfl, hb⟩; have n1 := Aside0.mk (at_go1 HH0.out hb); have n2 := Aside0.mk (HB0.out.trans (hb.mono HB0.out.size)); clear HH0 HB0 hb; have HH0 := n1; have HB0 := n2; clear n1 n2)
  rw [HHC.out] at HH0
  clear z1 HHC
  go_loopg [7] 64 (fun gg s7 wx => ∃ i : Nat, i + gg = 64 ∧ s7 = .int .i64 i ∧ At wx w.heap.size 113 (hCells (stN i) ⟨#[]⟩ 0 (kkN i)) ∧ Below w.heap.size w wx)
  case atStart => exact ⟨0, by omega, rfl, HH0.out, HB0.out⟩
  case round =>
    obtain ⟨i, hi, rfl, ha, hb⟩ := hrel
    clear HH0 HB0
    have HA := Aside0.mk ha
    have HB := Aside0.mk hb
    clear ha hb
    cases gk with
    | zero =>
      have hi64 : i = 64 := by omega
      subst hi64
      have e1 : stN 64 = H0 := stN_ge 64 (by decide)
      have e2 : kkN 64 = KK := by decide +kernel
      rw [e1, e2] at HA
      clear e1 e2
      go_wp2
      go_ret
      exact ⟨rfl, HA.out, HB.out⟩
    | succ gk =>
      have hi64 : i < 64 := by omega
      have hix := index64 primeL i hi64 primeL_length wr
      obtain ⟨q, hq⟩ : ∃ q, q = primeL.getD i 0 := ⟨_, rfl⟩
      have hqb : q < 4294967296 := by rw [hq]; have := prime_top i hi64; omega
      have HQB := Aside0.mk hqb
      have hcu : IntKind.u32.wrap ((rootN (cuQ q) 36 0 : Nat) : Int) = ((gw KK i).toNat : Int) := by rw [hq]; exact cu_is i hi64
      have HCU := Aside0.mk hcu
      have HSQ : Aside0 (i < 8 → IntKind.u32.wrap ((rootN (sqQ q) 36 0 : Nat) : Int) = ((gw H0 i).toNat : Int)) := ⟨fun h => by rw [hq]; exact sq_is i h⟩
      rw [← hq] at hix
      have HI := Aside0.mk hi64
      clear hq hqb hcu
      by_cases h8 : i < 8
      · have h8i : (i : Int) < 8 := by omega
        have HSQ2 := Aside0.mk (HSQ.out h8)
        have H8 := Aside0.mk h8
        clear HSQ h8
        go_wp2
        go_region_with (go_at_call 86; refine (square_any q _ HQB.out).mono ?_; rintro e w2 ⟨rfl, hb⟩; rw [HSQ2.out]; have n1 := Aside0.mk (at_go1 (At.drew HA.out) hb); have n2 := Aside0.mk (HB.out.drew.trans (hb.mono HB.out.size)); clear HA HB hb; have HA := n1; have HB := n2; clear n1 n2; have f1 := HA.out.frozen i; have c1 := HA.out.cell i _ (hCells_state (stN i) ⟨#[]⟩ 0 (kkN i) i (stN_length i) H8.out))
        have n1 : At (w2.setCell ⟨w.heap.size, i, none⟩ (.int .u32 ((gw H0 i).toNat : Int))) w.heap.size 113 (hCells (stN (i + 1)) ⟨#[]⟩ 0 (kkN i)) := by
          have h2 := HA.out.set i (.int .u32 ((gw H0 i).toNat : Int))
          rw [hCells_set_state _ _ _ _ _ _ (stN_length i) H8.out, stN_set i H8.out] at h2
          exact h2
        have n2 := HB.out.setCell (p := ⟨w.heap.size, i, none⟩) (Nat.le_refl _) (.int .u32 ((gw H0 i).toNat : Int))
        obtain ⟨w4, hw4⟩ : ∃ w4, w4 = w2.setCell ⟨w.heap.size, i, none⟩ (.int .u32 ((gw H0 i).toNat : Int)) := ⟨_, rfl⟩
        rw [← hw4] at n1 n2 ⊢
        clear HA HB f1 c1 hw4
        have HA := Aside0.mk n1
        have HB := Aside0.mk n2
        clear n1 n2
        go_wp2
        go_region_with (go_at_call 87; refine (cube_any q _ HQB.out).mono ?_; rintro e w3 ⟨rfl, hb⟩; rw [HCU.out]; have n1 := Aside0.mk (at_go1 (At.drew HA.out) hb); have n2 := Aside0.mk (HB.out.drew.trans (hb.mono HB.out.size)); clear HA HB hb; have HA := n1; have HB := n2; clear n1 n2; have f1 := HA.out.frozen (10 + i); have c1 := HA.out.cell (10 + i) _ (hCells_cube (stN (i + 1)) ⟨#[]⟩ 0 (kkN i) i (stN_length _) (by rw [kkN_length i (by have := HI.out; omega)]; exact HI.out)))
        go_wp2
        go_roundg gk
        case measure => omega
        case rel =>
          refine ⟨i + 1, by omega, rfl, ?_, HB.out.setCell (by dsimp; omega) _⟩
          have h2 := HA.out.set (10 + i) (.int .u32 ((gw KK i).toNat : Int))
          rw [hCells_set_cube _ _ _ _ _ _ (stN_length _), kkN_set i HI.out] at h2
          exact h2
      · have h8i : ¬ ((i : Int) < 8) := by omega
        have H8 : Aside0 (stN i = stN (i + 1)) := ⟨by rw [stN_ge i (by omega), stN_ge (i + 1) (by omega)]⟩
        clear HSQ h8
        go_wp2
        go_region_with (go_at_call 87; refine (cube_any q _ HQB.out).mono ?_; rintro e w3 ⟨rfl, hb⟩; rw [HCU.out]; have n1 := Aside0.mk (at_go1 (At.drew HA.out) hb); have n2 := Aside0.mk (HB.out.drew.trans (hb.mono HB.out.size)); clear HA HB hb; have HA := n1; have HB := n2; clear n1 n2; have f1 := HA.out.frozen (10 + i); have c1 := HA.out.cell (10 + i) _ (hCells_cube (stN (i)) ⟨#[]⟩ 0 (kkN i) i (stN_length _) (by rw [kkN_length i (by have := HI.out; omega)]; exact HI.out)))
        go_wp2
        go_roundg gk
        case measure => omega
        case rel =>
          refine ⟨i + 1, by omega, rfl, ?_, HB.out.setCell (by dsimp; omega) _⟩
          have h2 := HA.out.set (10 + i) (.int .u32 ((gw KK i).toNat : Int))
          rw [hCells_set_cube _ _ _ _ _ _ (stN_length _), kkN_set i HI.out] at h2
          rw [← H8.out]; exact h2
end Go.Proofs.Ytdegeodegjmddaa.Given

namespace Go.Proofs.Ytdegeodegjmddaa.Given
open Go.RowKit Go.Proofs.YtdegeodegjmddaaW.PrintWords Go.Proofs.YtdegeodegjmddaaW.PrintLast Go.Proofs.YtdegeodegjmddaaW.PrintMore
open Go.Proofs.Ytdegeodegjmddaa.Row Go.Proofs.Ytdegeodegjmddaa.Row.At
set_option maxRecDepth 100000
set_option linter.unusedVariables false
set_option linter.unusedSimpArgs false
theorem u32or (a b : UInt32) : bits .or .u32 (a.toNat : Int) (b.toNat : Int) = ((a ||| b).toNat : Int) := by
  rw [u32_or_nat _ _ a.toNat_lt b.toNat_lt, UInt32.toNat_or]
theorem u32and (a b : UInt32) : bits .and .u32 (a.toNat : Int) (b.toNat : Int) = ((a &&& b).toNat : Int) := by
  rw [u32_and_nat _ _ a.toNat_lt b.toNat_lt, UInt32.toNat_and]
theorem u32xor (a b : UInt32) : bits .xor .u32 (a.toNat : Int) (b.toNat : Int) = ((a ^^^ b).toNat : Int) := by
  rw [u32_xor_nat _ _ a.toNat_lt b.toNat_lt, UInt32.toNat_xor]
theorem u32add (a b : UInt32) : IntKind.u32.wrap ((a.toNat : Int) + (b.toNat : Int)) = ((a + b).toNat : Int) := by
  rw [UInt32.toNat_add]
  have h1 := a.toNat_lt
  have h2 := b.toNat_lt
  rw [IntKind.wrap_u32]
  omega
def rotr (x : UInt32) (k : UInt32) : UInt32 := (x <<< (32 - k)) ||| (x >>> k)
theorem rot_7 (x : UInt32) (w : World) : Calls Try.prog 103 #[.int .u32 x.toNat, .int .i64 (-7)] w fun e w' => e = .returned (.int .u32 (rotr x 7).toNat) ∧ w' = w := by
  have hs : bits .and .u64 (IntKind.u64.wrap (-7)) 31 = 25 := by decide +kernel
  go_enter Try.func103, Try.ntmps103
  go_wp2
  go_ret
  refine ⟨?_, rfl⟩
  have e1 : ((x.toNat : Int) * (33554432 : Int) % (4294967296 : Int)) = (((x <<< (32 - 7)).toNat : Nat) : Int) := by
    rw [show (32 - 7 : UInt32) = 25 from by decide, UInt32.toNat_shiftLeft, Nat.shiftLeft_eq]
    simp
  have e2 : ((x.toNat : Int) / (128 : Int)) = (((x >>> 7).toNat : Nat) : Int) := by
    rw [UInt32.toNat_shiftRight, Nat.shiftRight_eq_div_pow]
    simp
  show Ending.returned (Value.int .u32 (bits .or .u32 ((x.toNat : Int) * (33554432 : Int) % (4294967296 : Int)) ((x.toNat : Int) / (128 : Int)))) = _
  rw [e1, e2, u32or]
  rfl
theorem rot_18 (x : UInt32) (w : World) : Calls Try.prog 103 #[.int .u32 x.toNat, .int .i64 (-18)] w fun e w' => e = .returned (.int .u32 (rotr x 18).toNat) ∧ w' = w := by
  have hs : bits .and .u64 (IntKind.u64.wrap (-18)) 31 = 14 := by decide +kernel
  go_enter Try.func103, Try.ntmps103
  go_wp2
  go_ret
  refine ⟨?_, rfl⟩
  have e1 : ((x.toNat : Int) * (16384 : Int) % (4294967296 : Int)) = (((x <<< (32 - 18)).toNat : Nat) : Int) := by
    rw [show (32 - 18 : UInt32) = 14 from by decide, UInt32.toNat_shiftLeft, Nat.shiftLeft_eq]
    simp
  have e2 : ((x.toNat : Int) / (262144 : Int)) = (((x >>> 18).toNat : Nat) : Int) := by
    rw [UInt32.toNat_shiftRight, Nat.shiftRight_eq_div_pow]
    simp
  show Ending.returned (Value.int .u32 (bits .or .u32 ((x.toNat : Int) * (16384 : Int) % (4294967296 : Int)) ((x.toNat : Int) / (262144 : Int)))) = _
  rw [e1, e2, u32or]
  rfl
theorem rot_17 (x : UInt32) (w : World) : Calls Try.prog 103 #[.int .u32 x.toNat, .int .i64 (-17)] w fun e w' => e = .returned (.int .u32 (rotr x 17).toNat) ∧ w' = w := by
  have hs : bits .and .u64 (IntKind.u64.wrap (-17)) 31 = 15 := by decide +kernel
  go_enter Try.func103, Try.ntmps103
  go_wp2
  go_ret
  refine ⟨?_, rfl⟩
  have e1 : ((x.toNat : Int) * (32768 : Int) % (4294967296 : Int)) = (((x <<< (32 - 17)).toNat : Nat) : Int) := by
    rw [show (32 - 17 : UInt32) = 15 from by decide, UInt32.toNat_shiftLeft, Nat.shiftLeft_eq]
    simp
  have e2 : ((x.toNat : Int) / (131072 : Int)) = (((x >>> 17).toNat : Nat) : Int) := by
    rw [UInt32.toNat_shiftRight, Nat.shiftRight_eq_div_pow]
    simp
  show Ending.returned (Value.int .u32 (bits .or .u32 ((x.toNat : Int) * (32768 : Int) % (4294967296 : Int)) ((x.toNat : Int) / (131072 : Int)))) = _
  rw [e1, e2, u32or]
  rfl
theorem rot_19 (x : UInt32) (w : World) : Calls Try.prog 103 #[.int .u32 x.toNat, .int .i64 (-19)] w fun e w' => e = .returned (.int .u32 (rotr x 19).toNat) ∧ w' = w := by
  have hs : bits .and .u64 (IntKind.u64.wrap (-19)) 31 = 13 := by decide +kernel
  go_enter Try.func103, Try.ntmps103
  go_wp2
  go_ret
  refine ⟨?_, rfl⟩
  have e1 : ((x.toNat : Int) * (8192 : Int) % (4294967296 : Int)) = (((x <<< (32 - 19)).toNat : Nat) : Int) := by
    rw [show (32 - 19 : UInt32) = 13 from by decide, UInt32.toNat_shiftLeft, Nat.shiftLeft_eq]
    simp
  have e2 : ((x.toNat : Int) / (524288 : Int)) = (((x >>> 19).toNat : Nat) : Int) := by
    rw [UInt32.toNat_shiftRight, Nat.shiftRight_eq_div_pow]
    simp
  show Ending.returned (Value.int .u32 (bits .or .u32 ((x.toNat : Int) * (8192 : Int) % (4294967296 : Int)) ((x.toNat : Int) / (524288 : Int)))) = _
  rw [e1, e2, u32or]
  rfl
theorem rot_6 (x : UInt32) (w : World) : Calls Try.prog 103 #[.int .u32 x.toNat, .int .i64 (-6)] w fun e w' => e = .returned (.int .u32 (rotr x 6).toNat) ∧ w' = w := by
  have hs : bits .and .u64 (IntKind.u64.wrap (-6)) 31 = 26 := by decide +kernel
  go_enter Try.func103, Try.ntmps103
  go_wp2
  go_ret
  refine ⟨?_, rfl⟩
  have e1 : ((x.toNat : Int) * (67108864 : Int) % (4294967296 : Int)) = (((x <<< (32 - 6)).toNat : Nat) : Int) := by
    rw [show (32 - 6 : UInt32) = 26 from by decide, UInt32.toNat_shiftLeft, Nat.shiftLeft_eq]
    simp
  have e2 : ((x.toNat : Int) / (64 : Int)) = (((x >>> 6).toNat : Nat) : Int) := by
    rw [UInt32.toNat_shiftRight, Nat.shiftRight_eq_div_pow]
    simp
  show Ending.returned (Value.int .u32 (bits .or .u32 ((x.toNat : Int) * (67108864 : Int) % (4294967296 : Int)) ((x.toNat : Int) / (64 : Int)))) = _
  rw [e1, e2, u32or]
  rfl
theorem rot_11 (x : UInt32) (w : World) : Calls Try.prog 103 #[.int .u32 x.toNat, .int .i64 (-11)] w fun e w' => e = .returned (.int .u32 (rotr x 11).toNat) ∧ w' = w := by
  have hs : bits .and .u64 (IntKind.u64.wrap (-11)) 31 = 21 := by decide +kernel
  go_enter Try.func103, Try.ntmps103
  go_wp2
  go_ret
  refine ⟨?_, rfl⟩
  have e1 : ((x.toNat : Int) * (2097152 : Int) % (4294967296 : Int)) = (((x <<< (32 - 11)).toNat : Nat) : Int) := by
    rw [show (32 - 11 : UInt32) = 21 from by decide, UInt32.toNat_shiftLeft, Nat.shiftLeft_eq]
    simp
  have e2 : ((x.toNat : Int) / (2048 : Int)) = (((x >>> 11).toNat : Nat) : Int) := by
    rw [UInt32.toNat_shiftRight, Nat.shiftRight_eq_div_pow]
    simp
  show Ending.returned (Value.int .u32 (bits .or .u32 ((x.toNat : Int) * (2097152 : Int) % (4294967296 : Int)) ((x.toNat : Int) / (2048 : Int)))) = _
  rw [e1, e2, u32or]
  rfl
theorem rot_25 (x : UInt32) (w : World) : Calls Try.prog 103 #[.int .u32 x.toNat, .int .i64 (-25)] w fun e w' => e = .returned (.int .u32 (rotr x 25).toNat) ∧ w' = w := by
  have hs : bits .and .u64 (IntKind.u64.wrap (-25)) 31 = 7 := by decide +kernel
  go_enter Try.func103, Try.ntmps103
  go_wp2
  go_ret
  refine ⟨?_, rfl⟩
  have e1 : ((x.toNat : Int) * (128 : Int) % (4294967296 : Int)) = (((x <<< (32 - 25)).toNat : Nat) : Int) := by
    rw [show (32 - 25 : UInt32) = 7 from by decide, UInt32.toNat_shiftLeft, Nat.shiftLeft_eq]
    simp
  have e2 : ((x.toNat : Int) / (33554432 : Int)) = (((x >>> 25).toNat : Nat) : Int) := by
    rw [UInt32.toNat_shiftRight, Nat.shiftRight_eq_div_pow]
    simp
  show Ending.returned (Value.int .u32 (bits .or .u32 ((x.toNat : Int) * (128 : Int) % (4294967296 : Int)) ((x.toNat : Int) / (33554432 : Int)))) = _
  rw [e1, e2, u32or]
  rfl
theorem rot_2 (x : UInt32) (w : World) : Calls Try.prog 103 #[.int .u32 x.toNat, .int .i64 (-2)] w fun e w' => e = .returned (.int .u32 (rotr x 2).toNat) ∧ w' = w := by
  have hs : bits .and .u64 (IntKind.u64.wrap (-2)) 31 = 30 := by decide +kernel
  go_enter Try.func103, Try.ntmps103
  go_wp2
  go_ret
  refine ⟨?_, rfl⟩
  have e1 : ((x.toNat : Int) * (1073741824 : Int) % (4294967296 : Int)) = (((x <<< (32 - 2)).toNat : Nat) : Int) := by
    rw [show (32 - 2 : UInt32) = 30 from by decide, UInt32.toNat_shiftLeft, Nat.shiftLeft_eq]
    simp
  have e2 : ((x.toNat : Int) / (4 : Int)) = (((x >>> 2).toNat : Nat) : Int) := by
    rw [UInt32.toNat_shiftRight, Nat.shiftRight_eq_div_pow]
    simp
  show Ending.returned (Value.int .u32 (bits .or .u32 ((x.toNat : Int) * (1073741824 : Int) % (4294967296 : Int)) ((x.toNat : Int) / (4 : Int)))) = _
  rw [e1, e2, u32or]
  rfl
theorem rot_13 (x : UInt32) (w : World) : Calls Try.prog 103 #[.int .u32 x.toNat, .int .i64 (-13)] w fun e w' => e = .returned (.int .u32 (rotr x 13).toNat) ∧ w' = w := by
  have hs : bits .and .u64 (IntKind.u64.wrap (-13)) 31 = 19 := by decide +kernel
  go_enter Try.func103, Try.ntmps103
  go_wp2
  go_ret
  refine ⟨?_, rfl⟩
  have e1 : ((x.toNat : Int) * (524288 : Int) % (4294967296 : Int)) = (((x <<< (32 - 13)).toNat : Nat) : Int) := by
    rw [show (32 - 13 : UInt32) = 19 from by decide, UInt32.toNat_shiftLeft, Nat.shiftLeft_eq]
    simp
  have e2 : ((x.toNat : Int) / (8192 : Int)) = (((x >>> 13).toNat : Nat) : Int) := by
    rw [UInt32.toNat_shiftRight, Nat.shiftRight_eq_div_pow]
    simp
  show Ending.returned (Value.int .u32 (bits .or .u32 ((x.toNat : Int) * (524288 : Int) % (4294967296 : Int)) ((x.toNat : Int) / (8192 : Int)))) = _
  rw [e1, e2, u32or]
  rfl
theorem rot_22 (x : UInt32) (w : World) : Calls Try.prog 103 #[.int .u32 x.toNat, .int .i64 (-22)] w fun e w' => e = .returned (.int .u32 (rotr x 22).toNat) ∧ w' = w := by
  have hs : bits .and .u64 (IntKind.u64.wrap (-22)) 31 = 10 := by decide +kernel
  go_enter Try.func103, Try.ntmps103
  go_wp2
  go_ret
  refine ⟨?_, rfl⟩
  have e1 : ((x.toNat : Int) * (1024 : Int) % (4294967296 : Int)) = (((x <<< (32 - 22)).toNat : Nat) : Int) := by
    rw [show (32 - 22 : UInt32) = 10 from by decide, UInt32.toNat_shiftLeft, Nat.shiftLeft_eq]
    simp
  have e2 : ((x.toNat : Int) / (4194304 : Int)) = (((x >>> 22).toNat : Nat) : Int) := by
    rw [UInt32.toNat_shiftRight, Nat.shiftRight_eq_div_pow]
    simp
  show Ending.returned (Value.int .u32 (bits .or .u32 ((x.toNat : Int) * (1024 : Int) % (4294967296 : Int)) ((x.toNat : Int) / (4194304 : Int)))) = _
  rw [e1, e2, u32or]
  rfl
theorem turned_7 (x c : UInt32) (w : World) : Calls Try.prog 100 #[.int .u32 x.toNat, .int .i64 7, .int .i64 18, .int .u32 c.toNat] w fun e w' => e = .returned (.int .u32 (rotr x 7 ^^^ rotr x 18 ^^^ c).toNat) ∧ w' = w := by
  go_enter Try.func100, Try.ntmps100
  go_wp2_with (first | (go_at_call 103; (with_reducible refine (rot_7 x _).mono ?_); rintro e w' ⟨rfl, rfl⟩) | (go_at_call 103; (with_reducible refine (rot_18 x _).mono ?_); rintro e w' ⟨rfl, rfl⟩))
  go_ret
  refine ⟨?_, rfl⟩
  show Ending.returned (Value.int .u32 (bits .xor .u32 (bits .xor .u32 ((rotr x 7).toNat : Int) ((rotr x 18).toNat : Int)) (c.toNat : Int))) = _
  rw [u32xor, u32xor]
theorem turned_17 (x c : UInt32) (w : World) : Calls Try.prog 100 #[.int .u32 x.toNat, .int .i64 17, .int .i64 19, .int .u32 c.toNat] w fun e w' => e = .returned (.int .u32 (rotr x 17 ^^^ rotr x 19 ^^^ c).toNat) ∧ w' = w := by
  go_enter Try.func100, Try.ntmps100
  go_wp2_with (first | (go_at_call 103; (with_reducible refine (rot_17 x _).mono ?_); rintro e w' ⟨rfl, rfl⟩) | (go_at_call 103; (with_reducible refine (rot_19 x _).mono ?_); rintro e w' ⟨rfl, rfl⟩))
  go_ret
  refine ⟨?_, rfl⟩
  show Ending.returned (Value.int .u32 (bits .xor .u32 (bits .xor .u32 ((rotr x 17).toNat : Int) ((rotr x 19).toNat : Int)) (c.toNat : Int))) = _
  rw [u32xor, u32xor]
theorem turned_6 (x c : UInt32) (w : World) : Calls Try.prog 100 #[.int .u32 x.toNat, .int .i64 6, .int .i64 11, .int .u32 c.toNat] w fun e w' => e = .returned (.int .u32 (rotr x 6 ^^^ rotr x 11 ^^^ c).toNat) ∧ w' = w := by
  go_enter Try.func100, Try.ntmps100
  go_wp2_with (first | (go_at_call 103; (with_reducible refine (rot_6 x _).mono ?_); rintro e w' ⟨rfl, rfl⟩) | (go_at_call 103; (with_reducible refine (rot_11 x _).mono ?_); rintro e w' ⟨rfl, rfl⟩))
  go_ret
  refine ⟨?_, rfl⟩
  show Ending.returned (Value.int .u32 (bits .xor .u32 (bits .xor .u32 ((rotr x 6).toNat : Int) ((rotr x 11).toNat : Int)) (c.toNat : Int))) = _
  rw [u32xor, u32xor]
theorem turned_2 (x c : UInt32) (w : World) : Calls Try.prog 100 #[.int .u32 x.toNat, .int .i64 2, .int .i64 13, .int .u32 c.toNat] w fun e w' => e = .returned (.int .u32 (rotr x 2 ^^^ rotr x 13 ^^^ c).toNat) ∧ w' = w := by
  go_enter Try.func100, Try.ntmps100
  go_wp2_with (first | (go_at_call 103; (with_reducible refine (rot_2 x _).mono ?_); rintro e w' ⟨rfl, rfl⟩) | (go_at_call 103; (with_reducible refine (rot_13 x _).mono ?_); rintro e w' ⟨rfl, rfl⟩))
  go_ret
  refine ⟨?_, rfl⟩
  show Ending.returned (Value.int .u32 (bits .xor .u32 (bits .xor .u32 ((rotr x 2).toNat : Int) ((rotr x 13).toNat : Int)) (c.toNat : Int))) = _
  rw [u32xor, u32xor]
theorem down_25 (x : UInt32) (w : World) : Calls Try.prog 101 #[.int .u32 x.toNat, .int .i64 25] w fun e w' => e = .returned (.int .u32 (rotr x 25).toNat) ∧ w' = w := by
  go_enter Try.func101, Try.ntmps101
  go_wp2_with (go_at_call 103; (with_reducible refine (rot_25 x _).mono ?_); rintro e w' ⟨rfl, rfl⟩)
  go_ret
  exact ⟨rfl, rfl⟩
theorem down_22 (x : UInt32) (w : World) : Calls Try.prog 101 #[.int .u32 x.toNat, .int .i64 22] w fun e w' => e = .returned (.int .u32 (rotr x 22).toNat) ∧ w' = w := by
  go_enter Try.func101, Try.ntmps101
  go_wp2_with (go_at_call 103; (with_reducible refine (rot_22 x _).mono ?_); rintro e w' ⟨rfl, rfl⟩)
  go_ret
  exact ⟨rfl, rfl⟩
end Go.Proofs.Ytdegeodegjmddaa.Given
