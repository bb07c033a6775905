/- Contracts of sha's primes, root, square and cube. Conditions: as each theorem names them. -/
import Derived.Test.YtbafbpfpnfnikaaRow
import Derived.Test.YtbafbpfpnfnikaaShelf
namespace Go.Proofs.Ytbafbpfpnfnikaa.Given
open Go.RowKit Go.Proofs.YtbafbpfpnfnikaaW.PrintWords Go.Proofs.YtbafbpfpnfnikaaW.PrintLast Go.Proofs.YtbafbpfpnfnikaaW.PrintMore
open Go.Proofs.Ytbafbpfpnfnikaa.Row Go.Proofs.Ytbafbpfpnfnikaa.Row.At
set_option maxRecDepth 100000
set_option linter.unusedVariables false
set_option linter.unusedSimpArgs false
/-- the first 64 primes -/
def primeL : List Nat := [2, 3, 5, 7, 11, 13, 17, 19, 23, 29, 31, 37, 41, 43, 47, 53, 59, 61, 67, 71, 73, 79, 83, 89, 97, 101, 103, 107, 109, 113, 127, 131, 137, 139, 149, 151, 157, 163, 167, 173, 179, 181, 191, 193, 197, 199, 211, 223, 227, 229, 233, 239, 241, 251, 257, 263, 269, 271, 277, 281, 283, 293, 307, 311]
theorem primeL_length : primeL.length = 64 := rfl
/-- the greatest number of b bits, above x, that is fine -/
def rootN (q : Nat → Bool) : Nat → Nat → Nat
  | 0, x => x
  | b + 1, x => rootN q b (if q (x + 2 ^ b) then x + 2 ^ b else x)
def sqQ (p x : Nat) : Bool := decide (x * x ≤ p * 18446744073709551616)
def cuQ (p x : Nat) : Bool := decide (x * x * x ≤ p * 79228162514264337593543950336)
set_option maxHeartbeats 1000000 in
theorem square1_any (p x g : Nat) (w : World) (hp : p < 4294967296) (hx : x < 68719476736) (hg : At w g 50 [.int .u64 p]) :
    Calls Try.prog 41 #[.int .u64 x, .pointer (some ⟨g, 0, none⟩)] w fun e w' => e = .returned (.bool (sqQ p x)) ∧ w' = w := by
  have c1 := hg.cell 0 _ rfl
  have HM := Aside0.mk (Try.bits_Mul64 x x (by omega) (by omega))
  obtain ⟨hi, hhi⟩ : ∃ hi, hi = x * x / 18446744073709551616 := ⟨_, rfl⟩
  obtain ⟨lo, hlo⟩ : ∃ lo, lo = x * x % 18446744073709551616 := ⟨_, rfl⟩
  rw [← hhi, ← hlo] at HM
  have hsum : x * x = hi * 18446744073709551616 + lo := by omega
  have hll : lo < 18446744073709551616 := by omega
  have hq : sqQ p x = decide (hi < p ∨ hi = p ∧ lo = 0) := by
    unfold sqQ
    rw [hsum]
    apply decide_eq_decide.2
    omega
  have HQ := Aside0.mk hq
  clear hhi hlo hsum hll hq
  by_cases h1 : hi < p
  · have h2 : (hi : Int) < (p : Int) := by omega
    have hr : decide (hi < p ∨ hi = p ∧ lo = 0) = true := decide_eq_true (.inl h1)
    rw [hr] at HQ
    clear hr h1
    go_enter Try.func41, Try.ntmps41
    go_wp2_with (go_at_call 42; refine (HM.out _).mono ?_; rintro e w' ⟨rfl, rfl⟩)
    go_ret
    exact ⟨by rw [HQ.out]; rfl, rfl⟩
  · by_cases h3 : hi = p
    · subst h3
      have h2 : ¬ ((hi : Int) < (hi : Int)) := by omega
      by_cases h4 : lo = 0
      · subst h4
        have hr : decide (hi < hi ∨ hi = hi ∧ 0 = 0) = true := by simp
        rw [hr] at HQ
        clear hr h1
        go_enter Try.func41, Try.ntmps41
        go_wp2_with (go_at_call 42; refine (HM.out _).mono ?_; rintro e w' ⟨rfl, rfl⟩)
        go_ret
        exact ⟨by rw [HQ.out]; rfl, rfl⟩
      · have h5 : ¬ ((lo : Int) = 0) := by omega
        have hr : decide (hi < hi ∨ hi = hi ∧ lo = 0) = false := by simp [h4]
        rw [hr] at HQ
        have E5 := Aside0.mk (beq_eq_false_iff_ne.2 h5)
        clear hr h1 h4
        go_enter Try.func41, Try.ntmps41
        go_wp2_with (go_at_call 42; refine (HM.out _).mono ?_; rintro e w' ⟨rfl, rfl⟩)
        go_ret
        refine ⟨?_, rfl⟩
        rw [HQ.out]
        show Ending.returned (Value.bool ((lo : Int) == 0)) = _
        rw [E5.out]
    · have h2 : ¬ ((hi : Int) < (p : Int)) := by omega
      have h5 : ¬ ((hi : Int) = (p : Int)) := by omega
      have hr : decide (hi < p ∨ hi = p ∧ lo = 0) = false := by simp [h1, h3]
      rw [hr] at HQ
      have E1 := Aside0.mk (decide_eq_false h1)
      clear hr h1 h3
      go_enter Try.func41, Try.ntmps41
      go_wp2_with (go_at_call 42; refine (HM.out _).mono ?_; rintro e w' ⟨rfl, rfl⟩)
      go_ret
      refine ⟨?_, rfl⟩
      rw [HQ.out]
      show Ending.returned (Value.bool (decide (hi < p))) = _
      rw [E1.out]
set_option maxHeartbeats 1000000 in
theorem cube1_any (p x g : Nat) (w : World) (hp : p < 4294967296) (hx : x < 68719476736) (hg : At w g 50 [.int .u64 p]) :
    Calls Try.prog 43 #[.int .u64 x, .pointer (some ⟨g, 0, none⟩)] w fun e w' => e = .returned (.bool (cuQ p x)) ∧ w' = w := by
  have c1 := hg.cell 0 _ rfl
  have HM := Aside0.mk (Try.bits_Mul64 x x (by omega) (by omega))
  obtain ⟨hi, hhi⟩ : ∃ hi, hi = x * x / 18446744073709551616 := ⟨_, rfl⟩
  obtain ⟨lo, hlo⟩ : ∃ lo, lo = x * x % 18446744073709551616 := ⟨_, rfl⟩
  rw [← hhi, ← hlo] at HM
  have hll : lo < 18446744073709551616 := by omega
  have HM2 := Aside0.mk (Try.bits_Mul64 lo x hll (by omega))
  obtain ⟨t0, ht0⟩ : ∃ t0, t0 = lo * x / 18446744073709551616 := ⟨_, rfl⟩
  obtain ⟨low, hlow⟩ : ∃ low, low = lo * x % 18446744073709551616 := ⟨_, rfl⟩
  rw [← ht0, ← hlow] at HM2
  have hsum : x * x = hi * 18446744073709551616 + lo := by omega
  have hsum2 : lo * x = t0 * 18446744073709551616 + low := by omega
  have hsum3 : x * x * x = (hi * x + t0) * 18446744073709551616 + low := by
    rw [hsum, Nat.add_mul, hsum2, Nat.add_mul, Nat.mul_right_comm]
    omega
  have hhi8 : hi < 256 := by
    have : x * x < 68719476736 * 68719476736 := Nat.mul_lt_mul_of_lt_of_lt hx hx
    omega
  have hhx : hi * x < 256 * 68719476736 := Nat.mul_lt_mul_of_lt_of_lt hhi8 hx
  have ht0b : t0 < 68719476736 := by
    have : lo * x < 18446744073709551616 * 68719476736 := Nat.mul_lt_mul_of_lt_of_lt hll hx
    omega
  have hlowb : low < 18446744073709551616 := by omega
  obtain ⟨hx2, hhx2⟩ : ∃ y, y = hi * x := ⟨_, rfl⟩
  rw [← hhx2] at hsum3 hhx
  have hm1 : IntKind.u64.wrap ((hi : Int) * (x : Int)) = (hx2 : Int) := by rw [← Int.natCast_mul, ← hhx2, IntKind.wrap_u64]; omega
  obtain ⟨top, htop⟩ : ∃ top, top = hx2 + t0 := ⟨_, rfl⟩
  have hm2 : IntKind.u64.wrap ((t0 : Int) + (hx2 : Int)) = (top : Int) := by rw [IntKind.wrap_u64]; omega
  have hm3 : IntKind.u64.wrap ((p : Int) * 4294967296) = ((p * 4294967296 : Nat) : Int) := by rw [IntKind.wrap_u64]; omega
  have hq : cuQ p x = decide (top < p * 4294967296 ∨ top = p * 4294967296 ∧ low = 0) := by
    unfold cuQ
    rw [hsum3]
    apply decide_eq_decide.2
    omega
  have HQ := Aside0.mk hq
  obtain ⟨pp, hpp⟩ : ∃ pp, pp = p * 4294967296 := ⟨_, rfl⟩
  rw [← hpp] at hm3 HQ
  clear hhi hlo hsum hsum2 hsum3 hll hq ht0 hlow hhi8 hhx ht0b hlowb hhx2 htop hpp
  by_cases h1 : top < pp
  · have h2 : (top : Int) < (pp : Int) := by omega
    have hr : decide (top < pp ∨ top = pp ∧ low = 0) = true := decide_eq_true (.inl h1)
    rw [hr] at HQ
    clear hr h1
    go_enter Try.func43, Try.ntmps43
    go_wp2_with (first | (go_at_call 42; have n1 := HM.out; clear HM; refine (n1 _).mono ?_; rintro e w' ⟨rfl, rfl⟩; clear n1) | (go_at_call 42; refine (HM2.out _).mono ?_; rintro e w' ⟨rfl, rfl⟩))
    go_ret
    exact ⟨by rw [HQ.out]; rfl, rfl⟩
  · by_cases h3 : top = pp
    · subst h3
      have h2 : ¬ ((top : Int) < (top : Int)) := by omega
      by_cases h4 : low = 0
      · subst h4
        have hr : decide (top < top ∨ top = top ∧ 0 = 0) = true := by simp
        rw [hr] at HQ
        clear hr h1
        go_enter Try.func43, Try.ntmps43
        go_wp2_with (first | (go_at_call 42; have n1 := HM.out; clear HM; refine (n1 _).mono ?_; rintro e w' ⟨rfl, rfl⟩; clear n1) | (go_at_call 42; refine (HM2.out _).mono ?_; rintro e w' ⟨rfl, rfl⟩))
        go_ret
        exact ⟨by rw [HQ.out]; rfl, rfl⟩
      · have h5 : ¬ ((low : Int) = 0) := by omega
        have hr : decide (top < top ∨ top = top ∧ low = 0) = false := by simp [h4]
        rw [hr] at HQ
        have E5 := Aside0.mk (beq_eq_false_iff_ne.2 h5)
        clear hr h1 h4
        go_enter Try.func43, Try.ntmps43
        go_wp2_with (first | (go_at_call 42; have n1 := HM.out; clear HM; refine (n1 _).mono ?_; rintro e w' ⟨rfl, rfl⟩; clear n1) | (go_at_call 42; refine (HM2.out _).mono ?_; rintro e w' ⟨rfl, rfl⟩))
        go_ret
        refine ⟨?_, rfl⟩
        rw [HQ.out]
        show Ending.returned (Value.bool ((low : Int) == 0)) = _
        rw [E5.out]
    · have h2 : ¬ ((top : Int) < (pp : Int)) := by omega
      have h5 : ¬ ((top : Int) = (pp : Int)) := by omega
      have hr : decide (top < pp ∨ top = pp ∧ low = 0) = false := by simp [h1, h3]
      rw [hr] at HQ
      have E1 := Aside0.mk (decide_eq_false h1)
      clear hr h1 h3
      go_enter Try.func43, Try.ntmps43
      go_wp2_with (first | (go_at_call 42; have n1 := HM.out; clear HM; refine (n1 _).mono ?_; rintro e w' ⟨rfl, rfl⟩; clear n1) | (go_at_call 42; refine (HM2.out _).mono ?_; rintro e w' ⟨rfl, rfl⟩))
      go_ret
      refine ⟨?_, rfl⟩
      rw [HQ.out]
      show Ending.returned (Value.bool (decide (top < pp))) = _
      rw [E1.out]
theorem rootN_lt (q : Nat → Bool) : ∀ b x, x % 2 ^ b = 0 → x + 2 ^ b ≤ 2 ^ 36 → rootN q b x < 2 ^ 36 := by
  intro b
  induction b with
  | zero => intro x _ h; simp only [rootN]; omega
  | succ b ih =>
    intro x hm h
    simp only [rootN]
    have e : 2 ^ (b + 1) = 2 ^ b + 2 ^ b := by omega
    have hd : x % 2 ^ b = 0 := by
      obtain ⟨k, hk⟩ := Nat.dvd_of_mod_eq_zero hm
      rw [hk, e, show (2 ^ b + 2 ^ b) * k = 2 ^ b * (2 * k) from by rw [← Nat.two_mul, Nat.mul_comm 2, Nat.mul_assoc], Nat.mul_mod_right]
    split
    · exact ih _ (by rw [Nat.add_mod_right]; exact hd) (by omega)
    · exact ih _ hd (by omega)
set_option maxHeartbeats 1000000 in
theorem root_sq (p g : Nat) (w : World) (hp : p < 4294967296) (hg : At w g 50 [.int .u64 p]) :
    Calls Try.prog 40 #[.func (.func 41) #[] #[.pointer (some ⟨g, 0, none⟩)]] w fun e w' => e = .returned (.int .u64 (rootN (sqQ p) 36 0)) ∧ w' = w := by
  have HP := Aside0.mk hp
  have HG := Aside0.mk hg
  clear hp hg
  obtain ⟨R, hR⟩ : ∃ R, R = rootN (sqQ p) 36 0 := ⟨_, rfl⟩
  rw [← hR]
  have HR := Aside0.mk hR
  clear hR
  go_enter Try.func40, Try.ntmps40
  go_wp2
  go_loopg [3, 4] 36 (fun gg s3 s4 wx => ∃ x : Nat, gg ≤ 36 ∧ s3 = .int .u64 x ∧ s4 = .int .i64 ((gg : Int) - 1) ∧ x + 2 ^ gg ≤ 68719476736 ∧ rootN (sqQ p) gg x = R ∧ wx = w)
  case atStart => exact ⟨0, by omega, rfl, rfl, by decide, HR.out.symm, rfl⟩
  case round =>
    obtain ⟨x, hgg, rfl, rfl, hb, hr, rfl⟩ := hrel
    have HB := Aside0.mk hb
    have HRR := Aside0.mk hr
    clear hb hr
    cases gk with
    | zero =>
      go_wp2
      go_ret
      exact ⟨by rw [← HRR.out]; rfl, rfl⟩
    | succ gk =>
      have q1 : ((gk + 1 : Nat) : Int) - 1 = (gk : Int) := by omega
      rw [q1]
      have q2 : (0 : Int) ≤ (gk : Int) := by omega
      have e2 : 2 ^ (gk + 1) = 2 ^ gk + 2 ^ gk := by omega
      have HE := Aside0.mk e2
      clear e2
      obtain ⟨y, hy⟩ : ∃ y, y = 2 ^ gk := ⟨_, rfl⟩
      have hyb : x + y ≤ 68719476736 - y := by have := HB.out; have := HE.out; omega
      have hy0 : 0 < y := by rw [hy]; exact Nat.pow_pos (by decide)
      obtain ⟨z, hz⟩ : ∃ z, z = x + y := ⟨_, rfl⟩
      have hy1 : IntKind.u64.wrap ((2 : Int) ^ gk) = (y : Int) := by
        have : ((2 : Int) ^ gk) = (y : Int) := by rw [hy]; simp
        rw [this, IntKind.wrap_u64]
        omega
      have hy2 : IntKind.u64.wrap ((x : Int) + (y : Int)) = (z : Int) := by rw [IntKind.wrap_u64]; omega
      have HZ := Aside0.mk hz
      have HY := Aside0.mk hy
      have HYB := Aside0.mk (And.intro hyb hy0)
      have hzlt : z < 68719476736 := by omega
      have HZL := Aside0.mk hzlt
      clear hz hy hyb hy0 hzlt
      cases hfine : sqQ p z
      · have HFI := Aside0.mk hfine
        clear hfine
        go_wp2_with (go_at_call 41; refine (square1_any p z g _ HP.out HZL.out HG.out).mono ?_; rintro e w' ⟨rfl, rfl⟩; rw [HFI.out])
        go_roundg gk
        case measure => omega
        case rel =>
          refine ⟨x, by omega, rfl, by congr 1, by have h1 := HB.out; have h2 := HE.out; have h3 := HYB.out; have h4 := HY.out; omega, ?_, rfl⟩
          rw [← HRR.out]
          simp only [rootN]
          rw [← HY.out, ← HZ.out, HFI.out]
          rfl
      · have HFI := Aside0.mk hfine
        clear hfine
        go_wp2_with (go_at_call 41; refine (square1_any p z g _ HP.out HZL.out HG.out).mono ?_; rintro e w' ⟨rfl, rfl⟩; rw [HFI.out])
        go_roundg gk
        case measure => omega
        case rel =>
          refine ⟨z, by omega, rfl, by congr 1, by have := HB.out; have := HE.out; have := HZ.out; have := HY.out; omega, ?_, rfl⟩
          rw [← HRR.out]
          simp only [rootN]
          rw [← HY.out, ← HZ.out, HFI.out]
          rfl
set_option maxHeartbeats 1000000 in
theorem root_cu (p g : Nat) (w : World) (hp : p < 4294967296) (hg : At w g 50 [.int .u64 p]) :
    Calls Try.prog 40 #[.func (.func 43) #[] #[.pointer (some ⟨g, 0, none⟩)]] w fun e w' => e = .returned (.int .u64 (rootN (cuQ p) 36 0)) ∧ w' = w := by
  have HP := Aside0.mk hp
  have HG := Aside0.mk hg
  clear hp hg
  obtain ⟨R, hR⟩ : ∃ R, R = rootN (cuQ p) 36 0 := ⟨_, rfl⟩
  rw [← hR]
  have HR := Aside0.mk hR
  clear hR
  go_enter Try.func40, Try.ntmps40
  go_wp2
  go_loopg [3, 4] 36 (fun gg s3 s4 wx => ∃ x : Nat, gg ≤ 36 ∧ s3 = .int .u64 x ∧ s4 = .int .i64 ((gg : Int) - 1) ∧ x + 2 ^ gg ≤ 68719476736 ∧ rootN (cuQ p) gg x = R ∧ wx = w)
  case atStart => exact ⟨0, by omega, rfl, rfl, by decide, HR.out.symm, rfl⟩
  case round =>
    obtain ⟨x, hgg, rfl, rfl, hb, hr, rfl⟩ := hrel
    have HB := Aside0.mk hb
    have HRR := Aside0.mk hr
    clear hb hr
    cases gk with
    | zero =>
      go_wp2
      go_ret
      exact ⟨by rw [← HRR.out]; rfl, rfl⟩
    | succ gk =>
      have q1 : ((gk + 1 : Nat) : Int) - 1 = (gk : Int) := by omega
      rw [q1]
      have q2 : (0 : Int) ≤ (gk : Int) := by omega
      have e2 : 2 ^ (gk + 1) = 2 ^ gk + 2 ^ gk := by omega
      have HE := Aside0.mk e2
      clear e2
      obtain ⟨y, hy⟩ : ∃ y, y = 2 ^ gk := ⟨_, rfl⟩
      have hyb : x + y ≤ 68719476736 - y := by have := HB.out; have := HE.out; omega
      have hy0 : 0 < y := by rw [hy]; exact Nat.pow_pos (by decide)
      obtain ⟨z, hz⟩ : ∃ z, z = x + y := ⟨_, rfl⟩
      have hy1 : IntKind.u64.wrap ((2 : Int) ^ gk) = (y : Int) := by
        have : ((2 : Int) ^ gk) = (y : Int) := by rw [hy]; simp
        rw [this, IntKind.wrap_u64]
        omega
      have hy2 : IntKind.u64.wrap ((x : Int) + (y : Int)) = (z : Int) := by rw [IntKind.wrap_u64]; omega
      have HZ := Aside0.mk hz
      have HY := Aside0.mk hy
      have HYB := Aside0.mk (And.intro hyb hy0)
      have hzlt : z < 68719476736 := by omega
      have HZL := Aside0.mk hzlt
      clear hz hy hyb hy0 hzlt
      cases hfine : cuQ p z
      · have HFI := Aside0.mk hfine
        clear hfine
        go_wp2_with (go_at_call 43; refine (cube1_any p z g _ HP.out HZL.out HG.out).mono ?_; rintro e w' ⟨rfl, rfl⟩; rw [HFI.out])
        go_roundg gk
        case measure => omega
        case rel =>
          refine ⟨x, by omega, rfl, by congr 1, by have h1 := HB.out; have h2 := HE.out; have h3 := HYB.out; have h4 := HY.out; omega, ?_, rfl⟩
          rw [← HRR.out]
          simp only [rootN]
          rw [← HY.out, ← HZ.out, HFI.out]
          rfl
      · have HFI := Aside0.mk hfine
        clear hfine
        go_wp2_with (go_at_call 43; refine (cube1_any p z g _ HP.out HZL.out HG.out).mono ?_; rintro e w' ⟨rfl, rfl⟩; rw [HFI.out])
        go_roundg gk
        case measure => omega
        case rel =>
          refine ⟨z, by omega, rfl, by congr 1, by have := HB.out; have := HE.out; have := HZ.out; have := HY.out; omega, ?_, rfl⟩
          rw [← HRR.out]
          simp only [rootN]
          rw [← HY.out, ← HZ.out, HFI.out]
          rfl
end Go.Proofs.Ytbafbpfpnfnikaa.Given
