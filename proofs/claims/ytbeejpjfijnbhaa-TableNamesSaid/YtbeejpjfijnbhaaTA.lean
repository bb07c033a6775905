/- Contracts of the closure that looks for a length that may not be, and of the library's IndexFunc and ContainsFunc at it. Conditions: none beside the slice being readable. -/
import Derived.Test.YtbeejpjfijnbhaaG0
namespace Go.Proofs.Ytbeejpjfijnbhaa.Given
open Go.RowKit Go.Proofs.YtbeejpjfijnbhaaW.PrintWords Go.Proofs.YtbeejpjfijnbhaaW.PrintLast Go.Proofs.YtbeejpjfijnbhaaW.PrintMore
set_option linter.unusedVariables false
set_option linter.unusedSimpArgs false

def badB (n : Int) : Bool := decide (n < 0 ∨ 15 < n)

theorem bad_any (n : Int) (w : World) :
    Calls Try.prog 16 #[.int .i64 n] w fun e w' => e = .returned (.bool (badB n)) ∧ w = w' := by
  by_cases h : n < 0
  · have hb : badB n = true := by simp [badB, h]
    rw [hb]
    go_enter Try.func16, Try.ntmps16
    go_wp2
    go_ret
    exact ⟨rfl, rfl⟩
  · by_cases h2 : 15 < n
    · have hb : badB n = true := by simp [badB, h2]
      rw [hb]
      go_enter Try.func16, Try.ntmps16
      go_wp2
      go_ret
      exact ⟨rfl, rfl⟩
    · have hb : badB n = false := by simp [badB, h, h2]
      rw [hb]
      go_enter Try.func16, Try.ntmps16
      go_wp2
      go_ret
      exact ⟨rfl, rfl⟩

theorem idx_none (A : Option Addr) (c : Nat) (l : List Int) (w : World) (hr : Kd.C (Kd.int .i64) w A l.length l) (hc : l.length ≤ c) (hm : l.length ≤ 9223372036854775807)
    (hall : ∀ i : Nat, i < l.length → badB (rd l i) = false) :
    Calls Try.prog 19 #[.slice A l.length c, .func (.func 16) #[] #[]] w fun e w' => e = .returned (.int .i64 (-1)) ∧ w = w' := by
  have HR := Aside0.mk hr
  have HA := Aside0.mk hall
  clear hr hall
  go_enter Try.func19, Try.ntmps19
  go_wp2
  go_loop [8] (fun i => ∃ k : Nat, k ≤ l.length ∧ i = .int .i64 k) (fun i => l.length - (intOf i).toNat)
  case atStart => exact ⟨0, Nat.zero_le _, rfl⟩
  case round =>
    obtain ⟨k, hk, rfl⟩ := hrel
    by_cases hlt : k < l.length
    · obtain ⟨ad, rfl, hx⟩ := Kd.at_int HR.out k (by omega) (by omega)
      rw [Int.toNat_natCast] at hx
      have hb := HA.out k hlt
      go_wp2_with (go_at_call 16; refine (bad_any _ _).mono ?_; rintro e w' ⟨rfl, rfl⟩)
      go_round
      case rel => exact ⟨k + 1, by omega, by go_num⟩
      case measure => simp [intOf]; omega
    · go_wp2
      go_ret
      exact ⟨rfl, rfl⟩

def SomeIdx (w : World) (e : Ending) (w' : World) : Prop := ∃ j : Int, 0 ≤ j ∧ e = .returned (.int .i64 j) ∧ w = w'
theorem SomeIdx.mk (w : World) (k : Nat) : SomeIdx w (.returned (.int .i64 (k : Int))) w := ⟨k, by omega, rfl, rfl⟩
def Left (l : List Int) (k : Nat) : Prop := ∃ j, k ≤ j ∧ j < l.length ∧ badB (rd l j) = true
theorem idx_some (A : Option Addr) (c : Nat) (l : List Int) (w : World) (hr : Kd.C (Kd.int .i64) w A l.length l) (hc : l.length ≤ c) (hm : l.length ≤ 9223372036854775807)
    (hex : Left l 0) :
    Calls Try.prog 19 #[.slice A l.length c, .func (.func 16) #[] #[]] w (SomeIdx w) := by
  have HR := Aside0.mk hr
  clear hr
  go_enter Try.func19, Try.ntmps19
  go_wp2
  go_loop [8] (fun i => ∃ k : Nat, k ≤ l.length ∧ i = .int .i64 k ∧ Left l k) (fun i => l.length - (intOf i).toNat)
  case atStart => exact ⟨0, Nat.zero_le _, rfl, hex⟩
  case round =>
    obtain ⟨k, hk, rfl, hleft⟩ := hrel
    have hlt : k < l.length := by obtain ⟨j, h1, h2, _⟩ := hleft; omega
    obtain ⟨ad, rfl, hx⟩ := Kd.at_int HR.out k (by omega) (by omega)
    rw [Int.toNat_natCast] at hx
    by_cases hb : badB (rd l k) = true
    · go_wp2_with (go_at_call 16; refine (bad_any _ _).mono ?_; rintro e w' ⟨rfl, rfl⟩)
      go_ret
      exact SomeIdx.mk _ _
    · have hb' : badB (rd l k) = false := by simpa using hb
      clear hb
      have hl2 : Left l (k + 1) := by
        obtain ⟨j, h1, h2, h3⟩ := hleft
        refine ⟨j, ?_, h2, h3⟩
        rcases Nat.lt_or_ge k j with h | h
        · omega
        · have : j = k := by omega
          rw [this, hb'] at h3
          cases h3
      go_wp2_with (go_at_call 16; refine (bad_any _ _).mono ?_; rintro e w' ⟨rfl, rfl⟩)
      go_round
      case rel => exact ⟨k + 1, by omega, by go_num, hl2⟩
      case measure => simp [intOf]; omega

theorem contains_any (A : Option Addr) (c : Nat) (l : List Int) (w : World) (hr : Kd.C (Kd.int .i64) w A l.length l) (hc : l.length ≤ c) (hm : l.length ≤ 9223372036854775807) :
    Calls Try.prog 15 #[.slice A l.length c, .func (.func 16) #[] #[]] w fun e w' => e = .returned (.bool (l.any badB)) ∧ w = w' := by
  by_cases h : l.any badB = true
  · have hex : Left l 0 := by
      obtain ⟨x, hx, hb⟩ := List.any_eq_true.1 h
      obtain ⟨j, hj, rfl⟩ := List.getElem_of_mem hx
      exact ⟨j, Nat.zero_le _, hj, by simpa [rd, List.getD, hj] using hb⟩
    rw [h]
    go_enter Try.func15, Try.ntmps15
    go_wp2_with (go_at_call 19; refine (idx_some A c l _ hr hc hm hex).mono ?_; rintro e w' ⟨j, hj, rfl, rfl⟩)
    go_ret
    exact ⟨rfl, rfl⟩
  · have h' : l.any badB = false := by simpa using h
    rw [h']
    have hall : ∀ i : Nat, i < l.length → badB (rd l i) = false := by
      intro i hi
      have := List.any_eq_false.1 h' l[i] (List.getElem_mem hi)
      simpa [rd, List.getD, hi] using this
    go_enter Try.func15, Try.ntmps15
    go_wp2_with (go_at_call 19; refine (idx_none A c l _ hr hc hm hall).mono ?_; rintro e w' ⟨rfl, rfl⟩)
    go_ret
    exact ⟨rfl, rfl⟩
end Go.Proofs.Ytbeejpjfijnbhaa.Given
