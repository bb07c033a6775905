/- The walk of hamperlaw07.ShaNames: the examples, the errors, the lengths about 64 bytes. Conditions: none (closed). -/
import Derived.Test.YtbafbpfpnfnikaaShaPieces
import Derived.Test.YtbafbpfpnfnikaaShaK
namespace Go.Proofs.Ytbafbpfpnfnikaa.Given
open Go.RowKit Go.Proofs.YtbafbpfpnfnikaaW.PrintWords Go.Proofs.YtbafbpfpnfnikaaW.PrintLast Go.Proofs.YtbafbpfpnfnikaaW.PrintMore
open Go.Proofs.Ytbafbpfpnfnikaa.Row Go.Proofs.Ytbafbpfpnfnikaa.Row.At Go.Proofs.Ytbafbpfpnfnikaa.PShaHmac
set_option maxRecDepth 100000
set_option linter.unusedVariables false
set_option linter.unusedSimpArgs false
theorem manyW_succ (n : Nat) (c : UInt8) : manyW n c ++ ⟨#[c]⟩ = manyW (n + 1) c := by
  apply ba_ext2
  rw [ByteArray.data_append, Array.toList_append]
  simp only [manyW]
  rw [List.replicate_succ']
theorem hmacW_size (key x : ByteArray) : (hmacW key x).size = 32 := by rw [hmacW, shaW_size]
set_option maxHeartbeats 8000000 in
theorem ShaNames_walk (w : World) :
    Calls Try.prog 7 #[] w fun e w' => e = .returned (.bool true) ∧ Below w.heap.size w w' := by
  have HB : Aside0 (Below w.heap.size w w) := ⟨Below.refl _ _⟩
  obtain ⟨m1000, hm1⟩ : ∃ x, x = manyW 1000 97 := ⟨_, rfl⟩
  obtain ⟨m65, hm2⟩ : ∃ x, x = manyW 65 107 := ⟨_, rfl⟩
  obtain ⟨m64, hm3⟩ : ∃ x, x = manyW 64 0 := ⟨_, rfl⟩
  obtain ⟨k64, hm4⟩ : ∃ x, x = manyW 64 107 := ⟨_, rfl⟩
  have z1 : m1000.size = 1000 := by rw [hm1, manyW_size]
  have z2 : m65.size = 65 := by rw [hm2, manyW_size]
  have z3 : m64.size = 64 := by rw [hm3, manyW_size]
  have z4 : k64.size = 64 := by rw [hm4, manyW_size]
  have M1 : Aside0 (∀ w, Calls Try.prog 23 #[.int .i64 1000, .int .u8 97] w fun e w' => e = .returned (.string m1000) ∧ Below w.heap.size w w') := ⟨fun w => by rw [hm1]; exact many_any 1000 97 (by decide) w⟩
  have M2 : Aside0 (∀ w, Calls Try.prog 23 #[.int .i64 65, .int .u8 107] w fun e w' => e = .returned (.string m65) ∧ Below w.heap.size w w') := ⟨fun w => by rw [hm2]; exact many_any 65 107 (by decide) w⟩
  have M3 : Aside0 (∀ w, Calls Try.prog 23 #[.int .i64 64, .int .u8 0] w fun e w' => e = .returned (.string m64) ∧ Below w.heap.size w w') := ⟨fun w => by rw [hm3]; exact many_any 64 0 (by decide) w⟩
  have M4 : Aside0 (∀ w, Calls Try.prog 23 #[.int .i64 64, .int .u8 107] w fun e w' => e = .returned (.string k64) ∧ Below w.heap.size w w') := ⟨fun w => by rw [hm4]; exact many_any 64 107 (by decide) w⟩
  have BG : Aside0 (∀ w, Calls Try.prog 24 #[.string (shaW m1000), .string ⟨#[52, 49, 101, 100, 101, 99, 101, 52]⟩] w fun e w' => e = .returned (.bool true) ∧ Below w.heap.size w w') := ⟨fun w => by rw [hm1]; exact (hamperlaw07_begins.calls 70 _ _ true w begins_1000).mono fun e w' h => ⟨h.1, h.2.below⟩⟩
  have h1 : hmacW (shaW m65) ⟨#[97]⟩ = hmacW m65 ⟨#[97]⟩ := hmac_digest _ _ (by rw [z2]; decide)
  have h2 : hmacW m64 ⟨#[97]⟩ = hmacW ⟨#[]⟩ ⟨#[97]⟩ := by
    have := hmac_noughts ⟨#[]⟩ ⟨#[97]⟩ 64 (by decide)
    rw [empty_app, ← hm3] at this
    exact this
  have h3 : (hmacW k64 ⟨#[]⟩).size = 32 := hmacW_size _ _
  have C1 : Aside0 (∀ w, Calls Try.prog 20 #[.string m65, .string ⟨#[97]⟩] w fun e w' => e = .returned (.string (hmacW m65 ⟨#[97]⟩)) ∧ Below w.heap.size w w') := ⟨fun w => hmac_any _ _ (by omega) (by decide) w⟩
  have C2 : Aside0 (∀ w, Calls Try.prog 20 #[.string (shaW m65), .string ⟨#[97]⟩] w fun e w' => e = .returned (.string (hmacW m65 ⟨#[97]⟩)) ∧ Below w.heap.size w w') := ⟨fun w => by rw [← h1]; exact hmac_any _ _ (by rw [shaW_size]; decide) (by decide) w⟩
  have C3 : Aside0 (∀ w, Calls Try.prog 20 #[.string m64, .string ⟨#[97]⟩] w fun e w' => e = .returned (.string (hmacW ⟨#[]⟩ ⟨#[97]⟩)) ∧ Below w.heap.size w w') := ⟨fun w => by rw [← h2]; exact hmac_any _ _ (by omega) (by decide) w⟩
  have C4 : Aside0 (∀ w, Calls Try.prog 20 #[.string ⟨#[]⟩, .string ⟨#[97]⟩] w fun e w' => e = .returned (.string (hmacW ⟨#[]⟩ ⟨#[97]⟩)) ∧ Below w.heap.size w w') := ⟨fun w => hmac_any _ _ (by decide) (by decide) w⟩
  have C5 : Aside0 (∀ w, Calls Try.prog 20 #[.string k64, .string ⟨#[]⟩] w fun e w' => e = .returned (.string (hmacW k64 ⟨#[]⟩)) ∧ Below w.heap.size w w') := ⟨fun w => hmac_any _ _ (by omega) (by decide) w⟩
  have S1 : Aside0 (∀ w, Calls Try.prog 19 #[.string ⟨#[]⟩] w fun e w' => e = .returned (.string (shaW ⟨#[]⟩)) ∧ Below w.heap.size w w') := ⟨fun w => shaSum0_any _ (by decide) w⟩
  have S2 : Aside0 (∀ w, Calls Try.prog 19 #[.string m1000] w fun e w' => e = .returned (.string (shaW m1000)) ∧ Below w.heap.size w w') := ⟨fun w => shaSum0_any _ (by omega) w⟩
  have S3 : Aside0 (∀ w, Calls Try.prog 19 #[.string m65] w fun e w' => e = .returned (.string (shaW m65)) ∧ Below w.heap.size w w') := ⟨fun w => shaSum0_any _ (by omega) w⟩
  clear hm1 hm2 hm3 hm4 z1 z2 z3 z4 h1 h2
  go_enter Try.func7, Try.ntmps7
  go_wp2_with (first
    | (go_at_call 22; (with_reducible refine (works_any _).mono ?_); rintro e w1 ⟨rfl, hb⟩; have n1 := Aside0.mk (HB.out.trans (hb.mono HB.out.size)); clear HB hb; have HB := n1; clear n1)
    | (go_at_call 16; (with_reducible refine (shaAdd_nil _ _).mono ?_); rintro e w2 ⟨rfl, rfl⟩)
    | (go_at_call 15; (with_reducible refine (copy_nil _).mono ?_); rintro e w2 ⟨rfl, rfl⟩)
    | (go_at_call 17; (with_reducible refine (shaSum_nil _).mono ?_); rintro e w3 ⟨rfl, hb⟩; have n1 := Aside0.mk (HB.out.trans (hb.mono HB.out.size)); clear HB hb; have HB := n1; clear n1)
    | (go_at_call 19; (first | (with_reducible refine (S1.out _).mono ?_) | (with_reducible refine (S2.out _).mono ?_)); rintro e w4 ⟨rfl, hb⟩; have n1 := Aside0.mk (HB.out.trans (hb.mono HB.out.size)); clear HB hb; have HB := n1; clear n1)
    | (go_at_call 23; (with_reducible refine (M1.out _).mono ?_); rintro e w5 ⟨rfl, hb⟩; have n1 := Aside0.mk (HB.out.trans (hb.mono HB.out.size)); clear HB hb; have HB := n1; clear n1)
    | (go_at_call 24; (with_reducible refine (BG.out _).mono ?_); rintro e w6 ⟨rfl, hb⟩; have n1 := Aside0.mk (HB.out.trans (hb.mono HB.out.size)); clear HB hb; have HB := n1; clear n1))
  go_loopg [2] 20 (fun gg s2 wr => ∃ n : Nat, n + gg = 70 ∧ s2 = .int .i64 n ∧ Below w.heap.size w wr)
  case atStart => exact ⟨50, by omega, rfl, HB.out⟩
  case round =>
    obtain ⟨n, hn, rfl, hba⟩ := hrel
    clear HB
    have HB := Aside0.mk hba
    clear hba
    have HN := Aside0.mk hn
    cases gk with
    | zero =>
      have hlt : ¬ ((n : Int) < 70) := by omega
      clear hn
      go_wp2_with (first
        | (go_at_call 23; (first | (with_reducible refine (M2.out _).mono ?_) | (with_reducible refine (M3.out _).mono ?_) | (with_reducible refine (M4.out _).mono ?_)); rintro e w5 ⟨rfl, hb⟩; have n1 := Aside0.mk (HB.out.trans (hb.mono HB.out.size)); clear HB hb; have HB := n1; clear n1)
        | (go_at_call 20; (first | (with_reducible refine (C1.out _).mono ?_) | (with_reducible refine (C2.out _).mono ?_) | (with_reducible refine (C3.out _).mono ?_) | (with_reducible refine (C4.out _).mono ?_) | (with_reducible refine (C5.out _).mono ?_)); rintro e w5 ⟨rfl, hb⟩; have n1 := Aside0.mk (HB.out.trans (hb.mono HB.out.size)); clear HB hb; have HB := n1; clear n1)
        | (go_at_call 19; (with_reducible refine (S3.out _).mono ?_); rintro e w4 ⟨rfl, hb⟩; have n1 := Aside0.mk (HB.out.trans (hb.mono HB.out.size)); clear HB hb; have HB := n1; clear n1))
      go_ret
      exact ⟨rfl, HB.out⟩
    | succ gk =>
      have hlt : (n : Int) < 70 := by omega
      clear hn
      have MN : Aside0 (∀ w, Calls Try.prog 23 #[.int .i64 n, .int .u8 113] w fun e w' => e = .returned (.string (manyW n 113)) ∧ Below w.heap.size w w') := ⟨fun w => many_any n 113 (by have := HN.out; omega) w⟩
      go_wp2_with (go_at_call 14; (with_reducible refine (new_ate _).mono ?_); rintro e w7 ⟨rfl, hn, hb⟩; have H1 := Aside0.mk (OneH.new hn hb HB.out); clear HB hn hb)
      obtain ⟨g, hg⟩ : ∃ g, g = wr.heap.size := ⟨_, rfl⟩
      rw [← hg] at H1 ⊢
      clear hg
      go_loopg [4] n (fun gg s4 wz => ∃ i : Nat, i + gg = n ∧ s4 = .int .i64 i ∧ OneH w g (manyW i 113) wz)
      case atStart => exact ⟨0, by omega, rfl, H1.out⟩
      case round =>
        obtain ⟨i, hi, rfl, hone⟩ := hrel
        clear H1
        have H1 := Aside0.mk hone
        clear hone
        have HN2 := HN.out
        cases gk with
        | zero =>
          have hin : i = n := by omega
          subst hin
          have hl2 : ¬ ((i : Int) < (i : Int)) := by omega
          go_wp2_with (first
            | (go_at_call 17; (with_reducible refine (sum_ate (manyW i 113) (by rw [manyW_size]; have := HN.out; omega) _ _ H1.out.hg).mono ?_); rintro e w4 ⟨rfl, hb⟩; have n1 := Aside0.mk (H1.out.go hb); clear H1 hb; have H1 := n1; clear n1)
            | (go_at_call 23; (with_reducible refine (MN.out _).mono ?_); rintro e w5 ⟨rfl, hb⟩; have n1 := Aside0.mk (H1.out.go hb); clear H1 hb; have H1 := n1; clear n1)
            | (go_at_call 19; (with_reducible refine (shaSum0_any (manyW i 113) (by rw [manyW_size]; have := HN.out; omega) _).mono ?_); rintro e w5 ⟨rfl, hb⟩; have n1 := Aside0.mk (H1.out.go hb); clear H1 hb; have H1 := n1; clear n1)
            | (go_at_call 15; (with_reducible refine (copy_ate (manyW i 113) _ _ H1.out.hg).mono ?_); rintro e w6 ⟨rfl, ha, hb⟩; have H2 := Aside0.mk (H1.out.copy ha hb); clear H1 ha hb)
            | (go_at_call 17; (with_reducible refine (sum_ate (manyW i 113) (by rw [manyW_size]; have := HN.out; omega) _ _ H2.out.hk).mono ?_); rintro e w4 ⟨rfl, hb⟩; have n1 := Aside0.mk (H2.out.go hb); clear H2 hb; have H2 := n1; clear n1))
          go_roundg gk
          case measure => omega
          case rel => exact ⟨i + 1, by omega, rfl, H2.out.bel⟩
        | succ gk2 =>
          have hl2 : (i : Int) < (n : Int) := by omega
          have BQ : Aside0 ((manyW i 113).size + (⟨#[113]⟩ : ByteArray).size ≤ 140737488355000) := ⟨by rw [manyW_size]; show i + 1 ≤ _; omega⟩
          go_wp2_with (go_at_call 16; (with_reducible refine (add_ate (manyW i 113) ⟨#[113]⟩ BQ.out _ _ H1.out.hg).mono ?_); rintro e w3 ⟨rfl, ha, hb⟩; rw [manyW_succ] at ha; have n1 := Aside0.mk (H1.out.add ha hb); clear H1 ha hb; have H1 := n1; clear n1)
          go_roundg gk2
          case measure => omega
          case rel => exact ⟨i + 1, by omega, rfl, H1.out⟩
end Go.Proofs.Ytbafbpfpnfnikaa.Given
