/- Contracts of the loop that makes AES' stand-ins. Conditions: the cipher's block is new, all noughts. -/
import Derived.Test.YtfbcgpgpfpnpnaaAesA
namespace Go.Proofs.Ytfbcgpgpfpnpnaa.Given
open Go.RowKit Go.Proofs.YtfbcgpgpfpnpnaaW.PrintWords Go.Proofs.YtfbcgpgpfpnpnaaW.PrintLast Go.Proofs.YtfbcgpgpfpnpnaaW.PrintMore
open Go.Proofs.Ytfbcgpgpfpnpnaa.Row Go.Proofs.Ytfbcgpgpfpnpnaa.Aes
set_option maxRecDepth 100000
set_option linter.unusedVariables false
set_option linter.unusedSimpArgs false
attribute [-simp] Try.isAgg49 Try.sizeOf49

theorem rot1 (q : UInt8) (w : World) : Calls Try.prog 53 #[.int .u8 q.toNat, .int .i64 1] w fun e w' => e = .returned (.int .u8 (rotl q 1).toNat) ∧ w = w' := by
  have b : bits .and .u64 1 7 = 1 := by decide +kernel
  have key : ∀ n : Nat, n < 256 → bits .or .u8 ((n : Int) * 2 % 256) ((n : Int) / 128) = ((rotl (UInt8.ofNat n) 1).toNat : Int) := by decide +kernel
  have HK := Aside0.mk (key q.toNat q.toNat_lt)
  clear key
  go_enter Try.func53, Try.ntmps53
  go_wp2
  have hk := HK.out
  rw [UInt8.ofNat_toNat] at hk
  rw [hk]
  go_ret
  exact ⟨rfl, rfl⟩
theorem rot2 (q : UInt8) (w : World) : Calls Try.prog 53 #[.int .u8 q.toNat, .int .i64 2] w fun e w' => e = .returned (.int .u8 (rotl q 2).toNat) ∧ w = w' := by
  have b : bits .and .u64 2 7 = 2 := by decide +kernel
  have key : ∀ n : Nat, n < 256 → bits .or .u8 ((n : Int) * 4 % 256) ((n : Int) / 64) = ((rotl (UInt8.ofNat n) 2).toNat : Int) := by decide +kernel
  have HK := Aside0.mk (key q.toNat q.toNat_lt)
  clear key
  go_enter Try.func53, Try.ntmps53
  go_wp2
  have hk := HK.out
  rw [UInt8.ofNat_toNat] at hk
  rw [hk]
  go_ret
  exact ⟨rfl, rfl⟩
theorem rot3 (q : UInt8) (w : World) : Calls Try.prog 53 #[.int .u8 q.toNat, .int .i64 3] w fun e w' => e = .returned (.int .u8 (rotl q 3).toNat) ∧ w = w' := by
  have b : bits .and .u64 3 7 = 3 := by decide +kernel
  have key : ∀ n : Nat, n < 256 → bits .or .u8 ((n : Int) * 8 % 256) ((n : Int) / 32) = ((rotl (UInt8.ofNat n) 3).toNat : Int) := by decide +kernel
  have HK := Aside0.mk (key q.toNat q.toNat_lt)
  clear key
  go_enter Try.func53, Try.ntmps53
  go_wp2
  have hk := HK.out
  rw [UInt8.ofNat_toNat] at hk
  rw [hk]
  go_ret
  exact ⟨rfl, rfl⟩
theorem rot4 (q : UInt8) (w : World) : Calls Try.prog 53 #[.int .u8 q.toNat, .int .i64 4] w fun e w' => e = .returned (.int .u8 (rotl q 4).toNat) ∧ w = w' := by
  have b : bits .and .u64 4 7 = 4 := by decide +kernel
  have key : ∀ n : Nat, n < 256 → bits .or .u8 ((n : Int) * 16 % 256) ((n : Int) / 16) = ((rotl (UInt8.ofNat n) 4).toNat : Int) := by decide +kernel
  have HK := Aside0.mk (key q.toNat q.toNat_lt)
  clear key
  go_enter Try.func53, Try.ntmps53
  go_wp2
  have hk := HK.out
  rw [UInt8.ofNat_toNat] at hk
  rw [hk]
  go_ret
  exact ⟨rfl, rfl⟩

theorem rot_any (q : UInt8) (k : Int) (hk : k = 1 ∨ k = 2 ∨ k = 3 ∨ k = 4) (w : World) : Calls Try.prog 53 #[.int .u8 q.toNat, .int .i64 k] w fun e w' => e = .returned (.int .u8 (rotl q k.toNat).toNat) ∧ w = w' := by
  rcases hk with rfl | rfl | rfl | rfl
  · exact rot1 q w
  · exact rot2 q w
  · exact rot3 q w
  · exact rot4 q w
theorem u8x99 (a : UInt8) : bits .xor .u8 (a.toNat : Int) 99 = ((a ^^^ 99).toNat : Int) := u8x a 99
theorem times3 (a : UInt8) (w : World) : Calls Try.prog 37 #[.int .u8 a.toNat, .int .u8 3] w fun e w' => e = .returned (.int .u8 (times a 3).toNat) ∧ w = w' := times_any a 3 w
theorem timesF6 (a : UInt8) (w : World) : Calls Try.prog 37 #[.int .u8 a.toNat, .int .u8 246] w fun e w' => e = .returned (.int .u8 (times a 246).toNat) ∧ w = w' := times_any a 246 w
theorem times2 (a : UInt8) (w : World) : Calls Try.prog 37 #[.int .u8 a.toNat, .int .u8 2] w fun e w' => e = .returned (.int .u8 (times a 2).toNat) ∧ w = w' := times_any a 2 w
theorem u8_one (p : UInt8) : ((p.toNat : Int) == 1) = decide (p = 1) := by
  have key : ∀ n : Nat, n < 256 → ((n : Int) == 1) = decide (UInt8.ofNat n = 1) := by decide +kernel
  have := key p.toNat p.toNat_lt
  rwa [UInt8.ofNat_toNat] at this
set_option maxHeartbeats 1000000 in
theorem standIns_any (g : Nat) (w : World) (h : At w g 49 (b8s (cells 0))) :
    Calls Try.prog 36 #[.pointer (some ⟨g, 0, none⟩)] w fun e w' => e = .returned (.tuple #[]) ∧ At w' g 49 (b8s standCells) ∧ Below g w w' := by
  have HA := Aside0.mk h
  clear h
  go_enter Try.func36, Try.ntmps36
  go_wp2
  go_loopg [2, 3] 254 (fun gg s2 s3 wx => ∃ n : Nat, n + gg = 254 ∧ s2 = .int .u8 (pq n).1.toNat ∧ s3 = .int .u8 (pq n).2.toNat ∧ At wx g 49 (b8s (cells n)) ∧ Below g w wx)
  case atStart => exact ⟨0, by omega, rfl, rfl, HA.out, Below.refl _ _⟩
  case round =>
    obtain ⟨n, hn, rfl, rfl, hc, hb⟩ := hrel
    have HC := Aside0.mk hc; have HB := Aside0.mk hb
    clear hc hb
    obtain ⟨p, hp⟩ : ∃ p, p = (pq n).1 := ⟨_, rfl⟩
    obtain ⟨q, hq⟩ : ∃ q, q = (pq n).2 := ⟨_, rfl⟩
    rw [← hp, ← hq]
    have HP := Aside0.mk hp; have HQ := Aside0.mk hq
    clear hp hq
    go_wp2_with (go_at_call 53; (with_reducible refine (rot_any q _ (by decide) _).mono ?_); rintro e w' ⟨rfl, rfl⟩)
    rw [u8x, u8x, u8x, u8x, u8x99]
    obtain ⟨s, hs⟩ : ∃ s, s = standIn q := ⟨_, rfl⟩
    rw [show q ^^^ rotl q 1 ^^^ rotl q 2 ^^^ rotl q 3 ^^^ rotl q 4 ^^^ 99 = s from hs.symm]
    have HS := Aside0.mk hs
    clear hs
    have hp := p.toNat_lt
    have hs := s.toNat_lt
    have c1 := HC.out.cell8 (240 + p.toNat) (by rw [cells_length]; omega)
    have c2 := HC.out.cell8 (496 + s.toNat) (by rw [cells_length]; omega)
    have f1 := HC.out.frozen (240 + p.toNat)
    have f2 := HC.out.frozen (496 + s.toNat)
    go_region
    have hnext : (pq (n + 1)).1 = times p 3 ∧ (pq (n + 1)).2 = times q 246 := ⟨by rw [pq, ← HP.out], by rw [pq, ← HQ.out]⟩
    have HNX := Aside0.mk hnext
    have hcells : (cells n).set (240 + p.toNat) s = (cells n).set (240 + (pq n).1.toNat) (standIn (pq n).2) ∧ ((cells n).set (240 + p.toNat) s).set (496 + s.toNat) p = cells (n + 1) := by
      have hs : s = standIn (pq n).2 := by rw [HS.out, HQ.out]
      exact ⟨by rw [← HP.out, hs], by rw [cells, ← HP.out, ← hs]⟩
    have HCE := Aside0.mk hcells
    clear hnext hcells c1 c2 f1 f2 hp hs
    by_cases h254 : n = 254
    · have hone : ((times p 3).toNat : Int) == 1 := by
        have := pq_one (n + 1) (by omega)
        rw [HNX.out.1] at this
        rw [u8_one, this]
        simp [h254]
      have HC2 : At ((wr.setCell { block := g, off := 240 + p.toNat } (Value.int IntKind.u8 ↑s.toNat)).setCell { block := g, off := 496 + s.toNat } (Value.int IntKind.u8 ↑p.toNat)).drew g 49 (b8s (cells 255)) := by
        have := (HC.out.set8 (240 + p.toNat) s).drewSet8 (496 + s.toNat) p
        rw [HCE.out.2, h254] at this
        exact this
      have HB2 := Aside0.mk (((HB.out.setCell (p := ⟨g, 240 + p.toNat, none⟩) (Nat.le_refl _) (Value.int IntKind.u8 ↑s.toNat)).setCell (p := ⟨g, 496 + s.toNat, none⟩) (Nat.le_refl _) (Value.int IntKind.u8 ↑p.toNat)).drew)
      generalize ((wr.setCell { block := g, off := 240 + p.toNat } (Value.int IntKind.u8 ↑s.toNat)).setCell { block := g, off := 496 + s.toNat } (Value.int IntKind.u8 ↑p.toNat)).drew = w2 at *
      have HC3 := Aside0.mk HC2
      have c1 := HC2.cell8 240 (by rw [cells_length]; omega)
      have c2 := HC2.cell8 595 (by rw [cells_length]; omega)
      have f1 := HC2.frozen 240
      have f2 := HC2.frozen 595
      clear HC2
      go_wp2_with (go_at_call 37; (first | (with_reducible refine (times3 _ _).mono ?_) | (with_reducible refine (timesF6 _ _).mono ?_)); rintro e w' ⟨rfl, rfl⟩)
      go_region
      go_wp2
      go_end0
      exact ⟨rfl, (HC3.out.set8 240 99).drewSet8 595 0, ((HB2.out.setCell (Nat.le_refl _) _).setCell (Nat.le_refl _) _).drew⟩
    · have hone : (((times p 3).toNat : Int) == 1) = false := by
        have := pq_one (n + 1) (by omega)
        rw [HNX.out.1] at this
        rw [u8_one, this]
        simp; omega
      obtain ⟨gn, rfl⟩ : ∃ gn, gk = gn + 1 := ⟨gk - 1, by omega⟩
      go_wp2_with (go_at_call 37; (first | (with_reducible refine (times3 _ _).mono ?_) | (with_reducible refine (timesF6 _ _).mono ?_)); rintro e w' ⟨rfl, rfl⟩)
      go_roundg gn
      case measure => omega
      case rel =>
        refine ⟨n + 1, by omega, by rw [HNX.out.1], by rw [HNX.out.2], ?_, ((HB.out.setCell (Nat.le_refl _) _).setCell (Nat.le_refl _) _).drew⟩
        have := (HC.out.set8 (240 + p.toNat) s).drewSet8 (496 + s.toNat) p
        rw [HCE.out.2] at this
        exact this
end Go.Proofs.Ytfbcgpgpfpnpnaa.Given
