/- The contract of hamperref08.Stretch. Conditions: as it is called. -/
import Derived.Test.YtbafbpfpnfnikaaRefH
import Derived.Test.YtbafbpfpnfnikaaDerQ
import Derived.Test.YtbafbpfpnfnikaaBuf
namespace Go.Proofs.Ytbafbpfpnfnikaa.Given
open Go.RowKit Go.Proofs.YtbafbpfpnfnikaaW.PrintWords Go.Proofs.YtbafbpfpnfnikaaW.PrintLast Go.Proofs.YtbafbpfpnfnikaaW.PrintMore
open Go.Proofs.Ytbafbpfpnfnikaa.Row Go.Proofs.Ytbafbpfpnfnikaa.Row.At
set_option maxRecDepth 100000
set_option linter.unusedVariables false
set_option linter.unusedSimpArgs false
theorem uN_size1 (pw first : ByteArray) (n : Nat) (h : 1 ≤ n) : (uN pw first n).size = 32 := by
  obtain ⟨k, rfl⟩ : ∃ k, n = k + 1 := ⟨n - 1, by omega⟩
  exact uN_size _ _ _
set_option maxHeartbeats 2000000 in
theorem refStretch_ok (pw salt : ByteArray) (rounds block : Nat) (w : World) (hp : pw.size ≤ 64) (hs : salt.size = 16) (hr1 : 1 ≤ rounds) (hr2 : rounds ≤ 64) (hb1 : 1 ≤ block) (hb2 : block ≤ 2147483647) :
    Calls Try.prog 29 #[.string pw, .string salt, .int .i64 rounds, .int .i64 block] w fun e w' => e = .returned (.tuple #[.string (stretchW pw salt rounds block), .int .i64 0]) ∧ Below w.heap.size w w' := by
  have g1 : ¬ ((64 : Int) < (pw.size : Int)) := by omega
  have g2 : ((salt.size : Int) != 16) = false := by rw [hs]; rfl
  have g2b : (salt.size : Int) = 16 := by omega
  have g3 : ¬ ((rounds : Int) < 1) := by omega
  have g4 : ¬ ((64 : Int) < (rounds : Int)) := by omega
  have g5 : ¬ ((block : Int) < 1) := by omega
  have g6 : ¬ ((2147483647 : Int) < (block : Int)) := by omega
  have cv := num_conv block hb2 w
  have l0 : salt.size + (numB block).size ≤ 9223372036854775807 := by rw [hs, numB_size]; decide
  have HR := Aside0.mk (And.intro hr1 hr2)
  have HM1 : Aside0 (∀ w, Calls Try.prog 21 #[.string pw, .string (salt ++ numB block)] w fun e w' => e = .returned (.string (uN pw (salt ++ numB block) 1)) ∧ Below w.heap.size w w') := ⟨fun w => refHmac_any pw _ (by omega) (by rw [ByteArray.size_append, hs, numB_size]; omega) w⟩
  have HMN : Aside0 (∀ n w, 1 ≤ n → Calls Try.prog 21 #[.string pw, .string (uN pw (salt ++ numB block) n)] w fun e w' => e = .returned (.string (uN pw (salt ++ numB block) (n + 1))) ∧ Below w.heap.size w w') := ⟨fun n w hn => refHmac_any pw _ (by omega) (by rw [uN_size1 _ _ _ hn]; omega) w⟩
  have HRES : Aside0 (stretchW pw salt rounds block = ⟨(accL (textsL pw (salt ++ numB block) rounds)).toArray⟩) := ⟨rfl⟩
  obtain ⟨res, hres⟩ : ∃ r, r = stretchW pw salt rounds block := ⟨_, rfl⟩
  rw [← hres] at HRES ⊢
  have HT1 : Aside0 ((uN pw (salt ++ numB block) 1).data.toList = accL (textsL pw (salt ++ numB block) 1)) := ⟨(xorA_zero (uN pw (salt ++ numB block) 1) (uN_size1 _ _ _ (Nat.le_refl _))).symm⟩
  obtain ⟨first, hfirst⟩ : ∃ f, f = salt ++ numB block := ⟨_, rfl⟩
  rw [← hfirst] at HM1 HMN HRES HT1
  have HF := Aside0.mk hfirst
  obtain ⟨u1, hu1⟩ : ∃ u, u = uN pw first 1 := ⟨_, rfl⟩
  have hu1s : u1.size = 32 := by rw [hu1]; exact uN_size1 _ _ _ (Nat.le_refl _)
  have HU1 := Aside0.mk hu1
  have HU1s := Aside0.mk hu1s
  rw [← hu1] at HM1 HT1
  rw [hfirst] at HM1
  clear hp hs hr1 hr2 hb1 hb2 hres hfirst hu1 hu1s
  go_enter Try.func29, Try.ntmps29
  go_wp2_with (go_at_call 21; (with_reducible refine (HM1.out _).mono ?_); rintro e w1 ⟨rfl, hb⟩; have HB := Aside0.mk (((Below.refl _ w).alloc (Nat.le_refl _) _).trans (hb.mono (by simp))); clear hb; have hconv := Lib.run_convert_string_bytes (P := Try.prog) w1 9 37 5 u1 Try.underlying9 Try.underlying37 Try.underlying5; rw [HU1s.out] at hconv)
  have HG0 := Aside0.mk (Buf.ofString w1 5 u1)
  rw [HT1.out] at HG0
  have HB0 : Aside0 (Below w.heap.size w (Lib.bytesWorld w1 5 u1)) := ⟨HB.out.trans ((Lib.bytesWorld_below w1 5 u1).mono HB.out.size)⟩
  have HGW : Aside0 (w.heap.size ≤ w1.heap.size) := ⟨HB.out.size⟩
  obtain ⟨g, hg⟩ : ∃ g, g = w1.heap.size := ⟨_, rfl⟩
  obtain ⟨w2, hw2⟩ : ∃ w2, w2 = Lib.bytesWorld w1 5 u1 := ⟨_, rfl⟩
  obtain ⟨cap, hcap⟩ : ∃ cap, cap = grownCap w1 32 0 5 := ⟨_, rfl⟩
  rw [← hw2, ← hg] at HG0
  rw [← hw2] at HB0
  rw [← hg] at HGW
  rw [← hw2, ← hcap, ← hg]
  clear hconv HB hw2 hcap hg
  go_loopg [10, 12] (rounds - 1) (fun gg s10 s12 wr => ∃ i : Nat, 1 ≤ i ∧ i + gg = rounds ∧ s12 = .int .i64 i ∧ s10 = .string (uN pw first i) ∧ Buf wr g 5 (accL (textsL pw first i)) ∧ Below w.heap.size w wr)
  case atStart => exact ⟨1, Nat.le_refl _, by have := HR.out; omega, rfl, by rw [HU1.out], HG0.out, HB0.out⟩
  case round =>
    obtain ⟨i, hi1, hi, rfl, rfl, hga, hba⟩ := hrel
    have HG := Aside0.mk hga; have HB := Aside0.mk hba
    have HL := Aside0.mk (accL_length (textsL pw first i) (textsL_size pw first i))
    clear hga hba HG0 HB0
    obtain ⟨acc, hacc⟩ : ∃ a, a = accL (textsL pw first i) := ⟨_, rfl⟩
    have HACC := Aside0.mk hacc
    rw [← hacc] at HG HL
    have HI := Aside0.mk (And.intro hi1 hi)
    cases gk with
    | zero =>
      have hin : i = rounds := by omega
      subst hin
      have hlt : ¬ ((i : Int) < (i : Int)) := by omega
      have hconv : (convert 37 9 (.slice (some ⟨g, 0, none⟩) 32 cap)).run Try.prog wr = .ok (.string res) wr := by
        have := run_convert_bytes_back (P := Try.prog) wr 37 9 5 ⟨g, 0, none⟩ cap acc Try.underlying37 Try.underlying5 Try.underlying9 (fun j hj => by
          rw [Addr.add_mid, Nat.zero_add, HG.out.cell8 j hj]
          simp [gb, List.getD_eq_getElem?_getD, hj])
        rw [HL.out, hacc, ← HRES.out] at this
        exact this
      clear hacc hi1 hi
      go_wp2
      exact bodyPost_ret (res_tt rfl _ _ _ _ rfl rfl) rfl ⟨rfl, HB.out⟩
    | succ gk1 =>
      have hlt : (i : Int) < (rounds : Int) := by omega
      obtain ⟨u, hu⟩ : ∃ u, u = uN pw first (i + 1) := ⟨_, rfl⟩
      have HU := Aside0.mk hu
      have HUs : Aside0 (u.size = 32) := ⟨by rw [hu]; exact uN_size1 _ _ _ (by omega)⟩
      have HM2 : Aside0 (∀ w, Calls Try.prog 21 #[.string pw, .string (uN pw first i)] w fun e w' => e = .returned (.string u) ∧ Below w.heap.size w w') := ⟨fun w => by rw [hu]; exact HMN.out i w HI.out.1⟩
      clear hacc hi1 hi hu
      go_wp2_with (go_at_call 21; (with_reducible refine (HM2.out _).mono ?_); rintro e w3 ⟨rfl, hb⟩; have n1 := Aside0.mk (HG.out.go hb); have n2 := Aside0.mk (HB.out.trans (hb.mono HB.out.size)); clear HG HB hb; have HG := n1; have HB := n2; clear n1 n2)
      have HG0 : Aside0 (Buf w3 g 5 (xorN acc u 0)) := ⟨by rw [xorN_zero]; exact HG.out⟩
      clear HG
      go_loopg [13] 32 (fun gg s13 wr => ∃ k : Nat, k + gg = 32 ∧ s13 = .int .i64 k ∧ Buf wr g 5 (xorN acc u k) ∧ Below w.heap.size w wr)
      case atStart => exact ⟨0, by omega, rfl, HG0.out, HB.out⟩
      case round =>
        obtain ⟨k, hk, rfl, hga, hba⟩ := hrel
        clear HG0 HB
        have HG := Aside0.mk hga; have HB := Aside0.mk hba
        have HLX := Aside0.mk (xorN_length acc u k HL.out HUs.out)
        clear hga hba
        cases gk with
        | zero =>
          have hk32 : k = 32 := by omega
          subst hk32
          have HE : Aside0 (xorN acc u 32 = accL (textsL pw first (i + 1))) := ⟨by rw [xorN_all _ _ HL.out HUs.out, textsL_succ, accL_snoc, HACC.out, HU.out]⟩
          rw [HE.out] at HG
          have hi64 : (i : Int) ≤ 64 := by have := HI.out; have := HR.out; omega
          clear hk hlt
          go_wp2
          go_roundg gk1
          case measure => omega
          case rel => exact ⟨i + 1, by omega, by have := HI.out; omega, rfl, by rw [HU.out], HG.out, HB.out⟩
        | succ gk2 =>
          have hklt : (k : Int) < 32 := by omega
          have hkn : k < 32 := by omega
          have HK := Aside0.mk (And.intro hk hkn)
          have c1 := HG.out.cell8 k (by rw [HLX.out]; omega)
          have f1 := HG.out.frozen k (by rw [HLX.out]; omega)
          have i1 := index_text u k (by have := HUs.out; omega)
          clear hk hkn hlt
          go_wp2
          refine wp_region_still_tail 10 (by kernel_rfl) (by kernel_rfl) ?_
          simp only [List.take_succ_cons, List.take_zero, List.drop_succ_cons, List.drop_zero]
          iterate 10 still_step
          refine wpStill_nil ?_
          change wpList _ _ _ _ _ wr.drew
          have c1' : wr.drew.cell? { block := g, off := k } = some (Value.int IntKind.u8 ↑(gb (xorN acc u k) k).toNat) := c1
          have f1' : wr.drew.frozen? { block := g, off := k } = false := f1
          rw [u8x]
          obtain ⟨z, hz⟩ : ∃ z, z = gb (xorN acc u k) k ^^^ gb u.data.toList k := ⟨_, rfl⟩
          rw [← hz]
          have HZ := Aside0.mk hz
          clear c1 f1 i1 hz
          go_wp2
          go_roundg gk2
          case measure => omega
          case rel =>
            refine ⟨k + 1, by have := HK.out; omega, rfl, ?_, HB.out.drew.setCell HGW.out _⟩
            have h2 := (HG.out.drew).set8 k (by rw [HLX.out]; exact HK.out.2) z
            rw [HZ.out] at h2 ⊢
            rw [xorN_set _ _ k HL.out HUs.out HK.out.2] at h2
            exact h2
theorem refStretch_arg (pw salt : ByteArray) (rounds block : Int) (w : World) (h : ¬ (pw.size ≤ 64 ∧ salt.size = 16 ∧ 1 ≤ rounds ∧ rounds ≤ 64 ∧ 1 ≤ block ∧ block ≤ 2147483647)) :
    Calls Try.prog 29 #[.string pw, .string salt, .int .i64 rounds, .int .i64 block] w fun e w' => e = .returned (.tuple #[.string ⟨#[]⟩, .int .i64 1]) ∧ w' = w := by
  by_cases g1 : (64 : Int) < (pw.size : Int)
  · clear h
    go_enter Try.func29, Try.ntmps29
    go_wp2
    exact bodyPost_ret (res_tt rfl _ _ _ _ rfl rfl) rfl ⟨rfl, rfl⟩
  by_cases g2 : (salt.size : Int) = 16
  · by_cases g3 : rounds < 1
    · clear h
      go_enter Try.func29, Try.ntmps29
      go_wp2
      exact bodyPost_ret (res_tt rfl _ _ _ _ rfl rfl) rfl ⟨rfl, rfl⟩
    by_cases g4 : 64 < rounds
    · clear h
      go_enter Try.func29, Try.ntmps29
      go_wp2
      exact bodyPost_ret (res_tt rfl _ _ _ _ rfl rfl) rfl ⟨rfl, rfl⟩
    by_cases g5 : block < 1
    · clear h
      go_enter Try.func29, Try.ntmps29
      go_wp2
      exact bodyPost_ret (res_tt rfl _ _ _ _ rfl rfl) rfl ⟨rfl, rfl⟩
    have g6 : 2147483647 < block := by omega
    clear h
    go_enter Try.func29, Try.ntmps29
    go_wp2
    exact bodyPost_ret (res_tt rfl _ _ _ _ rfl rfl) rfl ⟨rfl, rfl⟩
  · have g3 : ((salt.size : Int) != 16) = true := by simp [g2]
    clear h g2
    go_enter Try.func29, Try.ntmps29
    go_wp2
    exact bodyPost_ret (res_tt rfl _ _ _ _ rfl rfl) rfl ⟨rfl, rfl⟩
/-- What hamperref08.Stretch tells. -/
def ref08_Stretch.f (a0 a1 : ByteArray) (a2 a3 : Int) : Option (ByteArray × Int) :=
  if a0.size ≤ 64 ∧ a1.size = 16 ∧ 1 ≤ a2 ∧ a2 ≤ 64 ∧ 1 ≤ a3 ∧ a3 ≤ 2147483647 then some (stretchW a0 a1 a2.toNat a3.toNat, 0) else some (⟨#[]⟩, 1)
theorem ref08_Stretch.calls (a0 a1 : ByteArray) (a2 a3 : Int) (r1 : ByteArray) (r2 : Int) (w : World) (h : ref08_Stretch.f a0 a1 a2 a3 = some (r1, r2)) :
    Calls Try.prog 29 #[.string a0, .string a1, .int .i64 a2, .int .i64 a3] w fun e w' => e = .returned (.tuple #[.string r1, .int .i64 r2]) ∧ Below w.heap.size w w' := by
  unfold ref08_Stretch.f at h
  split at h
  · rename_i hd
    have e := Option.some.inj h
    obtain ⟨h1, h2, h3, h4, h5, h6⟩ := hd
    have e2 : (a2.toNat : Int) = a2 := by omega
    have e3 : (a3.toNat : Int) = a3 := by omega
    have := refStretch_ok a0 a1 a2.toNat a3.toNat w h1 h2 (by omega) (by omega) (by omega) (by omega)
    rw [e2, e3] at this
    injection e with e4 e5
    subst e4; subst e5
    exact this
  · rename_i hd
    have e := Option.some.inj h
    injection e with e4 e5
    subst e4; subst e5
    exact (refStretch_arg a0 a1 a2 a3 w hd).mono fun e w' ⟨h1, h2⟩ => ⟨h1, by rw [h2]; exact Below.refl _ _⟩
end Go.Proofs.Ytbafbpfpnfnikaa.Given
