/- The contract of hamperlaw08.xor. Conditions: texts of 32 bytes. -/
import Derived.Test.YtbafbpfpnfnikaaDerP
import Derived.Test.YtbafbpfpnfnikaaBuf
namespace Go.Proofs.Ytbafbpfpnfnikaa.Given
open Go.RowKit Go.Proofs.YtbafbpfpnfnikaaW.PrintWords Go.Proofs.YtbafbpfpnfnikaaW.PrintLast Go.Proofs.YtbafbpfpnfnikaaW.PrintMore
open Go.Proofs.Ytbafbpfpnfnikaa.Row Go.Proofs.Ytbafbpfpnfnikaa.Row.At
set_option maxRecDepth 100000
set_option linter.unusedVariables false
set_option linter.unusedSimpArgs false
set_option maxHeartbeats 1000000 in
theorem xor32 (a b : ByteArray) (ha : a.size = 32) (hb : b.size = 32) (w : World) :
    Calls Try.prog 30 #[.string a, .string b] w fun e w' => e = .returned (.string ⟨(xorA a.data.toList b).toArray⟩) ∧ Below w.heap.size w w' := by
  have hal : a.data.toList.length = 32 := ha
  have HS := Aside0.mk (And.intro hal hb)
  have hconv := Lib.run_convert_string_bytes (P := Try.prog) w 9 37 5 a Try.underlying9 Try.underlying37 Try.underlying5
  have HG0 : Aside0 (Buf (Lib.bytesWorld w 5 a) w.heap.size 5 (xorN a.data.toList b 0)) := ⟨by rw [xorN_zero]; exact Buf.ofString w _ a⟩
  have HB0 := Aside0.mk (Lib.bytesWorld_below w 5 a)
  obtain ⟨w1, hw1⟩ : ∃ w1, w1 = Lib.bytesWorld w 5 a := ⟨_, rfl⟩
  obtain ⟨cap, hcap⟩ : ∃ cap, cap = grownCap w a.size 0 5 := ⟨_, rfl⟩
  rw [← hw1] at HG0 HB0 hconv
  rw [← hcap, ha] at hconv
  clear hw1 hcap ha hal
  have hb2 : (b.size : Int) = 32 := by omega
  clear hb
  go_enter Try.func30, Try.ntmps30
  go_wp2
  go_loopg [6] 32 (fun gg s6 wr => ∃ i : Nat, i + gg = 32 ∧ s6 = .int .i64 i ∧ Buf wr w.heap.size 5 (xorN a.data.toList b i) ∧ Below w.heap.size w wr)
  case atStart => exact ⟨0, by omega, rfl, HG0.out, HB0.out⟩
  case round =>
    obtain ⟨i, hi, rfl, hga, hba⟩ := hrel
    have HG := Aside0.mk hga; have HB := Aside0.mk hba
    have HL := Aside0.mk (xorN_length a.data.toList b i HS.out.1 HS.out.2)
    clear hga hba HG0 HB0 hconv
    cases gk with
    | zero =>
      have hin : i = 32 := by omega
      subst hin
      have hconv : (convert 37 9 (.slice (some ⟨w.heap.size, 0, none⟩) 32 cap)).run Try.prog wr = .ok (.string ⟨(xorA a.data.toList b).toArray⟩) wr := by
        have := run_convert_bytes_back (P := Try.prog) wr 37 9 5 ⟨w.heap.size, 0, none⟩ cap (xorN a.data.toList b 32) Try.underlying37 Try.underlying5 Try.underlying9 (fun j hj => by
          rw [Addr.add_mid, Nat.zero_add, HG.out.cell8 j hj]
          simp [gb, List.getD_eq_getElem?_getD, hj])
        rw [HL.out, xorN_all _ _ HS.out.1 HS.out.2] at this
        exact this
      go_wp2
      go_ret
      exact ⟨rfl, HB.out⟩
    | succ gk =>
      have hlt : (i : Int) < 32 := by omega
      have c1 := HG.out.cell8 i (by rw [HL.out]; omega)
      have f1 := HG.out.frozen i (by rw [HL.out]; omega)
      have i1 := index_text b i (by have := HS.out.2; omega)
      go_wp2
      go_still_tail 11, (by kernel_rfl)
      change wpList _ _ _ _ _ wr.drew
      go_wp2
      rw [u8x]
      go_roundg gk
      case measure => omega
      case rel =>
        refine ⟨i + 1, by omega, rfl, ?_, HB.out.drew.setCell (Nat.le_refl _) _⟩
        have h2 := (HG.out.drew).set8 i (by rw [HL.out]; omega) (gb (xorN a.data.toList b i) i ^^^ gb b.data.toList i)
        rw [xorN_set _ _ i HS.out.1 HS.out.2 (by omega)] at h2
        exact h2
/-- What hamperlaw08.xor tells. -/
def law08_xor.f (a b : ByteArray) : Option ByteArray := if a.size = 32 ∧ b.size = 32 then some ⟨(xorA a.data.toList b).toArray⟩ else none
theorem law08_xor.calls (a b r : ByteArray) (w : World) (h : law08_xor.f a b = some r) : Calls Try.prog 30 #[.string a, .string b] w fun e w' => e = .returned (.string r) ∧ Below w.heap.size w w' := by
  unfold law08_xor.f at h
  split at h
  · rename_i hd
    obtain rfl := Option.some.inj h
    exact xor32 a b hd.1 hd.2 w
  · cases h
end Go.Proofs.Ytbafbpfpnfnikaa.Given
