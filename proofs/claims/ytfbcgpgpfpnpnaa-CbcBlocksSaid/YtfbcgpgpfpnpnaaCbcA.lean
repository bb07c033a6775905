/- Contracts of cbc.Frame and cbc.xor. Conditions: fewer than 2^47 bytes; blocks of 16 bytes. -/
import Derived.Test.YtfbcgpgpfpnpnaaCbcS
import Derived.Test.YtfbcgpgpfpnpnaaBld
import Derived.Test.YtfbcgpgpfpnpnaaShelf
namespace Go.Proofs.Ytfbcgpgpfpnpnaa.Given
open Go.RowKit Go.Proofs.YtfbcgpgpfpnpnaaW.PrintWords Go.Proofs.YtfbcgpgpfpnpnaaW.PrintLast Go.Proofs.YtfbcgpgpfpnpnaaW.PrintMore
open Go.Proofs.Ytfbcgpgpfpnpnaa.Row Go.Proofs.Ytfbcgpgpfpnpnaa.Aes Go.Proofs.Ytfbcgpgpfpnpnaa.Row.At Go.Proofs.Ytfbcgpgpfpnpnaa.Cbc
set_option maxRecDepth 100000
set_option linter.unusedVariables false
set_option linter.unusedSimpArgs false
theorem freshBld (w : World) : Bld w.heap.size w.heap.size [] (w.alloc (.cells #[.pointer none, .slice none 0 0] 62)) := by
  have h := Lib.fresh_isBuilder 62 5 w
  exact Lib.IsBuilderF.of h
theorem lenB {B b : Nat} {l : List UInt8} {w : World} (h : Bld B b l w) (n : Nat) (hn : l.length = n) :
    Calls Try.prog 51 #[.pointer (some ⟨b, 0, none⟩)] w fun e w' => e = .returned (.int .i64 n) ∧ w' = w := by
  have := Try.Builder_Len_f B b _ w h
  rw [Lib.byteCells_length, hn] at this
  exact this
theorem stringB {B b : Nat} {l : List UInt8} {w : World} (h : Bld B b l w) (hB : B ≤ w.heap.size) :
    Calls Try.prog 45 #[.pointer (some ⟨b, 0, none⟩)] w fun e w' => e = .returned (.string (bs l)) ∧ Bld B b l w' ∧ Below B w w' ∧ Lib.OthersKept 5 (some b) w w' :=
  Try.Builder_String_any_k B b l w h hB
theorem be8_take (n k : Nat) (hk : k < 8) : (be8 n).take (8 - k) = (be8 n).take (8 - (k + 1)) ++ [UInt8.ofNat (n / 2 ^ (8 * k))] := by
  have h : 8 - (k + 1) < (be8 n).length := by rw [be8_length]; omega
  have e : 8 - k = (8 - (k + 1)) + 1 := by omega
  rw [e, ← List.take_append_getElem h]
  congr 2
  simp only [be8, List.getElem_map, List.getElem_range]
  congr 3
  omega
theorem byte_of (n k : Nat) : (n : Int) / 2 ^ (8 * k) % 256 = ((UInt8.ofNat (n / 2 ^ (8 * k))).toNat : Int) := by
  rw [UInt8.toNat_ofNat']
  simp
set_option maxHeartbeats 1000000 in
theorem Frame_any (d : ByteArray) (w : World) (hd : d.size ≤ 140737488351232) :
    Calls Try.prog 26 #[.string d] w fun e w' => e = .returned (.string (frameW d)) ∧ Below w.heap.size w w' := by
  have HD := Aside0.mk hd
  have HBl := Aside0.mk (freshBld w)
  have HB : Aside0 (Below w.heap.size w (w.alloc (.cells #[.pointer none, .slice none 0 0] 62))) := ⟨(Below.refl _ w).alloc (Nat.le_refl _) _⟩
  clear hd
  go_enter Try.func26, Try.ntmps26
  go_wp2
  go_loopg [5] 8 (fun gg s5 wx => gg ≤ 8 ∧ s5 = .int .i64 ((gg : Int) - 1) ∧ Bld w.heap.size w.heap.size ((be8 d.size).take (8 - gg)) wx ∧ Below w.heap.size w wx)
  case atStart => exact ⟨by omega, rfl, HBl.out, HB.out⟩
  case round =>
    obtain ⟨hn, rfl, ha, hb⟩ := hrel
    clear HBl HB
    have HA := Aside0.mk ha; have HB := Aside0.mk hb
    clear ha hb
    cases gk with
    | zero =>
      have e8 : (be8 d.size).take (8 - 0) = be8 d.size := List.take_of_length_le (by rw [be8_length]; decide)
      rw [e8] at HA
      clear e8
      go_wp2_with (first | (go_at_call 44; (refine (writeString w.heap.size _ _ d _ HA.out (by have := HD.out; rw [be8_length]; omega) HB.out.size).mono ?_); rintro e w2 ⟨rfl, h2, hb, ho⟩; have n1 := Aside0.mk (HB.out.trans hb); have n2 := Aside0.mk h2; clear HA HB h2 hb ho; have HA := n2; have HB := n1; clear n1 n2))
      obtain ⟨pn, hpn⟩ : ∃ pn, pn = pad d.size := ⟨_, rfl⟩
      go_loopg [] pn (fun gg wx => gg ≤ pn ∧ Bld w.heap.size w.heap.size (be8 d.size ++ d.data.toList ++ List.replicate (pn - gg) 0) wx ∧ Below w.heap.size w wx)
      case atStart => exact ⟨Nat.le_refl _, by simpa using HA.out, HB.out⟩
      case round =>
        obtain ⟨hg, ha, hb⟩ := hrel
        clear HA HB
        have HA := Aside0.mk ha; have HB := Aside0.mk hb
        clear ha hb
        have HPN := Aside0.mk hpn
        clear hpn
        obtain ⟨L, hL⟩ : ∃ L, L = 8 + d.size + (pn - gk) := ⟨_, rfl⟩
        have HL : Aside0 ((be8 d.size ++ d.data.toList ++ List.replicate (pn - gk) (0 : UInt8)).length = L) := ⟨by rw [hL]; simp [be8_length]; omega⟩
        have HLD := Aside0.mk hL
        clear hL
        cases gk with
        | zero =>
          have hz : (L : Int).tmod 16 = 0 := by have h5 := HLD.out; have h3 := HPN.out; have h4 := HD.out; unfold pad at h3; rw [Int.tmod_eq_emod_of_nonneg (by omega)]; omega
          have hz2 := hz
          rw [Int.tmod_eq_emod_of_nonneg (by omega)] at hz2
          go_wp2_with (first
            | (go_at_call 51; (refine (lenB HA.out L HL.out).mono ?_); rintro e w2 ⟨rfl, rfl⟩)
            | (go_at_call 45; (refine (stringB HA.out HB.out.size).mono ?_); rintro e w2 ⟨rfl, h2, hb, ho⟩; have n1 := Aside0.mk (HB.out.trans hb); clear HA HB h2 hb ho; have HB := n1; clear n1))
          go_ret
          refine ⟨?_, HB.out⟩
          have e : frameL d.data.toList = be8 d.size ++ (d.data.toList ++ List.replicate pn 0) := by
            rw [frameL, toList_length, HPN.out, List.append_assoc]
          show Ending.returned (Value.string (bs (be8 d.size ++ (d.data.toList ++ List.replicate pn 0)))) = _
          rw [frameW, e]
        | succ gk =>
          have hz : ¬ ((L : Int).tmod 16 = 0) := by have h5 := HLD.out; have h3 := HPN.out; have h4 := HD.out; unfold pad at h3; rw [Int.tmod_eq_emod_of_nonneg (by omega)]; omega
          have hz2 := hz
          rw [Int.tmod_eq_emod_of_nonneg (by omega)] at hz2
          go_wp2_with (first
            | (go_at_call 51; (refine (lenB HA.out L HL.out).mono ?_); rintro e w2 ⟨rfl, rfl⟩)
            | (go_at_call 50; (refine (writeByte w.heap.size _ _ 0 _ HA.out (by rw [HL.out, HLD.out]; have h3 := HPN.out; have h4 := HD.out; unfold pad at h3; omega) HB.out.size).mono ?_); rintro e w2 ⟨rfl, h2, hb, ho⟩; have n1 := Aside0.mk (HB.out.trans hb); have n2 := Aside0.mk h2; clear HA HB h2 hb ho; have HA := n2; have HB := n1; clear n1 n2))
          go_roundg gk
          case measure => omega
          case rel =>
            refine ⟨by omega, ?_, HB.out⟩
            have e : pn - gk = (pn - (gk + 1)) + 1 := by omega
            rw [e, List.replicate_succ', ← List.append_assoc]
            exact HA.out
    | succ gk =>
      have HBY := Aside0.mk (byte_of d.size gk)
      go_wp2_with (first | (go_at_call 50; (rw [HBY.out]; refine (writeByte w.heap.size _ _ _ _ HA.out (by rw [List.length_take, be8_length]; omega) HB.out.size).mono ?_); rintro e w2 ⟨rfl, h2, hb, ho⟩; have n1 := Aside0.mk (HB.out.trans hb); have n2 := Aside0.mk h2; clear HA HB h2 hb ho; have HA := n2; have HB := n1; clear n1 n2))
      go_roundg gk
      case measure => omega
      case rel => exact ⟨by omega, by congr 1, by rw [be8_take _ _ (by omega)]; exact HA.out, HB.out⟩
end Go.Proofs.Ytfbcgpgpfpnpnaa.Given
