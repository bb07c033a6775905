/- The contract of cbc.xor. Conditions: blocks of 16 bytes. -/
import Derived.Test.YtfbcgpgpfpnpnaaCbcS
namespace Go.Proofs.Ytfbcgpgpfpnpnaa.Given
open Go.RowKit Go.Proofs.YtfbcgpgpfpnpnaaW.PrintWords Go.Proofs.YtfbcgpgpfpnpnaaW.PrintLast Go.Proofs.YtfbcgpgpfpnpnaaW.PrintMore
open Go.Proofs.Ytfbcgpgpfpnpnaa.Row Go.Proofs.Ytfbcgpgpfpnpnaa.Aes Go.Proofs.Ytfbcgpgpfpnpnaa.Row.At Go.Proofs.Ytfbcgpgpfpnpnaa.Cbc
set_option maxRecDepth 100000
set_option linter.unusedVariables false
set_option linter.unusedSimpArgs false
attribute [-simp] Try.isAgg43 Try.sizeOf43
theorem info16 : (Try.prog.info? 43).map (·.size) = some 16 := by kernel_rfl
theorem xorL_eq (x y : List UInt8) (hx : x.length = 16) (hy : y.length = 16) : xorL x y = mk16 (withF x y) := by
  refine ext8 (by rw [xorL, List.length_zipWith, hx, hy, mk16_length]; rfl) fun j hj => ?_
  have hj16 : j < 16 := by rw [xorL, List.length_zipWith, hx, hy] at hj; simpa using hj
  rw [mk16_at _ _ hj16]
  simp only [gb, xorL, withF, List.getD_eq_getElem?_getD, List.getElem?_zipWith]
  rw [List.getElem?_eq_getElem (by omega), List.getElem?_eq_getElem (by omega)]
  rfl
theorem index_str (b : ByteArray) (i : Nat) (h : i < b.size) (w : World) : (Instr.index 9 (.string b) (.int .i64 (i : Int))).run Try.prog w = .ok (.int .u8 (gb b.data.toList i).toNat) w := by
  have h1 : (0 : Int) ≤ (i : Int) ∧ (i : Int) < (b.size : Int) := by omega
  simp [Instr.index, go_sem, h1, gb, List.getD_eq_getElem?_getD]
  have h2 : i < b.data.size := h
  have h3 : b.data[i]? = some b.data[i] := Array.getElem?_eq_getElem h2
  rw [getElem?_pos b i h, h3]
  rfl
set_option maxHeartbeats 1000000 in
theorem xor_any (a b : ByteArray) (ha : a.size = 16) (hb : b.size = 16) (w : World) :
    Calls Try.prog 43 #[.string a, .string b] w fun e w' => e = .returned (.string (xorW a b)) ∧ Below w.heap.size w w' := by
  have HA := Aside0.mk ha
  have HBs := Aside0.mk hb
  have hconv := Lib.run_convert_string_bytes (P := Try.prog) w 9 39 5 a Try.underlying9 Try.underlying39 Try.underlying5
  obtain ⟨w1, hw1⟩ : ∃ w1, w1 = Lib.bytesWorld w 5 a := ⟨_, rfl⟩
  rw [← hw1, ha] at hconv
  have hat : ∀ c, (Instr.arrayAt 43 (.slice (some ⟨w.heap.size, 0, none⟩) 16 c)).run Try.prog w1 = .ok (.pointer (some ⟨w.heap.size, 0, none⟩)) w1 := by
    intro c
    simp [Instr.arrayAt, run_underlying Try.underlying43]
  have hsz : w1.heap.size = w.heap.size + 1 := by rw [hw1]; exact Lib.bytesWorld_size _ _ _
  have hcells : ∀ j v, (b8s a.data.toList)[j]? = some v → w1.cell? ⟨w.heap.size, 0 + j, none⟩ = some v := by
    intro j v hj
    have hlt : j < a.data.toList.length := by have := (List.getElem?_eq_some_iff.1 hj).1; rwa [b8s_length] at this
    rw [b8s_get _ _ hlt] at hj
    rw [hw1, Nat.zero_add, Lib.bytesWorld_cell w _ a j (by rwa [toList_length] at hlt), ← Option.some.inj hj]
    rfl
  have hbel : Below w.heap.size w w1 := ⟨by rw [hw1]; rfl, by rw [hw1]; rfl, by rw [hw1]; rfl, by omega, fun k hk => by rw [hw1]; exact Lib.bytesWorld_at_old _ _ _ k hk⟩
  have HSZ := Aside0.mk hsz
  have HCE := Aside0.mk hcells
  have HBEL := Aside0.mk hbel
  have HAL := Aside0.mk (toList_length a)
  clear ha hb hsz hcells hbel hw1
  obtain ⟨B, hB⟩ : ∃ B, B = w.heap.size := ⟨_, rfl⟩
  rw [← hB] at hconv hat HSZ HCE HBEL ⊢
  clear hB
  go_enter Try.func43, Try.ntmps43
  have HG0 : Aside0 (At (w1.alloc (.cells #[.int .u8 0, .int .u8 0, .int .u8 0, .int .u8 0, .int .u8 0, .int .u8 0, .int .u8 0, .int .u8 0, .int .u8 0, .int .u8 0, .int .u8 0, .int .u8 0, .int .u8 0, .int .u8 0, .int .u8 0, .int .u8 0] 43 (0, 0))) w1.heap.size 43 (b8s (List.replicate 16 0))) := ⟨At.zeros rfl⟩
  have HBB : Aside0 (Below B w (w1.alloc (.cells #[.int .u8 0, .int .u8 0, .int .u8 0, .int .u8 0, .int .u8 0, .int .u8 0, .int .u8 0, .int .u8 0, .int .u8 0, .int .u8 0, .int .u8 0, .int .u8 0, .int .u8 0, .int .u8 0, .int .u8 0, .int .u8 0] 43 (0, 0)))) := ⟨HBEL.out.alloc (by rw [HSZ.out]; omega) _⟩
  go_wp2_with (first
    | ((with_reducible refine gate_dst (N := 10) rfl ?_); refine wpList_load_mid rfl _ _ rfl B 0 rfl (b8s a.data.toList) _ HCE.out Try.underlying43 rfl (by rw [b8s_length, HAL.out, HA.out]; exact info16) ?_)
    | (refine HG0.out.store _ _ _ (b8s a.data.toList) rfl rfl rfl rfl (by rw [b8s_length, b8s_length, HAL.out, HA.out]; rfl) (by rw [b8s_length, HAL.out, HA.out]; exact info16) (At.one8 _) ?_; have n1 := Aside0.mk (HG0.out.setRow (b8s a.data.toList)); have n2 := Aside0.mk (At.row_below (g := w1.heap.size) HBB.out (by have := HSZ.out; omega) (b8s a.data.toList).toArray); clear HG0 HBB; have HG0 := n1; have HBB := n2; clear n1 n2))
  obtain ⟨g, hg⟩ : ∃ g, g = w1.heap.size := ⟨_, rfl⟩
  rw [← hg] at HG0 HBB ⊢
  have HGB : Aside0 (B ≤ g) := ⟨by rw [hg, HSZ.out]; omega⟩
  have HBL : Aside0 (b.data.toList.length = 16) := ⟨by rw [toList_length, HBs.out]⟩
  have HAL16 : Aside0 (a.data.toList.length = 16) := ⟨by rw [HAL.out, HA.out]⟩
  clear hg
  go_loopg [11] 16 (fun gg s11 wx => ∃ (i : Nat) (l : List UInt8), i + gg = 16 ∧ s11 = .int .i64 i ∧ At wx g 43 (b8s l) ∧ Part (withF a.data.toList b.data.toList) a.data.toList i l ∧ Below B w wx)
  case atStart => exact ⟨0, _, by omega, rfl, HG0.out, Part.start _ HAL16.out, HBB.out⟩
  case round =>
    obtain ⟨i, l, hig, rfl, hl, hR, hb⟩ := hrel
    clear HG0 HBB hconv hat HCE
    have HL := Aside0.mk hl; have HRR := Aside0.mk hR; have HBB := Aside0.mk hb
    clear hl hR hb
    cases gk with
    | zero =>
      have hi : i = 16 := by omega
      subst hi
      have hconv2 : (convert 39 9 (.slice (some ⟨g, 0, none⟩) 16 16)).run Try.prog wr = .ok (.string ⟨l.toArray⟩) wr := by
        have := run_convert_bytes_back (P := Try.prog) wr 39 9 5 ⟨g, 0, none⟩ 16 l Try.underlying39 Try.underlying5 Try.underlying9 (fun j hj => by
          rw [Addr.add_mid, Nat.zero_add, HL.out.cell8 j hj]
          simp [gb, List.getD_eq_getElem?_getD, hj])
        rwa [HRR.out.1] at this
      go_wp2
      go_ret
      refine ⟨?_, HBB.out⟩
      rw [xorW, xorL_eq _ _ HAL16.out HBL.out, ← HRR.out.done]
      rfl
    | succ gk =>
      have hi : i < 16 := by omega
      have c1 := HL.out.cell8 i (by rw [HRR.out.1]; exact hi)
      have f1 := HL.out.frozen i
      have hix := index_str b i (by rw [HBs.out]; exact hi)
      go_wp2
      go_still_tail 8, (by kernel_rfl)
      change wpList _ _ _ _ _ wr.drew
      have c1' : wr.drew.cell? { block := g, off := i } = some (Value.int IntKind.u8 ↑(gb l i).toNat) := c1
      have f1' : wr.drew.frozen? { block := g, off := i } = false := f1
      go_wp2
      rw [u8x]
      go_roundg gk
      case measure => omega
      case rel => exact ⟨i + 1, l.set i (gb l i ^^^ gb b.data.toList i), by omega, by go_num, HL.out.drewSet8 _ _, HRR.out.next hi (by rw [HRR.out.here hi]; rfl), (HBB.out.setCell HGB.out _).drew⟩
end Go.Proofs.Ytfbcgpgpfpnpnaa.Given
