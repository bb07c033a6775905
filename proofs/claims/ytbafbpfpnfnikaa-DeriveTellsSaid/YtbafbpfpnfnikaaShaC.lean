/- A hash in memory; the contract of sha.New. Conditions: none. -/
import Derived.Test.YtbafbpfpnfnikaaShaB
namespace Go.Proofs.Ytbafbpfpnfnikaa.Given
open Go.RowKit Go.Proofs.YtbafbpfpnfnikaaW.PrintWords Go.Proofs.YtbafbpfpnfnikaaW.PrintLast Go.Proofs.YtbafbpfpnfnikaaW.PrintMore
open Go.Proofs.Ytbafbpfpnfnikaa.Row Go.Proofs.Ytbafbpfpnfnikaa.Row.At
set_option maxRecDepth 100000
set_option linter.unusedVariables false
set_option linter.unusedSimpArgs false
def u32s (l : List UInt32) : List Value := l.map u32
def gw (l : List UInt32) (j : Nat) : UInt32 := l.getD j 0
@[simp] theorem u32s_length (l : List UInt32) : (u32s l).length = l.length := by simp [u32s]
theorem u32s_get (l : List UInt32) (j : Nat) (h : j < l.length) : (u32s l)[j]? = some (.int .u32 ((gw l j).toNat : Int)) := by
  simp [u32s, u32, gw, h, List.getD_eq_getElem?_getD]
theorem u32s_set (l : List UInt32) (j : Nat) (b : UInt32) : (u32s l).set j (.int .u32 (b.toNat : Int)) = u32s (l.set j b) := by
  simp [u32s, u32, List.map_set]
theorem u32s_one (l : List UInt32) : ∀ v ∈ u32s l, v.oneCell' = true := by
  intro v hv
  simp only [u32s, List.mem_map] at hv
  obtain ⟨_, _, rfl⟩ := hv
  rfl
theorem gw_set (l : List UInt32) (i j : Nat) (b : UInt32) (h : i < l.length) : gw (l.set i b) j = if i = j then b else gw l j := by
  by_cases e : i = j
  · subst e; simp [gw, List.getD_eq_getElem?_getD, h]
  · simp [gw, List.getD_eq_getElem?_getD, e]
/-- the cells of a hash: its numbers, what is not gone through yet, how many bytes there were, the cube roots' bits -/
def hCells (s : List UInt32) (rest : ByteArray) (many : Nat) (cu : List UInt32) : List Value := u32s s ++ (.string rest :: .int .u64 (many : Int) :: u32s cu)
theorem hCells_length (s : List UInt32) (r : ByteArray) (m : Nat) (c : List UInt32) (hs : s.length = 8) (hc : c.length = 64) : (hCells s r m c).length = 74 := by
  simp [hCells, hs, hc]
theorem hCells_state (s : List UInt32) (r : ByteArray) (m : Nat) (c : List UInt32) (j : Nat) (hs : s.length = 8) (hj : j < 8) : (hCells s r m c)[j]? = some (.int .u32 ((gw s j).toNat : Int)) := by
  rw [hCells, List.getElem?_append_left (by rw [u32s_length]; omega), u32s_get _ _ (by omega)]
theorem hCells_rest (s : List UInt32) (r : ByteArray) (m : Nat) (c : List UInt32) (hs : s.length = 8) : (hCells s r m c)[8]? = some (.string r) := by
  rw [hCells, List.getElem?_append_right (by rw [u32s_length]; omega), u32s_length, hs]; rfl
theorem hCells_many (s : List UInt32) (r : ByteArray) (m : Nat) (c : List UInt32) (hs : s.length = 8) : (hCells s r m c)[9]? = some (.int .u64 (m : Int)) := by
  rw [hCells, List.getElem?_append_right (by rw [u32s_length]; omega), u32s_length, hs]; rfl
theorem hCells_cube (s : List UInt32) (r : ByteArray) (m : Nat) (c : List UInt32) (j : Nat) (hs : s.length = 8) (hj : j < c.length) : (hCells s r m c)[10 + j]? = some (.int .u32 ((gw c j).toNat : Int)) := by
  rw [hCells, List.getElem?_append_right (by rw [u32s_length]; omega), u32s_length, hs]
  rw [show 10 + j - 8 = j + 1 + 1 from by omega, List.getElem?_cons_succ, List.getElem?_cons_succ, u32s_get _ _ hj]
theorem hCells_set_state (s : List UInt32) (r : ByteArray) (m : Nat) (c : List UInt32) (j : Nat) (b : UInt32) (hs : s.length = 8) (hj : j < 8) : (hCells s r m c).set j (.int .u32 (b.toNat : Int)) = hCells (s.set j b) r m c := by
  rw [hCells, List.set_append_left _ _ (by rw [u32s_length]; omega), u32s_set]; rfl
theorem hCells_set_rest (s : List UInt32) (r r' : ByteArray) (m : Nat) (c : List UInt32) (hs : s.length = 8) : (hCells s r m c).set 8 (.string r') = hCells s r' m c := by
  rw [hCells, List.set_append_right _ _ (by rw [u32s_length]; omega), u32s_length, hs]; rfl
theorem hCells_set_many (s : List UInt32) (r : ByteArray) (m m' : Nat) (c : List UInt32) (hs : s.length = 8) : (hCells s r m c).set 9 (.int .u64 (m' : Int)) = hCells s r m' c := by
  rw [hCells, List.set_append_right _ _ (by rw [u32s_length]; omega), u32s_length, hs]; rfl
theorem hCells_set_cube (s : List UInt32) (r : ByteArray) (m : Nat) (c : List UInt32) (j : Nat) (b : UInt32) (hs : s.length = 8) : (hCells s r m c).set (10 + j) (.int .u32 (b.toNat : Int)) = hCells s r m (c.set j b) := by
  rw [hCells, List.set_append_right _ _ (by rw [u32s_length]; omega), u32s_length, hs, show 10 + j - 8 = j + 1 + 1 from by omega, List.set_cons_succ, List.set_cons_succ, u32s_set]; rfl
/-- the bits of the square roots, of the cube roots -/
def H0 : List UInt32 := [0x6a09e667, 0xbb67ae85, 0x3c6ef372, 0xa54ff53a, 0x510e527f, 0x9b05688c, 0x1f83d9ab, 0x5be0cd19]
def KK : List UInt32 := [0x428a2f98, 0x71374491, 0xb5c0fbcf, 0xe9b5dba5, 0x3956c25b, 0x59f111f1, 0x923f82a4, 0xab1c5ed5, 0xd807aa98, 0x12835b01, 0x243185be, 0x550c7dc3, 0x72be5d74, 0x80deb1fe, 0x9bdc06a7, 0xc19bf174, 0xe49b69c1, 0xefbe4786, 0x0fc19dc6, 0x240ca1cc, 0x2de92c6f, 0x4a7484aa, 0x5cb0a9dc, 0x76f988da, 0x983e5152, 0xa831c66d, 0xb00327c8, 0xbf597fc7, 0xc6e00bf3, 0xd5a79147, 0x06ca6351, 0x14292967, 0x27b70a85, 0x2e1b2138, 0x4d2c6dfc, 0x53380d13, 0x650a7354, 0x766a0abb, 0x81c2c92e, 0x92722c85, 0xa2bfe8a1, 0xa81a664b, 0xc24b8b70, 0xc76c51a3, 0xd192e819, 0xd6990624, 0xf40e3585, 0x106aa070, 0x19a4c116, 0x1e376c08, 0x2748774c, 0x34b0bcb5, 0x391c0cb3, 0x4ed8aa4a, 0x5b9cca4f, 0x682e6ff3, 0x748f82ee, 0x78a5636f, 0x84c87814, 0x8cc70208, 0x90befffa, 0xa4506ceb, 0xbef9a3f7, 0xc67178f2]
theorem H0_length : H0.length = 8 := rfl
theorem KK_length : KK.length = 64 := rfl
theorem sq_is : ∀ i, i < 8 → IntKind.u32.wrap ((rootN (sqQ (primeL.getD i 0)) 36 0 : Nat) : Int) = ((gw H0 i).toNat : Int) := by decide +kernel
theorem cu_is : ∀ i, i < 64 → IntKind.u32.wrap ((rootN (cuQ (primeL.getD i 0)) 36 0 : Nat) : Int) = ((gw KK i).toNat : Int) := by decide +kernel
theorem at_go1 {g : Nat} {t : TypeId} {cs : List Value} {w w' : World} (h : At w g t cs) (hb : Below w.heap.size w w') : At w' g t cs := h.below hb h.lt
theorem infoH : (Try.prog.info? 53).map (fun i => (i.zero, i.size)) = some (some (.agg (hCells (List.replicate 8 0) ⟨#[]⟩ 0 (List.replicate 64 0)).toArray), 74) := by kernel_rfl
theorem index64 (l : List Nat) (i : Nat) (h : i < 64) (hl : l.length = 64) (w : World) : (Instr.index 54 (.agg (n64s l).toArray) (.int .i64 (i : Int))).run Try.prog w = .ok (.int .u64 ((l.getD i 0 : Nat) : Int)) w := by
  have h1 : (0 : Int) ≤ (i : Int) ∧ (i : Int) < 64 := by omega
  have h2 := n64s_get l i (by omega)
  have h3 : (n64s l)[i]?.getD undef = .int .u64 ((l.getD i 0 : Nat) : Int) := by rw [h2]; rfl
  simp [Instr.index, go_sem, h1, part, h2]
  omega
def stN (i : Nat) : List UInt32 := H0.take i ++ List.replicate (8 - i) 0
def kkN (i : Nat) : List UInt32 := KK.take i ++ List.replicate (64 - i) 0
theorem stN_length (i : Nat) : (stN i).length = 8 := by simp only [stN, List.length_append, List.length_take, List.length_replicate, H0_length]; omega
theorem kkN_length (i : Nat) (h : i ≤ 64) : (kkN i).length = 64 := by simp only [kkN, List.length_append, List.length_take, List.length_replicate, KK_length]; omega
theorem stN_set (i : Nat) (h : i < 8) : (stN i).set i (gw H0 i) = stN (i + 1) := by
  have hl := H0_length
  have e : 8 - i = (8 - (i + 1)) + 1 := by omega
  have ht : (H0.take i).length = i := by rw [List.length_take]; omega
  rw [stN, stN, e, List.replicate_succ, List.set_append_right _ _ (by omega), ht, Nat.sub_self, List.set_cons_zero, ← List.take_append_getElem (by omega : i < H0.length), List.append_assoc]
  congr 2
  simp [gw, List.getD_eq_getElem?_getD, hl, h]
theorem stN_ge (i : Nat) (h : 8 ≤ i) : stN i = H0 := by
  have hl := H0_length
  rw [stN, List.take_of_length_le (by omega), show 8 - i = 0 from by omega]; simp
theorem kkN_set (i : Nat) (h : i < 64) : (kkN i).set i (gw KK i) = kkN (i + 1) := by
  have hl := KK_length
  have e : 64 - i = (64 - (i + 1)) + 1 := by omega
  have ht : (KK.take i).length = i := by rw [List.length_take]; omega
  rw [kkN, kkN, e, List.replicate_succ, List.set_append_right _ _ (by omega), ht, Nat.sub_self, List.set_cons_zero, ← List.take_append_getElem (by omega : i < KK.length), List.append_assoc]
  congr 2
  simp [gw, List.getD_eq_getElem?_getD, hl, h]
attribute [-simp] Try.isAgg53 Try.sizeOf53 Try.isAgg54 Try.sizeOf54
set_option maxHeartbeats 1000000 in
theorem shaNew_any (w : World) :
    Calls Try.prog 14 #[] w fun e w' => e = .returned (.pointer (some ⟨w.heap.size, 0, none⟩)) ∧ At w' w.heap.size 53 (hCells H0 ⟨#[]⟩ 0 KK) ∧ Below w.heap.size w w' := by
  have z1 := (zero_of_info infoH).1
  have HH0 : Aside0 (At (w.alloc (.cells (hCells (stN 0) ⟨#[]⟩ 0 (kkN 0)).toArray 53 (0, 0))) w.heap.size 53 (hCells (stN 0) ⟨#[]⟩ 0 (kkN 0))) := ⟨At.newAt rfl⟩
  have HB0 : Aside0 (Below w.heap.size w (w.alloc (.cells (hCells (stN 0) ⟨#[]⟩ 0 (kkN 0)).toArray 53 (0, 0)))) := ⟨(Below.refl _ w).alloc (Nat.le_refl _) _⟩
  have e1 : hCells (List.replicate 8 0) ⟨#[]⟩ 0 (List.replicate 64 0) = hCells (stN 0) ⟨#[]⟩ 0 (kkN 0) := rfl
  rw [e1] at z1
  obtain ⟨hc, hhc⟩ : ∃ hc, hc = hCells (stN 0) ⟨#[]⟩ 0 (kkN 0) := ⟨_, rfl⟩
  rw [← hhc] at z1 HH0 HB0
  have HHC := Aside0.mk hhc
  clear e1 hhc
  go_enter Try.func14, Try.ntmps14
  go_wp2_with (go_at_call 31; refine (primes_any _).mono ?_; rintro e w1 ⟨rfl, hb⟩; have n1 := Aside0.mk (at_go1 HH0.out hb); have n2 := Aside0.mk (HB0.out.trans (hb.mono HB0.out.size)); clear HH0 HB0 hb; have HH0 := n1; have HB0 := n2; clear n1 n2)
  rw [HHC.out] at HH0
  clear z1 HHC
  go_loopg [7] 64 (fun gg s7 wx => ∃ i : Nat, i + gg = 64 ∧ s7 = .int .i64 i ∧ At wx w.heap.size 53 (hCells (stN i) ⟨#[]⟩ 0 (kkN i)) ∧ Below w.heap.size w wx)
  case atStart => exact ⟨0, by omega, rfl, HH0.out, HB0.out⟩
  case round =>
    obtain ⟨i, hi, rfl, ha, hb⟩ := hrel
    clear HH0 HB0
    have HA := Aside0.mk ha
    have HB := Aside0.mk hb
    clear ha hb
    cases gk with
    | zero =>
      have hi64 : i = 64 := by omega
      subst hi64
      have e1 : stN 64 = H0 := stN_ge 64 (by decide)
      have e2 : kkN 64 = KK := by decide +kernel
      rw [e1, e2] at HA
      clear e1 e2
      go_wp2
      go_ret
      exact ⟨rfl, HA.out, HB.out⟩
    | succ gk =>
      have hi64 : i < 64 := by omega
      have hix := index64 primeL i hi64 primeL_length wr
      obtain ⟨q, hq⟩ : ∃ q, q = primeL.getD i 0 := ⟨_, rfl⟩
      have hqb : q < 4294967296 := by rw [hq]; have := prime_top i hi64; omega
      have HQB := Aside0.mk hqb
      have hcu : IntKind.u32.wrap ((rootN (cuQ q) 36 0 : Nat) : Int) = ((gw KK i).toNat : Int) := by rw [hq]; exact cu_is i hi64
      have HCU := Aside0.mk hcu
      have HSQ : Aside0 (i < 8 → IntKind.u32.wrap ((rootN (sqQ q) 36 0 : Nat) : Int) = ((gw H0 i).toNat : Int)) := ⟨fun h => by rw [hq]; exact sq_is i h⟩
      rw [← hq] at hix
      have HI := Aside0.mk hi64
      clear hq hqb hcu
      by_cases h8 : i < 8
      · have h8i : (i : Int) < 8 := by omega
        have HSQ2 := Aside0.mk (HSQ.out h8)
        have H8 := Aside0.mk h8
        clear HSQ h8
        go_wp2
        go_region_with (go_at_call 32; refine (square_any q _ HQB.out).mono ?_; rintro e w2 ⟨rfl, hb⟩; rw [HSQ2.out]; have n1 := Aside0.mk (at_go1 (At.drew HA.out) hb); have n2 := Aside0.mk (HB.out.drew.trans (hb.mono HB.out.size)); clear HA HB hb; have HA := n1; have HB := n2; clear n1 n2; have f1 := HA.out.frozen i; have c1 := HA.out.cell i _ (hCells_state (stN i) ⟨#[]⟩ 0 (kkN i) i (stN_length i) H8.out))
        have n1 : At (w2.setCell ⟨w.heap.size, i, none⟩ (.int .u32 ((gw H0 i).toNat : Int))) w.heap.size 53 (hCells (stN (i + 1)) ⟨#[]⟩ 0 (kkN i)) := by
          have h2 := HA.out.set i (.int .u32 ((gw H0 i).toNat : Int))
          rw [hCells_set_state _ _ _ _ _ _ (stN_length i) H8.out, stN_set i H8.out] at h2
          exact h2
        have n2 := HB.out.setCell (p := ⟨w.heap.size, i, none⟩) (Nat.le_refl _) (.int .u32 ((gw H0 i).toNat : Int))
        obtain ⟨w4, hw4⟩ : ∃ w4, w4 = w2.setCell ⟨w.heap.size, i, none⟩ (.int .u32 ((gw H0 i).toNat : Int)) := ⟨_, rfl⟩
        rw [← hw4] at n1 n2 ⊢
        clear HA HB f1 c1 hw4
        have HA := Aside0.mk n1
        have HB := Aside0.mk n2
        clear n1 n2
        go_wp2
        go_region_with (go_at_call 33; refine (cube_any q _ HQB.out).mono ?_; rintro e w3 ⟨rfl, hb⟩; rw [HCU.out]; have n1 := Aside0.mk (at_go1 (At.drew HA.out) hb); have n2 := Aside0.mk (HB.out.drew.trans (hb.mono HB.out.size)); clear HA HB hb; have HA := n1; have HB := n2; clear n1 n2; have f1 := HA.out.frozen (10 + i); have c1 := HA.out.cell (10 + i) _ (hCells_cube (stN (i + 1)) ⟨#[]⟩ 0 (kkN i) i (stN_length _) (by rw [kkN_length i (by have := HI.out; omega)]; exact HI.out)))
        go_wp2
        go_roundg gk
        case measure => omega
        case rel =>
          refine ⟨i + 1, by omega, rfl, ?_, HB.out.setCell (by dsimp; omega) _⟩
          have h2 := HA.out.set (10 + i) (.int .u32 ((gw KK i).toNat : Int))
          rw [hCells_set_cube _ _ _ _ _ _ (stN_length _), kkN_set i HI.out] at h2
          exact h2
      · have h8i : ¬ ((i : Int) < 8) := by omega
        have H8 : Aside0 (stN i = stN (i + 1)) := ⟨by rw [stN_ge i (by omega), stN_ge (i + 1) (by omega)]⟩
        clear HSQ h8
        go_wp2
        go_region_with (go_at_call 33; refine (cube_any q _ HQB.out).mono ?_; rintro e w3 ⟨rfl, hb⟩; rw [HCU.out]; have n1 := Aside0.mk (at_go1 (At.drew HA.out) hb); have n2 := Aside0.mk (HB.out.drew.trans (hb.mono HB.out.size)); clear HA HB hb; have HA := n1; have HB := n2; clear n1 n2; have f1 := HA.out.frozen (10 + i); have c1 := HA.out.cell (10 + i) _ (hCells_cube (stN (i)) ⟨#[]⟩ 0 (kkN i) i (stN_length _) (by rw [kkN_length i (by have := HI.out; omega)]; exact HI.out)))
        go_wp2
        go_roundg gk
        case measure => omega
        case rel =>
          refine ⟨i + 1, by omega, rfl, ?_, HB.out.setCell (by dsimp; omega) _⟩
          have h2 := HA.out.set (10 + i) (.int .u32 ((gw KK i).toNat : Int))
          rw [hCells_set_cube _ _ _ _ _ _ (stN_length _), kkN_set i HI.out] at h2
          rw [← H8.out]; exact h2
end Go.Proofs.Ytbafbpfpnfnikaa.Given
